/-
  The codec: numbers, texts, readers and writers of the program. Conditions: the bounds that each contract states.
-/
import GoSem.Core.Value
import Derived.WalkKit
import Derived.OwnWalk
import Derived.WalkSpells
import Derived.Handy
import Derived.WalkLawsBesides
import Derived.RowKitTokens
import Derived.Lib.AppendStr
import Derived.Laws.AppendOwnNone
import Derived.Laws.BytesString
import Derived.ArgAppend
import Derived.Test.YtkngpdmnpgoomaaGreatDoorProg
import Derived.KernelRfl
/-! WLaw -/
/-! The codec's plain laws: numbers in groups of seven bits, as bytes. -/
namespace Go.Wires
/-- A number's bytes: seven bits each, the low ones first; all but the last have their high bit set. -/
def numW (n : Nat) : List UInt8 := if h : 127 < n then UInt8.ofNat (n % 128 + 128) :: numW (n / 128) else [UInt8.ofNat n]
  termination_by n
  decreasing_by omega
/-- A number out of bytes, of which 'k' were read already: the value, and what is left. -/
def readW : Nat → List UInt8 → Option (Nat × List UInt8)
  | _, [] => none
  | k, c :: r =>
    if (k = 9 ∧ 1 < c.toNat) ∨ (0 < k ∧ c.toNat = 0) then none
    else if c.toNat < 128 then some (c.toNat, r)
    else match readW (k + 1) r with
      | some (n, r') => some (c.toNat - 128 + 128 * n, r')
      | none => none
theorem toNat_ofNat {n : Nat} (h : n < 256) : (UInt8.ofNat n).toNat = n := by
  simp [UInt8.toNat_ofNat']; omega
/-- What is written is read as it was, whatever follows. -/
theorem read_num : ∀ (k n : Nat) (r : List UInt8), k ≤ 9 → n < 2 ^ (64 - 7 * k) → (0 < k → 0 < n) → readW k (numW n ++ r) = some (n, r) := by
  intro k
  induction hk : 9 - k generalizing k with
  | zero =>
    intro n r h1 h2 h3
    have : k = 9 := by omega
    subst this
    have hn : n < 2 := by simpa using h2
    have : 0 < n := h3 (by omega)
    have : n = 1 := by omega
    subst this
    rw [numW, dif_neg (by omega)]
    rfl
  | succ d ih =>
    intro n r h1 h2 h3
    rw [numW]
    split
    · rename_i h
      have e : (UInt8.ofNat (n % 128 + 128)).toNat = n % 128 + 128 := toNat_ofNat (by omega)
      simp only [List.cons_append, readW, e]
      rw [if_neg (by omega), if_neg (by omega)]
      have hpow : 2 ^ (64 - 7 * k) = 128 * 2 ^ (64 - 7 * (k + 1)) := by
        rw [show 64 - 7 * k = 7 + (64 - 7 * (k + 1)) by omega, Nat.pow_add]
      rw [ih (k + 1) (by omega) (n / 128) r (by omega) (by rw [hpow] at h2; exact Nat.div_lt_of_lt_mul h2) (by omega)]
      simp only [Option.some.injEq, Prod.mk.injEq, and_true]
      omega
    · rename_i h
      have e : (UInt8.ofNat n).toNat = n := toNat_ofNat (by omega)
      simp only [List.cons_append, List.nil_append, readW, e]
      rw [if_neg (by omega), if_pos (by omega)]
/-- What is read is written so: a number has no two writings. -/
theorem num_read : ∀ (l : List UInt8) (k n : Nat) (r : List UInt8), readW k l = some (n, r) → l = numW n ++ r ∧ (0 < k → 0 < n) ∧ (k ≤ 9 → n < 2 ^ (64 - 7 * k))
  | [], k, n, r, h => by simp [readW] at h
  | c :: l, k, n, r, h => by
    have hc : c.toNat < 256 := UInt8.toNat_lt c
    simp only [readW] at h
    split at h
    · cases h
    · rename_i h1
      split at h
      · rename_i h2
        simp only [Option.some.injEq, Prod.mk.injEq] at h
        obtain ⟨rfl, rfl⟩ := h
        refine ⟨?_, fun _ => by omega, fun hk => ?_⟩
        · rw [numW, dif_neg (by omega)]; simp
        · by_cases h9 : k = 9
          · subst h9; simp; omega
          · have : 2 ^ 7 ≤ 2 ^ (64 - 7 * k) := Nat.pow_le_pow_right (by omega) (by omega)
            omega
      · rename_i h2
        split at h
        · rename_i m r' hr
          simp only [Option.some.injEq, Prod.mk.injEq] at h
          obtain ⟨rfl, rfl⟩ := h
          obtain ⟨g1, g2, g3⟩ := num_read l (k + 1) m r' hr
          have hm := g2 (by omega)
          refine ⟨?_, fun _ => by omega, fun hk => ?_⟩
          · rw [numW, dif_pos (by omega)]
            rw [show (c.toNat - 128 + 128 * m) % 128 + 128 = c.toNat by omega, show (c.toNat - 128 + 128 * m) / 128 = m by omega, g1]
            simp
          · have hk9 : k ≠ 9 := by intro e; subst e; omega
            have := g3 (by omega)
            have hpow : 2 ^ (64 - 7 * k) = 128 * 2 ^ (64 - 7 * (k + 1)) := by
              rw [show 64 - 7 * k = 7 + (64 - 7 * (k + 1)) by omega, Nat.pow_add]
            omega
        · cases h
end Go.Wires

/-! WLaw2 -/
/-! The codec's plain laws: signs, texts, records. -/
namespace Go.Wires
def zig (x : Int) : Nat := if 0 ≤ x then 2 * x.toNat else 2 * (-x - 1).toNat + 1
def zag (n : Nat) : Int := if n % 2 = 0 then ((n / 2 : Nat) : Int) else -((n / 2 : Nat) : Int) - 1
theorem zag_zig (x : Int) : zag (zig x) = x := by
  unfold zag zig
  split
  · rw [if_pos (by omega)]; omega
  · rw [if_neg (by omega)]; omega
theorem zig_zag (n : Nat) : zig (zag n) = n := by
  unfold zag zig
  by_cases h : n % 2 = 0
  · rw [if_pos h, if_pos (by omega)]; omega
  · rw [if_neg h, if_neg (by omega)]; omega
theorem zig_lt {x : Int} (h1 : -2 ^ 63 ≤ x) (h2 : x < 2 ^ 63) : zig x < 2 ^ 64 := by
  unfold zig; split <;> omega
theorem zag_range {n : Nat} (h : n < 2 ^ 64) : -2 ^ 63 ≤ zag n ∧ zag n < 2 ^ 63 := by
  unfold zag; split <;> omega
/-- A reader: what is read, and what is left. -/
abbrev Rd (α : Type) := List UInt8 → Option (α × List UInt8)
def rNum : Rd Nat := readW 0
def rInt : Rd Int := fun l => (rNum l).map fun p => (zag p.1, p.2)
def rTake (n : Nat) : Rd (List UInt8) := fun l => if n ≤ l.length then some (l.take n, l.drop n) else none
def rText (most : Nat) : Rd (List UInt8) := fun l => (rNum l).bind fun p => if p.1 ≤ most then rTake p.1 p.2 else none
def rFlag : Rd Bool
  | [] => none
  | c :: l => if c.toNat ≤ 1 then some (c.toNat == 1, l) else none
def wInt (x : Int) : List UInt8 := numW (zig x)
def wText (s : List UInt8) : List UInt8 := numW s.length ++ s
def wFlag (b : Bool) : List UInt8 := numW (if b then 1 else 0)
theorem rNum_w {n : Nat} (h : n < 2 ^ 64) (r : List UInt8) : rNum (numW n ++ r) = some (n, r) := read_num 0 n r (by omega) (by simpa using h) (by omega)
theorem rNum_r {l r : List UInt8} {n : Nat} (h : rNum l = some (n, r)) : l = numW n ++ r ∧ n < 2 ^ 64 := by
  obtain ⟨h1, _, h3⟩ := num_read l 0 n r h
  exact ⟨h1, by simpa using h3 (by omega)⟩
theorem rInt_w {x : Int} (h1 : -2 ^ 63 ≤ x) (h2 : x < 2 ^ 63) (r : List UInt8) : rInt (wInt x ++ r) = some (x, r) := by
  simp only [rInt, wInt, rNum_w (zig_lt h1 h2), Option.map_some, zag_zig]
theorem rInt_r {l r : List UInt8} {x : Int} (h : rInt l = some (x, r)) : l = wInt x ++ r ∧ -2 ^ 63 ≤ x ∧ x < 2 ^ 63 := by
  simp only [rInt, Option.map_eq_some_iff, Prod.mk.injEq, Prod.exists] at h
  obtain ⟨n, r', hn, rfl, rfl⟩ := h
  obtain ⟨h1, h2⟩ := rNum_r hn
  exact ⟨by rw [wInt, zig_zag]; exact h1, zag_range h2⟩
theorem rText_w {s : List UInt8} {most : Nat} (h : s.length ≤ most) (hm : most < 2 ^ 64) (r : List UInt8) : rText most (wText s ++ r) = some (s, r) := by
  simp only [rText, wText, List.append_assoc, rNum_w (show s.length < 2 ^ 64 by omega), Option.bind_some, h, if_true, rTake]
  rw [if_pos (by simp)]; simp
theorem rText_r {l r s : List UInt8} {most : Nat} (h : rText most l = some (s, r)) : l = wText s ++ r ∧ s.length ≤ most := by
  simp only [rText] at h
  cases hn : rNum l with
  | none => simp [hn] at h
  | some p =>
    obtain ⟨n, l'⟩ := p
    simp only [hn, Option.bind_some] at h
    split at h
    · rename_i hle
      unfold rTake at h
      split at h
      · rename_i hl
        simp only [Option.some.injEq, Prod.mk.injEq] at h
        obtain ⟨rfl, rfl⟩ := h
        obtain ⟨h1, h2⟩ := rNum_r hn
        have e : (List.take n l').length = n := by simp; omega
        refine ⟨?_, by omega⟩
        rw [wText, e, List.append_assoc, List.take_append_drop]; exact h1
      · cases h
    · cases h
theorem numW_small {n : Nat} (h : n ≤ 127) : numW n = [UInt8.ofNat n] := by rw [numW, dif_neg (by omega)]
theorem rFlag_w (b : Bool) (r : List UInt8) : rFlag (wFlag b ++ r) = some (b, r) := by
  cases b <;> simp [wFlag, numW_small, rFlag]
theorem rFlag_r {l r : List UInt8} {b : Bool} (h : rFlag l = some (b, r)) : l = wFlag b ++ r := by
  cases l with
  | nil => simp [rFlag] at h
  | cons c l =>
    simp only [rFlag] at h
    split at h
    · rename_i hc
      simp only [Option.some.injEq, Prod.mk.injEq] at h
      obtain ⟨rfl, rfl⟩ := h
      by_cases h0 : c.toNat = 0
      · have : c = 0 := by apply UInt8.toNat_inj.1; simpa using h0
        subst this; simp [wFlag, numW_small]
      · have h1 : c.toNat = 1 := by omega
        have : c = 1 := by apply UInt8.toNat_inj.1; simpa using h1
        subst this; simp [wFlag, numW_small]
    · cases h
end Go.Wires

/-! W0 -/
/-! Memory, told for the codec: frames, rows of bytes. -/
namespace Go.Wires

def bv (c : UInt8) : Value := .int .u8 (c.toNat : Int)
def bvs (L : List UInt8) : List Value := L.map bv
theorem bvs_length (L : List UInt8) : (bvs L).length = L.length := by simp [bvs]
theorem bvs_append (L M : List UInt8) : bvs (L ++ M) = bvs L ++ bvs M := by simp [bvs]
theorem bvs_oneCell (L : List UInt8) : ∀ u ∈ bvs L, u.oneCell' = true := by
  intro u hu
  obtain ⟨_, _, rfl⟩ := List.mem_map.1 hu
  rfl
theorem bvs_get {L : List UInt8} {j : Nat} {c : UInt8} (h : L[j]? = some c) : (bvs L)[j]? = some (bv c) := by simp [bvs, h]

/-- The world behind: but for the blocks of S, what was there is as it was. -/
structure Fr (S : Nat → Prop) (w w' : World) : Prop where
  os : w'.os = w.os
  out : w'.output = w.output
  size : w.heap.size ≤ w'.heap.size
  block : ∀ k, k < w.heap.size → ¬ S k → w'.heap[k]? = w.heap[k]?
def none' : Nat → Prop := fun _ => False
theorem Fr.refl (S : Nat → Prop) (w : World) : Fr S w w := ⟨rfl, rfl, Nat.le_refl _, fun _ _ _ => rfl⟩
theorem Fr.mono {S S' : Nat → Prop} {w w' : World} (h : Fr S w w') (hs : ∀ k, k < w.heap.size → S k → S' k) : Fr S' w w' := ⟨h.os, h.out, h.size, fun k hk hn => h.block k hk fun hx => hn (hs k hk hx)⟩
theorem Fr.trans' {S S' : Nat → Prop} {a b c : World} (h : Fr S a b) (k : Fr S' b c) (hs : ∀ x, x < a.heap.size → S' x → S x) : Fr S a c :=
  ⟨k.os.trans h.os, k.out.trans h.out, Nat.le_trans h.size k.size, fun x hx hn => (k.block x (Nat.lt_of_lt_of_le hx h.size) (fun hx' => hn (hs x hx hx'))).trans (h.block x hx hn)⟩
theorem Fr.trans {S : Nat → Prop} {a b c : World} (h : Fr S a b) (k : Fr S b c) : Fr S a c := h.trans' k fun _ _ h => h
theorem Fr.of_grown {w w' : World} {row : Option Nat} (h : w.grownBy w' row) : Fr (fun k => some k = row) w w' := ⟨h.os, h.output, h.size, h.block⟩
theorem Fr.setCell (w : World) (a : Addr) (v : Value) : Fr (fun k => k = a.block) w (w.setCell a v) := ⟨rfl, rfl, by simp, fun k _ hn => heap_setCell_other w a k v hn⟩
theorem Fr.setAt (w : World) (b o : Nat) (v : Value) : Fr (· = b) w (w.setCell ⟨b, o, none⟩ v) := Fr.setCell w ⟨b, o, none⟩ v
theorem Fr.alloc (S : Nat → Prop) (w : World) (o : Obj) : Fr S w (w.alloc o) := ⟨rfl, rfl, by simp, fun k hk _ => heap_alloc_old w o hk⟩
theorem Fr.drew (S : Nat → Prop) (w : World) : Fr S w w.drew := ⟨rfl, rfl, Nat.le_refl _, fun _ _ _ => rfl⟩
theorem Fr.heap {S : Nat → Prop} {w w' : World} (h : Fr S w w') {k : Nat} {o : Obj} (ho : w.heap[k]? = some o) (hn : ¬ S k) : w'.heap[k]? = some o :=
  (h.block k (Array.getElem?_eq_some_iff.1 ho).1 hn).trans ho
theorem lt_of_heap {w : World} {k : Nat} {o : Obj} (ho : w.heap[k]? = some o) : k < w.heap.size := (Array.getElem?_eq_some_iff.1 ho).1

/-- Where the bytes of a slice lie. -/
def Sl (w : World) (v : Value) (L : List UInt8) : Prop :=
  (v = .slice none 0 0 ∧ L = []) ∨
  ∃ b off cap, v = .slice (some ⟨b, off, none⟩) L.length cap ∧ L.length ≤ cap ∧ ∀ j u, (bvs L)[j]? = some u → w.cell? ⟨b, off + j, none⟩ = some u
theorem Sl.fr {S : Nat → Prop} {w w' : World} {v : Value} {L : List UInt8} (h : Sl w v L) (hf : Fr S w w') (hn : ∀ b, v.ownBlock = some b → ¬ S b) : Sl w' v L := by
  rcases h with h | ⟨b, off, cap, rfl, hc, h⟩
  · exact .inl h
  · refine .inr ⟨b, off, cap, rfl, hc, fun j u hu => ?_⟩
    have hx := h j u hu
    rw [World.cell?_of_block (hf.block b (World.block_lt_of_cell? w _ hx) (hn b rfl))]
    exact hx
theorem Sl.of_own {w : World} {base : Nat} {v : Value} {L : List UInt8} (h : w.ownsRow base 5 1 v L.length (bvs L)) : Sl w v L := by
  rcases h.2 with ⟨h1, h2⟩ | ⟨g, cap, cur, rfl, hb, hg, hn, hm, hs, ht⟩
  · exact .inl ⟨h1, List.eq_nil_of_length_eq_zero h2⟩
  · refine .inr ⟨g, 0, cap, rfl, hn, fun j u hu => ?_⟩
    have := h.cells (g := g) rfl j u hu
    simpa [Addr.add_lit] using this
theorem cell_obj {w : World} {P : Nat} {c : Array Value} {T : TypeId} {fz : Nat × Nat} (h : w.heap[P]? = some (.cells c T fz)) (i : Nat) : w.cell? ⟨P, i, none⟩ = c[i]? := by simp [World.cell?, h]
theorem frozen_obj {w : World} {P : Nat} {c : Array Value} {T : TypeId} (h : w.heap[P]? = some (.cells c T (0, 0))) (i : Nat) : w.frozen? ⟨P, i, none⟩ = false := by simp [World.frozen?, h]

/-! ### Readers -/
abbrev St := Option (List UInt8)
def InAt (w : World) (P : Nat) (s : St) : Prop :=
  ∃ sv e T, w.heap[P]? = some (.cells #[sv, .int .i64 e] T (0, 0)) ∧ (∀ k, sv.ownBlock = some k → k < P) ∧ match s with | some L => e = 0 ∧ Sl w sv L | none => e ≠ 0 ∧ sv = .slice none 0 0
def nextR : St → UInt8 × Bool × St
  | some (c :: r) => (c, true, some r)
  | _ => (0, false, none)
theorem InAt.keep {S : Nat → Prop} {w w' : World} {P : Nat} {s : St} (h : InAt w P s) (hf : Fr S w w') (hn : ∀ k, k < w.heap.size → S k → P < k) : InAt w' P s := by
  obtain ⟨sv, e, T, hP, hne, hs⟩ := h
  have hlt := lt_of_heap hP
  refine ⟨sv, e, T, hf.heap hP (fun h => Nat.lt_irrefl _ (hn _ hlt h)), hne, ?_⟩
  cases s with
  | none => exact hs
  | some L => exact ⟨hs.1, hs.2.fr hf fun b hb hS => by have h1 := hne b hb; have := hn b (by omega) hS; omega⟩
theorem InAt.fr {w w' : World} {P : Nat} {s : St} (h : InAt w P s) (hf : Fr none' w w') : InAt w' P s := h.keep hf fun _ _ h => h.elim
theorem InAt.lt {w : World} {P : Nat} {s : St} (h : InAt w P s) : P < w.heap.size := by
  obtain ⟨sv, e, T, hP, _⟩ := h
  exact lt_of_heap hP
theorem InAt.set {w : World} {P B o : Nat} {v : Value} {s : St} (h : InAt w P s) (hB : P < B) : InAt (w.setCell ⟨B, o, none⟩ v) P s := h.keep (Fr.setAt w B o v) fun k _ e => by rw [e]; exact hB
/-- A reader over a state; what it gives where it fails. -/
def rdS {α : Type} (rd : Rd α) (d : α) : St → α × St
  | none => (d, none)
  | some L => match rd L with | some (x, r) => (x, some r) | none => (d, none)
def goN (k acc : Nat) : St → Nat × St
  | none => (0, none)
  | some L => match readW k L with | some (n, r) => (acc + n * 128 ^ k, some r) | none => (0, none)
theorem goN_zero (s : St) : rdS rNum 0 s = goN 0 0 s := by
  cases s with
  | none => rfl
  | some L => simp only [rdS, goN, rNum]; cases readW 0 L <;> simp
theorem goN_none (k acc : Nat) : goN k acc none = (0, none) := rfl
theorem goN_nil (k acc : Nat) : goN k acc (some []) = (0, none) := rfl
theorem goN_bad {k acc : Nat} {c : UInt8} {r : List UInt8} (h : (k = 9 ∧ 1 < c.toNat) ∨ (0 < k ∧ c.toNat = 0)) : goN k acc (some (c :: r)) = (0, none) := by
  simp only [goN, readW]; rw [if_pos h]
theorem goN_last {k acc : Nat} {c : UInt8} {r : List UInt8} (h : ¬ ((k = 9 ∧ 1 < c.toNat) ∨ (0 < k ∧ c.toNat = 0))) (hc : c.toNat < 128) : goN k acc (some (c :: r)) = (acc + c.toNat * 128 ^ k, some r) := by
  simp only [goN, readW]; rw [if_neg h, if_pos hc]
theorem goN_next {k acc : Nat} {c : UInt8} {r : List UInt8} (h : ¬ ((k = 9 ∧ 1 < c.toNat) ∨ (0 < k ∧ c.toNat = 0))) (hc : ¬ c.toNat < 128) : goN k acc (some (c :: r)) = goN (k + 1) (acc + (c.toNat - 128) * 128 ^ k) (some r) := by
  simp only [goN, readW]; rw [if_neg h, if_neg hc]
  cases readW (k + 1) r with
  | none => rfl
  | some p => simp only [Nat.pow_succ, Prod.mk.injEq, and_true, Nat.add_mul]; rw [Nat.mul_comm 128 p.1, Nat.mul_assoc p.1 128, Nat.mul_comm 128, Nat.add_assoc]
end Go.Wires

/-! W1 -/
/-! Rows of bytes that grow; writers. -/
namespace Go.Wires
open Go.RowKit

theorem bytes_foldl (L : List UInt8) : ∀ (s : ByteArray), ((L.map fun c => (c.toNat : Int)).foldl (fun r n => r.push (UInt8.ofNat n.toNat)) s) = ⟨⟨s.data.toList ++ L⟩⟩ := by
  induction L with
  | nil => intro s; simp
  | cons c L ih =>
    intro s
    simp only [List.map_cons, List.foldl_cons, ih]
    congr 2
    simp [ByteArray.push]
theorem bytes_of (L : List UInt8) : ((L.map fun c => (c.toNat : Int)).foldl (fun r n => r.push (UInt8.ofNat n.toNat)) ByteArray.empty) = ⟨⟨L⟩⟩ := by
  rw [bytes_foldl]; rfl
theorem bvs_eq (L : List UInt8) : bvs L = (L.map fun c => (c.toNat : Int)).map (Value.int .u8) := by simp [bvs, bv]
/-- A string of a slice's bytes. -/
theorem conv_str {P : Program} {w : World} {v : Value} {L : List UInt8} {src dst e : TypeId} (h : Sl w v L)
    (hs : P.underlying src = some (.slice e)) (he : P.underlying e = some (.int .u8)) (hd : P.underlying dst = some .string) :
    (convert src dst v).run P w = .ok (.string ⟨⟨L⟩⟩) w := by
  rcases h with ⟨rfl, rfl⟩ | ⟨b, off, cap, rfl, hc, hcells⟩
  · rw [run_convert_bytes_string w src dst e none 0 0 hs he hd]
    simp [Conv.bytesToString]
    rfl
  · rw [run_convert_bytes_string w src dst e _ _ _ hs he hd, run_bytesToString w ⟨b, off, none⟩ _ cap (L.map fun c => (c.toNat : Int)) ?_, bytes_of]
    have hl := run_loadCells_list (P := P) w ⟨b, off, none⟩ (bvs L) (fun j u hu => by rw [Addr.add_lit]; exact hcells j u hu)
    rw [bvs_length] at hl
    rw [← bvs_eq]; exact hl
theorem own_base {w : World} {base base' : Nat} {v : Value} {n : Nat} {xs : List Value} (h : w.ownsRow base 5 1 v n xs) (hb : base' ≤ base) : w.ownsRow base' 5 1 v n xs := by
  refine ⟨h.1, ?_⟩
  rcases h.2 with hz | ⟨g, cap, cur, rfl, hbb, rest⟩
  · exact .inl hz
  · exact .inr ⟨g, cap, cur, rfl, Nat.le_trans hb hbb, rest⟩
section
variable {P : Program} {w : World} {ops : Array Oper} {rest : List Oper} {o : Oper} {a : Act} {Q : Exit → Act → World → Prop}
/-- Where a grown row lies: where it lay, or in a new block. -/
def Near (w : World) (v v' : Value) : Prop := v'.ownBlock = v.ownBlock ∨ ∃ d, v'.ownBlock = some d ∧ w.heap.size ≤ d
theorem near_new {w w' : World} {v v' : Value} {n : Nat} {xs : List Value} (h : w'.ownsRow w.heap.size 5 1 v' n xs) (hv : v.ownBlock = none ∨ v' ≠ .slice none 0 0) : Near w v v' := by
  rcases h.2 with ⟨rfl, _⟩ | ⟨g, cap, cur, rfl, hb, _⟩
  · rcases hv with hv | hv
    · exact .inl (by rw [hv]; rfl)
    · exact absurd rfl hv
  · exact .inr ⟨g, rfl, hb⟩
theorem app_run {i : TypeInfo} (t ty : TypeId)
    (ht : P.underlying t = some (.slice 5)) (hi : P.info? 5 = some i) (hz : i.zero = some (.int .u8 0)) (hsize : i.size = 1) (hby : i.bytes = 1)
    (base : Nat) (v : Value) (L M : List UInt8) (hown : w.ownsRow base 5 1 v L.length (bvs L)) (xv : Value) (hM : Sl w xv M)
    (hlen : L.length + M.length ≤ 70368744177664) (hbase : base ≤ w.heap.size) :
    ∃ v' w', (Builtin.append_ #[t, t] ty #[v, xv]).run P w = .ok v' w' ∧ w'.ownsRow base 5 1 v' (L ++ M).length (bvs (L ++ M)) ∧ w.grownBy w' v.ownBlock ∧ Near w v v' := by
  rcases hM with ⟨rfl, rfl⟩ | ⟨b, off, cap, rfl, hc, hcells⟩
  · have hrun := run_append_owned_none (P := P) (w := w) base t ty 5 i 1 ht hi v L.length (bvs L) hown
    exact ⟨v, w, hrun, by simpa using hown, World.grownBy.refl _ _, .inl rfl⟩
  · have hc' : ∀ j u, (bvs M)[j]? = some u → w.cell? ((⟨b, off, none⟩ : Addr).add j) = some u := fun j u hu => by rw [Addr.add_lit]; exact hcells j u hu
    obtain ⟨v', w', hr, h1, h2, h3⟩ := run_append_own (P := P) w base t ty 5 i _ 1 1 ht hi hz hsize hby rfl (by decide) v L.length (bvs L) hown ⟨b, off, none⟩ M.length cap (bvs M) (by simp [bvs]) hc' (bvs_oneCell M) (by simp only [maxLen]; omega) (by omega) hbase
    refine ⟨v', w', hr, by rw [List.length_append, bvs_append]; exact h1, h2, ?_⟩
    rcases hown.2 with ⟨rfl, hn⟩ | ⟨g, cp, cur, rfl, hb, hg, hnc, hm, hsz, htk⟩
    · have hL : L = [] := List.eq_nil_of_length_eq_zero hn
      subst hL
      obtain ⟨v2, w2, hr2, k1, k2, k3⟩ := run_append_own (P := P) w w.heap.size t ty 5 i _ 1 1 ht hi hz hsize hby rfl (by decide) _ 0 [] (World.ownsRow_nil _ _ _ _) ⟨b, off, none⟩ M.length cap (bvs M) (by simp [bvs]) hc' (bvs_oneCell M) (by simp only [maxLen]; omega) (by omega) (Nat.le_refl _)
      have hr2' := hr.symm.trans hr2
      cases hr2'
      exact near_new k1 (.inl rfl)
    · by_cases hroom : L.length + M.length ≤ cp
      · obtain ⟨w2, hr2, _, _⟩ := run_append_fits (P := P) (w := w) base t ty 5 i 1 ht hi hsize g L.length cp (bvs L) hown ⟨b, off, none⟩ M.length cap (bvs M) (by simp [bvs]) hc' (bvs_oneCell M) hroom
        rw [hr] at hr2
        cases hr2
        exact .inl rfl
      · obtain ⟨v2, w2, hr2, k1, k2⟩ := run_append_arg_grows (P := P) w t ty 5 i _ 1 1 ht hi hz hsize hby rfl (by decide) ⟨g, 0, none⟩ L.length cp (bvs L) (by simp [bvs]) (fun j u hu => hown.cells (g := g) rfl j u hu) ⟨b, off, none⟩ M.length cap (bvs M) (by simp [bvs]) hc' (by omega) (by simp only [maxLen]; omega) (by omega)
        rw [hr] at hr2
        cases hr2
        refine near_new k1 (.inr fun e => ?_)
        rcases k1.2 with ⟨_, h0⟩ | ⟨g', c', cur', e', _⟩
        · omega
        · rw [e'] at e; cases e
theorem app_wp {i : TypeInfo} {K : Act → World → Prop} (s x : Operand) (t : TypeId) (ho : o.op = .call { callee := .builtin .append, args := #[s, x], argTypes := #[t, t] })
    (ht : P.underlying t = some (.slice 5)) (hi : P.info? 5 = some i) (hz : i.zero = some (.int .u8 0)) (hsize : i.size = 1) (hby : i.bytes = 1)
    (base : Nat) (v : Value) (L M : List UInt8) (hs : a.eval s = v) (hown : w.ownsRow base 5 1 v L.length (bvs L)) (xv : Value) (hx : a.eval x = xv) (hM : Sl w xv M)
    (hlen : L.length + M.length ≤ 70368744177664) (hbase : base ≤ w.heap.size)
    (h : ∀ v' w', w'.ownsRow base 5 1 v' (L ++ M).length (bvs (L ++ M)) → w.grownBy w' v.ownBlock → Near w v v' → K (a.put o.dst v') w') : o.wp P a w K Q := by
  obtain ⟨v', w', hr, h1, h2, h3⟩ := app_run t o.type ht hi hz hsize hby base v L M hown xv hM hlen hbase
  unfold Oper.wp execOp
  simp only [ho, resolve, invoke, builtin, Sem.run_bind, Sem.run_pure, Result.andThen_ok, List.map_toArray, List.map_cons, List.map_nil, hs, hx, hr]
  exact h v' w' h1 h2 h3
theorem app_sl {i : TypeInfo} (hgd : o.guard = none) (s x : Operand) (t : TypeId) (ho : o.op = .call { callee := .builtin .append, args := #[s, x], argTypes := #[t, t] })
    (ht : P.underlying t = some (.slice 5)) (hi : P.info? 5 = some i) (hz : i.zero = some (.int .u8 0)) (hsize : i.size = 1) (hby : i.bytes = 1)
    (base : Nat) (v : Value) (L M : List UInt8) (hs : a.eval s = v) (hown : w.ownsRow base 5 1 v L.length (bvs L)) (xv : Value) (hx : a.eval x = xv) (hM : Sl w xv M)
    (hlen : L.length + M.length ≤ 70368744177664) (hbase : base ≤ w.heap.size)
    (h : ∀ v' w', w'.ownsRow base 5 1 v' (L ++ M).length (bvs (L ++ M)) → w.grownBy w' v.ownBlock → Near w v v' → wpList P ops Q rest (a.put o.dst v') w') : wpList P ops Q (o :: rest) a w :=
  wpList_plain hgd fun _ hK => app_wp s x t ho ht hi hz hsize hby base v L M hs hown xv hx hM hlen hbase fun v' w' h1 h2 h3 => hK _ _ (h v' w' h1 h2 h3)
/-- The same as a step of a region that draws. -/
theorem app_step {i : TypeInfo} {K : Act → World → Prop} {E : Prop} (hgd : o.guard = none) (s x : Operand) (t : TypeId) (ho : o.op = .call { callee := .builtin .append, args := #[s, x], argTypes := #[t, t] })
    (ht : P.underlying t = some (.slice 5)) (hi : P.info? 5 = some i) (hz : i.zero = some (.int .u8 0)) (hsize : i.size = 1) (hby : i.bytes = 1)
    (base : Nat) (v : Value) (L M : List UInt8) (hs : a.eval s = v) (hown : w.ownsRow base 5 1 v L.length (bvs L)) (xv : Value) (hx : a.eval x = xv) (hM : Sl w xv M)
    (hlen : L.length + M.length ≤ 70368744177664) (hbase : base ≤ w.heap.size)
    (h : ∀ v' w', w'.ownsRow base 5 1 v' (L ++ M).length (bvs (L ++ M)) → w.grownBy w' v.ownBlock → Near w v v' → K (a.put o.dst v') w') :
    if Region.wanted o (yielded ops a.tmps) = true then Oper.wp P o a w K Q else E := by
  have hw : Region.wanted o (yielded ops a.tmps) = true := by simp [Region.wanted, hgd]
  rw [if_pos hw]
  exact app_wp s x t ho ht hi hz hsize hby base v L M hs hown xv hx hM hlen hbase h
theorem app_str {i : TypeInfo} (hgd : o.guard = none) (s x : Operand) (t u : TypeId) (ho : o.op = .call { callee := .builtin .append, args := #[s, x], argTypes := #[t, u] })
    (ht : P.underlying t = some (.slice 5)) (hu : P.underlying u = some .string) (hi : P.info? 5 = some i) (hz : i.zero = some (.int .u8 0)) (hsize : i.size = 1) (hby : i.bytes = 1)
    (base : Nat) (v : Value) (L M : List UInt8) (hs : a.eval s = v) (hown : w.ownsRow base 5 1 v L.length (bvs L)) (hx : a.eval x = .string ⟨⟨M⟩⟩)
    (hlen : L.length + M.length ≤ 70368744177664) (hbase : base ≤ w.heap.size)
    (h : ∀ v' w', w'.ownsRow base 5 1 v' (L ++ M).length (bvs (L ++ M)) → w.grownBy w' v.ownBlock → Near w v v' → wpList P ops Q rest (a.put o.dst v') w') : wpList P ops Q (o :: rest) a w := by
  have hsz : (⟨⟨M⟩⟩ : ByteArray).size = M.length := rfl
  refine wpList_plain hgd fun K hK => ?_
  obtain ⟨v', w', hr, h1, h2, h3⟩ := Go.Lib.run_append_own_string (P := P) w base t u o.type 5 i ht hu hi hz hsize hby v L.length (bvs L) hown ⟨⟨M⟩⟩ (by rw [hsz]; simp only [maxLen]; omega) (by rw [hsz]; omega) hbase
  have hnear : Near w v v' := by
    rcases hown.2 with ⟨rfl, hn⟩ | ⟨g, cp, cur, rfl, hb, hg, hnc, hm, hss, htk⟩
    · have hL : L = [] := List.eq_nil_of_length_eq_zero hn
      subst hL
      obtain ⟨v2, w2, hr2, k1, k2, k3⟩ := Go.Lib.run_append_own_string (P := P) w w.heap.size t u o.type 5 i ht hu hi hz hsize hby (.slice none 0 0) 0 [] (World.ownsRow_nil _ _ _ _) ⟨⟨M⟩⟩ (by rw [hsz]; simp only [maxLen]; omega) (by rw [hsz]; omega) (Nat.le_refl _)
      rw [hr] at hr2
      cases hr2
      exact near_new k1 (.inl rfl)
    · by_cases hroom : L.length + M.length ≤ cp
      · have hr2 := Go.Lib.run_append_room_string (P := P) w t u o.type 5 i ht hu hi hsize g L.length cp cur hg ⟨⟨M⟩⟩ (by rw [hsz]; exact hroom) (by rw [hsz]; omega)
        rw [hr] at hr2
        cases hr2
        exact .inl rfl
      · have hr2 := Go.Lib.run_append_grow_string (P := P) w t u o.type 5 i _ ht hu hi hz ⟨g, 0, none⟩ L.length cp (bvs L) (by simp [bvs, hsize]) (fun j u hu => hown.cells (g := g) rfl j u hu) ⟨⟨M⟩⟩ (by rw [hsz]; omega) (by rw [hsz]; omega)
          (by rw [hby]; exact growslice_fits (by rw [hsz]; omega) (by rw [hsz]; omega))
        rw [hr] at hr2
        cases hr2
        exact .inr ⟨_, rfl, Nat.le_refl _⟩
  rw [hsz] at h1
  unfold Oper.wp
  simp [execOp, ho, resolve, invoke, builtin, hs, hx, hr, Result.andThen]
  refine hK _ _ (h v' w' ?_ h2 hnear)
  rw [List.length_append, bvs_append]; exact h1
end
/-- A slice of one new byte. -/
theorem Sl.one {w : World} {x : Int} {T : TypeId} (c : UInt8) (hx : x = (c.toNat : Int)) : Sl (w.alloc (.cells #[.int .u8 x] T)) (.slice (some ⟨w.heap.size, 0, none⟩) 1 1) [c] := by
  subst hx
  refine .inr ⟨w.heap.size, 0, 1, rfl, by simp, ?_⟩
  intro j u hu
  cases j with
  | zero =>
    simp [bvs] at hu; subst hu
    rw [cell_obj (heap_alloc_new w _) (0 + 0)]; rfl
  | succ j => simp [bvs] at hu
theorem own_fr {S : Nat → Prop} {w w' : World} {base : Nat} {v : Value} {n : Nat} {xs : List Value} (h : w.ownsRow base 5 1 v n xs) (hf : Fr S w w') (hn : ∀ k, v.ownBlock = some k → ¬ S k) : w'.ownsRow base 5 1 v n xs := by
  refine ⟨h.1, ?_⟩
  rcases h.2 with hz | ⟨g, cap, cur, rfl, hb, hgg, rest⟩
  · exact .inl hz
  · exact .inr ⟨g, cap, cur, rfl, hb, hf.heap hgg (hn g rfl), rest⟩

/-! ### A writer in memory -/
def OutAt (w : World) (P : Nat) (L : List UInt8) (D : Option Nat) : Prop :=
  ∃ sv T, w.heap[P]? = some (.cells #[sv] T (0, 0)) ∧ w.ownsRow (P + 1) 5 1 sv L.length (bvs L) ∧ sv.ownBlock = D
def OutFr (P : Nat) (D : Option Nat) : Nat → Prop := fun k => k = P ∨ some k = D
/-- From w to w' the writer at P has come to hold L'. -/
def OutTo (w w' : World) (P : Nat) (D : Option Nat) (L' : List UInt8) : Prop :=
  ∃ D', OutAt w' P L' D' ∧ Fr (OutFr P D) w w' ∧ (D' = D ∨ ∃ d, D' = some d ∧ w.heap.size ≤ d)
theorem OutAt.lt {w : World} {P : Nat} {L : List UInt8} {D : Option Nat} (h : OutAt w P L D) : P < w.heap.size := by
  obtain ⟨sv, T, hP, _⟩ := h
  exact lt_of_heap hP
theorem OutAt.D_gt {w : World} {P : Nat} {L : List UInt8} {D : Option Nat} (h : OutAt w P L D) {k : Nat} (hk : D = some k) : P < k ∧ k < w.heap.size := by
  obtain ⟨sv, T, hP, ho, rfl⟩ := h
  have := ho.lt k hk
  omega
theorem OutTo.refl {w : World} {P : Nat} {L : List UInt8} {D : Option Nat} (h : OutAt w P L D) : OutTo w w P D L := ⟨D, h, Fr.refl _ _, .inl rfl⟩
theorem OutFr.next {w : World} {P : Nat} {D D1 : Option Nat} (h : D1 = D ∨ ∃ d, D1 = some d ∧ w.heap.size ≤ d) {k : Nat} (hk : k < w.heap.size) (hs : OutFr P D1 k) : OutFr P D k := by
  rcases hs with rfl | hs
  · exact .inl rfl
  · rcases h with rfl | ⟨d, rfl, hd⟩
    · exact .inr hs
    · obtain rfl := Option.some.inj hs
      omega
theorem OutTo.trans {w w1 w2 : World} {P : Nat} {D D1 : Option Nat} {L2 : List UInt8} (hf : Fr (OutFr P D) w w1) (hd : D1 = D ∨ ∃ d, D1 = some d ∧ w.heap.size ≤ d) (h : OutTo w1 w2 P D1 L2) : OutTo w w2 P D L2 := by
  obtain ⟨D2, ha, hf2, hd2⟩ := h
  refine ⟨D2, ha, hf.trans' hf2 fun k hk hs => OutFr.next hd hk hs, ?_⟩
  rcases hd2 with rfl | ⟨d, rfl, hd2⟩
  · exact hd
  · exact .inr ⟨d, rfl, Nat.le_trans hf.size hd2⟩
/-- One step of a writer: an append, and the store. -/
theorem OutTo.step {w w1 : World} {P : Nat} {T : TypeId} {sv v : Value} {L' : List UInt8} (hP : w.heap[P]? = some (.cells #[sv] T (0, 0))) (hlt : ∀ k, sv.ownBlock = some k → P < k ∧ k < w.heap.size) (hown : w1.ownsRow (P + 1) 5 1 v L'.length (bvs L')) (hg : w.grownBy w1 sv.ownBlock)
    (hv : Near w sv v) : OutTo w (w1.setCell ⟨P, 0, none⟩ v) P sv.ownBlock L' := by
  have hF := Fr.of_grown hg
  have hP1 : w1.heap[P]? = some (.cells #[sv] T (0, 0)) := hF.heap hP fun e => by have := hlt P e.symm; omega
  refine ⟨v.ownBlock, ⟨v, T, by simpa using heap_setCell_same w1 P 0 _ T v hP1, own_fr hown (Fr.setAt _ _ _ _) ?_, rfl⟩, ?_, hv⟩
  · intro k hk e
    subst e
    have := hown.lt k hk
    omega
  · exact (hF.mono fun k _ h => .inr h).trans ((Fr.setAt _ _ _ _).mono fun k _ h => .inl h)
theorem grown_alloc {w w' : World} {o : Obj} {row : Option Nat} (h : (w.alloc o).grownBy w' row) : w.grownBy w' row :=
  ⟨h.os, h.tape, h.output, Nat.le_trans (by simp) h.size, fun k hk hn => (h.block k (by simp; omega) hn).trans (heap_alloc_old w o hk)⟩
theorem near_alloc {w : World} {o : Obj} {v v' : Value} (h : Near (w.alloc o) v v') : Near w v v' := by
  rcases h with h | ⟨d, h, hd⟩
  · exact .inl h
  · refine .inr ⟨d, h, ?_⟩
    simp at hd; omega
theorem own_alloc {w : World} {o : Obj} {base : Nat} {v : Value} {n : Nat} {xs : List Value} (h : w.ownsRow base 5 1 v n xs) : (w.alloc o).ownsRow base 5 1 v n xs := own_fr h (Fr.alloc none' _ _) (fun _ _ h => h)
theorem grown_heap {w w' : World} {P : Nat} {row : Option Nat} {o : Obj} (h : w.grownBy w' row) (hP : w.heap[P]? = some o) (hn : ∀ k, row = some k → P < k) : w'.heap[P]? = some o :=
  (Fr.of_grown h).heap hP fun e => by have := hn P e.symm; omega
theorem own_some {w : World} {base : Nat} {v : Value} {n : Nat} {xs : List Value} (h : w.ownsRow base 5 1 v n xs) (hn : 0 < n) : ∃ g cp, v = .slice (some ⟨g, 0, none⟩) n cp := by
  rcases h.2 with ⟨_, h0⟩ | ⟨g, cap, cur, e, _⟩
  · omega
  · exact ⟨g, cap, e⟩
theorem own_shape {w : World} {base : Nat} {v : Value} {n : Nat} {xs : List Value} (h : w.ownsRow base 5 1 v n xs) : ∃ ao n' cp, n' = n ∧ v = .slice ao n' cp := by
  rcases h.2 with ⟨e, h0⟩ | ⟨g, cap, cur, e, _⟩
  · exact ⟨none, _, 0, rfl, by rw [e, h0]⟩
  · exact ⟨_, _, cap, rfl, e⟩
/-! ### Rows of whatever cells -/
def Row (w : World) (v : Value) (n : Nat) (cs : List Value) : Prop :=
  (v = .slice none 0 0 ∧ n = 0) ∨ ∃ b off cap, v = .slice (some ⟨b, off, none⟩) n cap ∧ n ≤ cap ∧ ∀ j u, cs[j]? = some u → w.cell? ⟨b, off + j, none⟩ = some u
theorem Row.fr {S : Nat → Prop} {w w' : World} {v : Value} {n : Nat} {cs : List Value} (h : Row w v n cs) (hf : Fr S w w') (hn : ∀ b, v.ownBlock = some b → b < w.heap.size → ¬ S b) : Row w' v n cs := by
  rcases h with h | ⟨b, off, cap, rfl, hc, h⟩
  · exact .inl h
  · refine .inr ⟨b, off, cap, rfl, hc, fun j u hu => ?_⟩
    have hx := h j u hu
    have hlt : b < w.heap.size := World.block_lt_of_cell? w _ hx
    rw [World.cell?_of_block (hf.block b hlt (hn b rfl hlt))]
    exact hx
theorem Row.shape {w : World} {v : Value} {n : Nat} {cs : List Value} (h : Row w v n cs) : ∃ ao cap, v = .slice ao n cap ∧ n ≤ cap := by
  rcases h with ⟨rfl, rfl⟩ | ⟨b, off, cap, rfl, hc, h⟩
  · exact ⟨none, 0, rfl, Nat.le_refl _⟩
  · exact ⟨_, cap, rfl, hc⟩
theorem Row.at {w : World} {ao : Option Addr} {n cap : Nat} {cs : List Value} (h : Row w (.slice ao n cap) n cs) (hn : 0 < n) : ∃ b off, ao = some ⟨b, off, none⟩ ∧ ∀ j u, cs[j]? = some u → w.cell? ⟨b, off + j, none⟩ = some u := by
  rcases h with ⟨e, rfl⟩ | ⟨b, off, cap', e, hc, h⟩
  · omega
  · cases e; exact ⟨b, off, rfl, h⟩
theorem Row.lt {w : World} {ao : Option Addr} {n cap b off : Nat} {cs : List Value} (h : Row w (.slice ao n cap) n cs) (hao : ao = some ⟨b, off, none⟩) {j : Nat} {u : Value} (hu : cs[j]? = some u) : b < w.heap.size := by
  subst hao
  rcases h with ⟨e, rfl⟩ | ⟨b', off', cap', e, hc, h⟩
  · cases e
  · cases e; exact World.block_lt_of_cell? w _ (h j u hu)
end Go.Wires

/-! P0 -/
namespace Go.Proofs
open Go.RowKit Go.Wires
theorem Tryz.info5 : (Tryz.prog.info? 5).map (fun i => (i.zero, i.size, i.bytes)) = some (some (.int .u8 0), 1, 1) := by kernel_rfl
theorem xor_ones64 (b : Nat) (hb : b < 2 ^ 64) : (2 ^ 64 - 1) ^^^ b = 2 ^ 64 - 1 - b := by
  apply Nat.eq_of_testBit_eq
  intro i
  rw [Nat.sub_sub, Nat.add_comm 1 b, Nat.testBit_xor, Nat.testBit_two_pow_sub_succ hb, Nat.testBit_two_pow_sub_one]
  by_cases h : i < 64
  · simp [h]
  · have : b.testBit i = false := Nat.testBit_lt_two_pow (Nat.lt_of_lt_of_le hb (Nat.pow_le_pow_right (by decide) (by omega)))
    simp [h, this]
section
variable {w : World} {ops : Array Oper} {rest : List Oper} {o : Oper} {a : Act} {Q : Exit → Act → World → Prop}
theorem app31 (hgd : o.guard = none) (s x : Operand) (ho : o.op = .call { callee := .builtin .append, args := #[s, x], argTypes := #[31, 31] })
    (base : Nat) (v : Value) (L M : List UInt8) (hs : a.eval s = v) (hown : w.ownsRow base 5 1 v L.length (bvs L)) (xv : Value) (hx : a.eval x = xv) (hM : Sl w xv M)
    (hlen : L.length + M.length ≤ 70368744177664) (hbase : base ≤ w.heap.size)
    (h : ∀ v' w', w'.ownsRow base 5 1 v' (L ++ M).length (bvs (L ++ M)) → w.grownBy w' v.ownBlock → Near w v v' → wpList Tryz.prog ops Q rest (a.put o.dst v') w') : wpList Tryz.prog ops Q (o :: rest) a w := by
  obtain ⟨i, hi, hz, h1, h2⟩ := info_parts Tryz.info5
  exact app_sl hgd s x 31 ho Tryz.underlying31 hi hz h1 h2 base v L M hs hown xv hx hM hlen hbase h
theorem step31 {K : Act → World → Prop} {E : Prop} (hgd : o.guard = none) (s x : Operand) (ho : o.op = .call { callee := .builtin .append, args := #[s, x], argTypes := #[31, 31] })
    (base : Nat) (v : Value) (L M : List UInt8) (hs : a.eval s = v) (hown : w.ownsRow base 5 1 v L.length (bvs L)) (xv : Value) (hx : a.eval x = xv) (hM : Sl w xv M)
    (hlen : L.length + M.length ≤ 70368744177664) (hbase : base ≤ w.heap.size)
    (h : ∀ v' w', w'.ownsRow base 5 1 v' (L ++ M).length (bvs (L ++ M)) → w.grownBy w' v.ownBlock → Near w v v' → K (a.put o.dst v') w') :
    if Region.wanted o (yielded ops a.tmps) = true then Oper.wp Tryz.prog o a w K Q else E := by
  obtain ⟨i, hi, hz, h1, h2⟩ := info_parts Tryz.info5
  exact app_step hgd s x 31 ho Tryz.underlying31 hi hz h1 h2 base v L M hs hown xv hx hM hlen hbase h
theorem app9 (hgd : o.guard = none) (s x : Operand) (ho : o.op = .call { callee := .builtin .append, args := #[s, x], argTypes := #[31, 9] })
    (base : Nat) (v : Value) (L M : List UInt8) (hs : a.eval s = v) (hown : w.ownsRow base 5 1 v L.length (bvs L)) (hx : a.eval x = .string ⟨⟨M⟩⟩)
    (hlen : L.length + M.length ≤ 70368744177664) (hbase : base ≤ w.heap.size)
    (h : ∀ v' w', w'.ownsRow base 5 1 v' (L ++ M).length (bvs (L ++ M)) → w.grownBy w' v.ownBlock → Near w v v' → wpList Tryz.prog ops Q rest (a.put o.dst v') w') : wpList Tryz.prog ops Q (o :: rest) a w := by
  obtain ⟨i, hi, hz, h1, h2⟩ := info_parts Tryz.info5
  exact app_str hgd s x 31 9 ho Tryz.underlying31 Tryz.underlying9 hi hz h1 h2 base v L M hs hown hx hlen hbase h
end
theorem conv9 {w : World} {v : Value} {L : List UInt8} (h : Sl w v L) : (convert 31 9 v).run Tryz.prog w = .ok (.string ⟨⟨L⟩⟩) w := conv_str h Tryz.underlying31 Tryz.underlying5 Tryz.underlying9
end Go.Proofs

/-! W2 -/
/-! Loads and stores of whole variables. -/
namespace Go.Wires
open Go.RowKit
section
variable {P : Program} {w : World} {ops : Array Oper} {rest : List Oper} {o : Oper} {a : Act} {Q : Exit → Act → World → Prop}
theorem load_whole {n : Nat} (hgd : o.guard = none) (t : TypeId) (x : Operand) (ho : o.op = .load t x) (hag : (isAgg t).run P w = .ok true w) (hsz : (sizeOf t).run P w = .ok n w)
    (b off : Nat) (hx : a.eval x = .pointer (some ⟨b, off, none⟩)) (cs : List Value) (hn : cs.length = n) (hc : ∀ j u, cs[j]? = some u → w.cell? ⟨b, off + j, none⟩ = some u)
    (h : wpList P ops Q rest (a.put o.dst (.agg cs.toArray)) w) : wpList P ops Q (o :: rest) a w := by
  refine wpList_plain hgd fun K hK => ?_
  have hl := run_loadCells_list (P := P) w ⟨b, off, none⟩ cs (fun j u hu => by rw [Addr.add_lit]; exact hc j u hu)
  rw [hn] at hl
  unfold Oper.wp execOp
  simp only [ho, hx, Instr.loadAt, Instr.sureAddr, loadVar, Sem.run_bind, Sem.run_pure, Result.andThen_ok, hag, hsz, hl, if_true]
  exact hK _ _ h
theorem store_whole {n : Nat} (hgd : o.guard = none) (t : TypeId) (x y : Operand) (ho : o.op = .store t x y) (hsz : (sizeOf t).run P w = .ok n w)
    (b : Nat) (hx : a.eval x = .pointer (some ⟨b, 0, none⟩)) (cs : List Value) (hy : a.eval y = .agg cs.toArray) (hn : cs.length = n) (h1 : ∀ u ∈ cs, u.oneCell' = true)
    (cur : Array Value) (T : TypeId) (hb : w.heap[b]? = some (.cells cur T (0, 0))) (hcur : cur.size = n)
    (h : ∀ w', w'.heap[b]? = some (.cells cs.toArray T (0, 0)) → Fr (· = b) w w' → wpList P ops Q rest (a.put o.dst undef) w') : wpList P ops Q (o :: rest) a w := by
  refine wpList_plain hgd fun K hK => ?_
  have hst := run_storeCells_at P b 0 T cs 0 cur w hb (by simp; omega) h1
  have hset : (List.take (0 + 0) cur.toList ++ cs ++ List.drop (0 + 0 + cs.length) cur.toList).toArray = cs.toArray := by
    have : List.drop (0 + 0 + cs.length) cur.toList = [] := by apply List.drop_eq_nil_of_le; simp; omega
    rw [this]; simp
  rw [hset] at hst
  unfold Oper.wp execOp
  simp only [ho, hx, hy, Instr.storeAt, Instr.sureAddr, storeVar, Value.cells, Sem.run_bind, Sem.run_pure, Result.andThen_ok, hsz]
  rw [if_neg (by simp [hn])]
  simp only [hst]
  exact hK _ _ (h _ (setRow_heap w b cur cs.toArray T _ hb) ⟨rfl, rfl, by simp, fun k _ hk => setRow_other w b k _ hk⟩)
end
theorem res_cell1 {P : Program} {w : World} {fn : Func} {c : Tmp} {t : TypeId} {n : Nat} {tmps : Array Value} (h : fn.results = #[.cell c t]) (hag : (isAgg t).run P w = .ok true w) (hsz : (sizeOf t).run P w = .ok n w)
    (b : Nat) (hx : tmps.getD c undef = .pointer (some ⟨b, 0, none⟩)) (cs : List Value) (hn : cs.length = n) (T : TypeId) (hb : w.heap[b]? = some (.cells cs.toArray T (0, 0))) :
    (results fn tmps).run P w = .ok (.agg cs.toArray) w := by
  have hl := run_loadCells_list (P := P) w ⟨b, 0, none⟩ cs (fun j u hu => by rw [Addr.add_lit, cell_obj hb, Nat.zero_add]; simpa using hu)
  rw [hn] at hl
  rw [Array.getD_eq_getD_getElem?] at hx
  simp [results, h, hx, asAddr, loadVar, hag, hsz, hl]
theorem res_cell_tmp {P : Program} {w : World} {fn : Func} {c u : Tmp} {t : TypeId} {n : Nat} {tmps : Array Value} (h : fn.results = #[.cell c t, .tmp u]) (hag : (isAgg t).run P w = .ok true w) (hsz : (sizeOf t).run P w = .ok n w)
    (b : Nat) (hx : tmps.getD c undef = .pointer (some ⟨b, 0, none⟩)) (cs : List Value) (hn : cs.length = n) (T : TypeId) (hb : w.heap[b]? = some (.cells cs.toArray T (0, 0))) :
    (results fn tmps).run P w = .ok (.tuple #[.agg cs.toArray, tmps.getD u undef]) w := by
  have hl := run_loadCells_list (P := P) w ⟨b, 0, none⟩ cs (fun j u hu => by rw [Addr.add_lit, cell_obj hb, Nat.zero_add]; simpa using hu)
  rw [hn] at hl
  rw [Array.getD_eq_getD_getElem?] at hx
  simp [results, h, hx, asAddr, loadVar, hag, hsz, hl]
end Go.Wires

/-! P2 -/
namespace Go.Proofs
open Go.RowKit Go.Wires
theorem size_of {P : Program} {t n : Nat} (h : (P.info? t).map (·.size) = some n) (w : World) : (sizeOf t).run P w = .ok n w := by
  obtain ⟨i, hi, hs⟩ := Option.map_eq_some_iff.1 h
  simp [sizeOf, typeInfo, hi, hs]
theorem size23 (w : World) : (sizeOf 23).run Tryz.prog w = .ok 32 w := size_of (by kernel_rfl) w
theorem agg23 (w : World) : (isAgg 23).run Tryz.prog w = .ok true w := by simp [isAgg, run_underlying Tryz.underlying23]
theorem size49 (w : World) : (sizeOf 49).run Tryz.prog w = .ok 6 w := size_of (by kernel_rfl) w
theorem agg49 (w : World) : (isAgg 49).run Tryz.prog w = .ok true w := by simp [isAgg, run_underlying Tryz.underlying49]
theorem size28 (w : World) : (sizeOf 28).run Tryz.prog w = .ok 5 w := size_of (by kernel_rfl) w
theorem agg28 (w : World) : (isAgg 28).run Tryz.prog w = .ok true w := by simp [isAgg, run_underlying Tryz.underlying28]
theorem size30 (w : World) : (sizeOf 30).run Tryz.prog w = .ok 47 w := size_of (by kernel_rfl) w
theorem agg30 (w : World) : (isAgg 30).run Tryz.prog w = .ok true w := by simp [isAgg, run_underlying Tryz.underlying30]
theorem size51 (w : World) : (sizeOf 51).run Tryz.prog w = .ok 8 w := size_of (by kernel_rfl) w
theorem agg51 (w : World) : (isAgg 51).run Tryz.prog w = .ok true w := by simp [isAgg, run_underlying Tryz.underlying51]
section
variable {w : World} {ops : Array Oper} {rest : List Oper} {o : Oper} {a : Act} {Q : Exit → Act → World → Prop}
theorem load23 (hgd : o.guard = none) (x : Operand) (ho : o.op = .load 23 x)
    (b off : Nat) (hx : a.eval x = .pointer (some ⟨b, off, none⟩)) (cs : List Value) (hn : cs.length = 32) (hc : ∀ j u, cs[j]? = some u → w.cell? ⟨b, off + j, none⟩ = some u)
    (h : wpList Tryz.prog ops Q rest (a.put o.dst (.agg cs.toArray)) w) : wpList Tryz.prog ops Q (o :: rest) a w := load_whole hgd 23 x ho (agg23 w) (size23 w) b off hx cs hn hc h
theorem store23 (hgd : o.guard = none) (x y : Operand) (ho : o.op = .store 23 x y)
    (b : Nat) (hx : a.eval x = .pointer (some ⟨b, 0, none⟩)) (cs : List Value) (hy : a.eval y = .agg cs.toArray) (hn : cs.length = 32) (h1 : ∀ u ∈ cs, u.oneCell' = true)
    (cur : Array Value) (T : TypeId) (hb : w.heap[b]? = some (.cells cur T (0, 0))) (hcur : cur.size = 32)
    (h : ∀ w', w'.heap[b]? = some (.cells cs.toArray T (0, 0)) → Fr (· = b) w w' → wpList Tryz.prog ops Q rest (a.put o.dst undef) w') : wpList Tryz.prog ops Q (o :: rest) a w := store_whole hgd 23 x y ho (size23 w) b hx cs hy hn h1 cur T hb hcur h
theorem load49 (hgd : o.guard = none) (x : Operand) (ho : o.op = .load 49 x)
    (b off : Nat) (hx : a.eval x = .pointer (some ⟨b, off, none⟩)) (cs : List Value) (hn : cs.length = 6) (hc : ∀ j u, cs[j]? = some u → w.cell? ⟨b, off + j, none⟩ = some u)
    (h : wpList Tryz.prog ops Q rest (a.put o.dst (.agg cs.toArray)) w) : wpList Tryz.prog ops Q (o :: rest) a w := load_whole hgd 49 x ho (agg49 w) (size49 w) b off hx cs hn hc h
theorem store49 (hgd : o.guard = none) (x y : Operand) (ho : o.op = .store 49 x y)
    (b : Nat) (hx : a.eval x = .pointer (some ⟨b, 0, none⟩)) (cs : List Value) (hy : a.eval y = .agg cs.toArray) (hn : cs.length = 6) (h1 : ∀ u ∈ cs, u.oneCell' = true)
    (cur : Array Value) (T : TypeId) (hb : w.heap[b]? = some (.cells cur T (0, 0))) (hcur : cur.size = 6)
    (h : ∀ w', w'.heap[b]? = some (.cells cs.toArray T (0, 0)) → Fr (· = b) w w' → wpList Tryz.prog ops Q rest (a.put o.dst undef) w') : wpList Tryz.prog ops Q (o :: rest) a w := store_whole hgd 49 x y ho (size49 w) b hx cs hy hn h1 cur T hb hcur h
theorem load28 (hgd : o.guard = none) (x : Operand) (ho : o.op = .load 28 x)
    (b off : Nat) (hx : a.eval x = .pointer (some ⟨b, off, none⟩)) (cs : List Value) (hn : cs.length = 5) (hc : ∀ j u, cs[j]? = some u → w.cell? ⟨b, off + j, none⟩ = some u)
    (h : wpList Tryz.prog ops Q rest (a.put o.dst (.agg cs.toArray)) w) : wpList Tryz.prog ops Q (o :: rest) a w := load_whole hgd 28 x ho (agg28 w) (size28 w) b off hx cs hn hc h
theorem store28 (hgd : o.guard = none) (x y : Operand) (ho : o.op = .store 28 x y)
    (b : Nat) (hx : a.eval x = .pointer (some ⟨b, 0, none⟩)) (cs : List Value) (hy : a.eval y = .agg cs.toArray) (hn : cs.length = 5) (h1 : ∀ u ∈ cs, u.oneCell' = true)
    (cur : Array Value) (T : TypeId) (hb : w.heap[b]? = some (.cells cur T (0, 0))) (hcur : cur.size = 5)
    (h : ∀ w', w'.heap[b]? = some (.cells cs.toArray T (0, 0)) → Fr (· = b) w w' → wpList Tryz.prog ops Q rest (a.put o.dst undef) w') : wpList Tryz.prog ops Q (o :: rest) a w := store_whole hgd 28 x y ho (size28 w) b hx cs hy hn h1 cur T hb hcur h
theorem load30 (hgd : o.guard = none) (x : Operand) (ho : o.op = .load 30 x)
    (b off : Nat) (hx : a.eval x = .pointer (some ⟨b, off, none⟩)) (cs : List Value) (hn : cs.length = 47) (hc : ∀ j u, cs[j]? = some u → w.cell? ⟨b, off + j, none⟩ = some u)
    (h : wpList Tryz.prog ops Q rest (a.put o.dst (.agg cs.toArray)) w) : wpList Tryz.prog ops Q (o :: rest) a w := load_whole hgd 30 x ho (agg30 w) (size30 w) b off hx cs hn hc h
theorem store30 (hgd : o.guard = none) (x y : Operand) (ho : o.op = .store 30 x y)
    (b : Nat) (hx : a.eval x = .pointer (some ⟨b, 0, none⟩)) (cs : List Value) (hy : a.eval y = .agg cs.toArray) (hn : cs.length = 47) (h1 : ∀ u ∈ cs, u.oneCell' = true)
    (cur : Array Value) (T : TypeId) (hb : w.heap[b]? = some (.cells cur T (0, 0))) (hcur : cur.size = 47)
    (h : ∀ w', w'.heap[b]? = some (.cells cs.toArray T (0, 0)) → Fr (· = b) w w' → wpList Tryz.prog ops Q rest (a.put o.dst undef) w') : wpList Tryz.prog ops Q (o :: rest) a w := store_whole hgd 30 x y ho (size30 w) b hx cs hy hn h1 cur T hb hcur h
theorem load51 (hgd : o.guard = none) (x : Operand) (ho : o.op = .load 51 x)
    (b off : Nat) (hx : a.eval x = .pointer (some ⟨b, off, none⟩)) (cs : List Value) (hn : cs.length = 8) (hc : ∀ j u, cs[j]? = some u → w.cell? ⟨b, off + j, none⟩ = some u)
    (h : wpList Tryz.prog ops Q rest (a.put o.dst (.agg cs.toArray)) w) : wpList Tryz.prog ops Q (o :: rest) a w := load_whole hgd 51 x ho (agg51 w) (size51 w) b off hx cs hn hc h
theorem store51 (hgd : o.guard = none) (x y : Operand) (ho : o.op = .store 51 x y)
    (b : Nat) (hx : a.eval x = .pointer (some ⟨b, 0, none⟩)) (cs : List Value) (hy : a.eval y = .agg cs.toArray) (hn : cs.length = 8) (h1 : ∀ u ∈ cs, u.oneCell' = true)
    (cur : Array Value) (T : TypeId) (hb : w.heap[b]? = some (.cells cur T (0, 0))) (hcur : cur.size = 8)
    (h : ∀ w', w'.heap[b]? = some (.cells cs.toArray T (0, 0)) → Fr (· = b) w w' → wpList Tryz.prog ops Q rest (a.put o.dst undef) w') : wpList Tryz.prog ops Q (o :: rest) a w := store_whole hgd 51 x y ho (size51 w) b hx cs hy hn h1 cur T hb hcur h
end
theorem cells_of {w : World} {b : Nat} {cs : List Value} {T : TypeId} (h : w.heap[b]? = some (.cells cs.toArray T (0, 0))) : ∀ j u, cs[j]? = some u → w.cell? ⟨b, 0 + j, none⟩ = some u := by
  intro j u hu
  rw [cell_obj h, Nat.zero_add]; simpa using hu
end Go.Proofs

/-! A2 -/
namespace Go.Proofs
open Go.RowKit Go.Wires
set_option maxHeartbeats 2000000
theorem fail_spec (w : World) (P : Nat) (s : St) (e : Int) (he : e ≠ 0) (h : InAt w P s) : Calls Tryz.prog 67 #[.pointer (some ⟨P, 0, none⟩), .int .i64 e] w fun r w' => r = .returned (.tuple #[]) ∧ InAt w' P none ∧ Fr (· = P) w w' := by
  obtain ⟨sv, e0, T, hP, hne, hs⟩ := h
  have h0 := cell_obj hP 0
  have h1 := cell_obj hP 1
  have f0 := frozen_obj hP 0
  have f1 := frozen_obj hP 1
  simp only [List.getElem?_toArray, List.getElem?_cons_zero, List.getElem?_cons_succ] at h0 h1
  go_enter Tryz.func67, Tryz.ntmps67
  go_wp2
  go_returns
  refine ⟨rfl, ⟨.slice none 0 0, e, T, ?_, by simp [Value.ownBlock], he, rfl⟩, ?_⟩
  · have := heap_setCell_same _ P 1 _ T (.int .i64 e) (heap_setCell_same w P 0 _ T (.slice none 0 0) hP)
    simpa using this
  · exact (Fr.setAt _ _ _ _).trans (Fr.setAt _ _ _ _)
theorem next_spec (w : World) (P : Nat) (s : St) (h : InAt w P s) : Calls Tryz.prog 66 #[.pointer (some ⟨P, 0, none⟩)] w fun e w' =>
    e = .returned (.tuple #[bv (nextR s).1, .bool (nextR s).2.1]) ∧ InAt w' P (nextR s).2.2 ∧ Fr (· = P) w w' := by
  have hI := h
  obtain ⟨sv, e0, T, hP, hne, hs⟩ := h
  have h0 := cell_obj hP 0
  have h1 := cell_obj hP 1
  have f0 := frozen_obj hP 0
  have f1 := frozen_obj hP 1
  simp only [List.getElem?_toArray, List.getElem?_cons_zero, List.getElem?_cons_succ] at h0 h1
  cases s with
  | none =>
    obtain ⟨he, rfl⟩ := hs
    go_enter Tryz.func66, Tryz.ntmps66
    go_wp2
    go_returns
    exact ⟨rfl, hI, Fr.refl _ _⟩
  | some L =>
    obtain ⟨rfl, hs⟩ := hs
    rcases hs with ⟨rfl, rfl⟩ | ⟨b, off, cap, rfl, hc, hcells⟩
    · go_enter Tryz.func66, Tryz.ntmps66
      go_wp2_with (go_at_call 67; refine (fail_spec _ _ _ _ (by decide) hI).mono ?_; rintro e w' ⟨rfl, hI', hF⟩)
      go_returns
      exact ⟨rfl, hI', hF⟩
    · cases L with
      | nil =>
        go_enter Tryz.func66, Tryz.ntmps66
        go_wp2_with (go_at_call 67; refine (fail_spec _ _ _ _ (by decide) hI).mono ?_; rintro e w' ⟨rfl, hI', hF⟩)
        go_returns
        exact ⟨rfl, hI', hF⟩
      | cons c r =>
        have hcell := hcells 0 (bv c) rfl
        simp only [Nat.add_zero, bv] at hcell
        simp only [List.length_cons] at hc
        have hrest : ∀ (off' : Nat) (cap' : Nat), cap' = cap - 1 → (0 < r.length → off' = off + 1) → InAt (w.setCell ⟨P, 0, none⟩ (.slice (some ⟨b, off', none⟩) r.length cap')) P (some r) := by
          intro off' cap' hcap hoff
          have hbP : b < P := hne b rfl
          refine ⟨_, 0, T, by simpa using heap_setCell_same w P 0 _ T _ hP, by simpa [Value.ownBlock] using hbP, rfl, .inr ⟨b, off', cap', rfl, by omega, ?_⟩⟩
          intro j u hu
          have hj : j < r.length := by simpa [bvs] using (List.getElem?_eq_some_iff.1 hu).1
          rw [hoff (by omega), World.cell?_of_block (heap_setCell_other w _ b _ (Nat.ne_of_lt hbP))]
          have := hcells (j + 1) u (by simpa [bvs] using hu)
          rw [← this]; congr 2; omega
        go_enter Tryz.func66, Tryz.ntmps66
        go_wp2
        · go_returns
          exact ⟨rfl, hrest _ _ (by omega) (fun h => by omega), Fr.setAt _ _ _ _⟩
        · go_returns
          exact ⟨rfl, hrest _ _ rfl (fun _ => rfl), Fr.setAt _ _ _ _⟩
end Go.Proofs

/-! A3 -/
namespace Go.Proofs
open Go.RowKit Go.Wires
set_option maxHeartbeats 2000000
def intOf : Value → Int | .int _ q => q | _ => 0
theorem mask127 (c : UInt8) : bits .and .u8 (c.toNat : Int) 127 = ((c.toNat % 128 : Nat) : Int) := by
  have h : bits .and .u8 (c.toNat : Int) 127 = (c.toNat : Int) % 128 := bits_mask .u8 8 (by decide) wraps_u8 7 (by decide) (c.toNat : Int) (by omega) (by have := UInt8.toNat_lt c; omega)
  rw [h]; omega
theorem or_p {acc p m j : Nat} (hp : p = 2 ^ j) (ha : acc < p) (hpp : p ≤ 9223372036854775808) (hb : m * p < 18446744073709551616) : bits .or .u64 (acc : Int) ((m * p : Nat) : Int) = ((acc + m * p : Nat) : Int) := by
  rw [bits_or_u64_nat _ _ (by omega) hb]
  congr 1
  have := Nat.two_pow_add_eq_or_of_lt (i := j) (b := acc) (by rw [← hp]; exact ha) m
  rw [← hp, Nat.mul_comm, Nat.or_comm] at this
  omega
theorem pow9 : 128 ^ 9 = 9223372036854775808 := by decide +kernel
theorem pow8 : 128 ^ 8 = 72057594037927936 := by decide +kernel
theorem or_shift {acc k : Nat} (c : UInt8) (ha : acc < 128 ^ k) (hk : k ≤ 8) :
    bits .or .u64 (acc : Int) (IntKind.u64.wrap ((c.toNat : Int) % 128 * 2 ^ (7 * k))) = ((acc + c.toNat % 128 * 128 ^ k : Nat) : Int) := by
  have hp : 128 ^ k = 2 ^ (7 * k) := by rw [Nat.pow_mul]
  have e : ((c.toNat : Int) % 128 * 2 ^ (7 * k)) = ((c.toNat % 128 * 128 ^ k : Nat) : Int) := by
    rw [hp]; push_cast; rfl
  have h8 := Nat.pow_le_pow_right (n := 128) (by decide) hk
  rw [pow8] at h8
  rw [e]
  generalize 128 ^ k = p at *
  have hm : c.toNat % 128 ≤ 127 := by omega
  have hb := Nat.mul_le_mul hm h8
  generalize c.toNat % 128 = m at *
  generalize hq : m * p = q at *
  have hb' : q < 18446744073709551616 := by omega
  rw [IntWalk.u64_in _ ⟨by omega, by omega⟩, ← hq, or_p hp ha (by omega) (by omega)]
theorem or_last {acc k : Nat} (c : UInt8) (ha : acc < 128 ^ k) (hk : k ≤ 8) (hc : c.toNat < 128) :
    bits .or .u64 (acc : Int) (IntKind.u64.wrap ((c.toNat : Int) % 128 * 2 ^ (7 * k))) = ((acc + c.toNat * 128 ^ k : Nat) : Int) := by
  rw [or_shift c ha hk, Nat.mod_eq_of_lt hc]
theorem or_nine {acc k : Nat} (c : UInt8) (ha : acc < 128 ^ k) (hk : k = 9) (hc : c.toNat ≤ 1) :
    bits .or .u64 (acc : Int) ((c.toNat : Int) % 128 * 9223372036854775808) = ((acc + c.toNat * 128 ^ k : Nat) : Int) := by
  subst hk
  rw [pow9] at ha ⊢
  have e : ((c.toNat : Int) % 128 * 9223372036854775808) = ((c.toNat * 9223372036854775808 : Nat) : Int) := by omega
  rw [e, or_p (p := 9223372036854775808) (j := 63) rfl ha (by omega) (by omega)]
theorem acc_next {acc k m : Nat} (h : acc < 128 ^ k) : acc + m % 128 * 128 ^ k < 128 ^ (k + 1) := by
  rw [Nat.pow_succ]
  have : m % 128 * 128 ^ k ≤ 127 * 128 ^ k := Nat.mul_le_mul_right _ (by omega)
  omega
theorem num_spec (w : World) (P : Nat) (s : St) (h : InAt w P s) : Calls Tryz.prog 28 #[.pointer (some ⟨P, 0, none⟩)] w fun e w' =>
    e = .returned (.int .u64 ((rdS rNum 0 s).1 : Nat)) ∧ InAt w' P (rdS rNum 0 s).2 ∧ Fr (· = P) w w' := by
  rw [goN_zero]
  go_enter Tryz.func28, Tryz.ntmps28
  go_wp2_with fail
  go_loopw [3, 4] (fun n at_ w1 => ∃ (k acc : Nat) (s1 : St), k ≤ 9 ∧ acc < 128 ^ k ∧ at_ = .int .i64 (k : Nat) ∧ n = .int .u64 (acc : Nat) ∧ InAt w1 P s1 ∧ Fr (· = P) w w1 ∧ goN 0 0 s = goN k acc s1) (fun _ at_ _ => 10 - (intOf at_).toNat)
  case atStart => exact ⟨0, 0, s, by omega, by omega, rfl, rfl, h, Fr.refl _ _, rfl⟩
  case round =>
    obtain ⟨k, acc, s1, hk, hacc, rfl, rfl, hI, hF, hg⟩ := hrel
    have H : Hid (goN 0 0 s = goN k acc s1) := hg
    clear hg h
    rcases s1 with _ | L
    · go_wp2_with (go_at_call 66; refine (next_spec _ _ _ hI).mono ?_; rintro e w2 ⟨rfl, hI2, hF2⟩; simp only [nextR, bv])
      go_returns
      rw [H.out, goN_none]
      exact ⟨rfl, hI2, hF.trans hF2⟩
    rcases L with _ | ⟨c, r⟩
    · go_wp2_with (go_at_call 66; refine (next_spec _ _ _ hI).mono ?_; rintro e w2 ⟨rfl, hI2, hF2⟩; simp only [nextR, bv])
      go_returns
      rw [H.out, goN_nil]
      exact ⟨rfl, hI2, hF.trans hF2⟩
    have hm := mask127 c
    have hc8 := UInt8.toNat_lt c
    set_option maxRecDepth 100000 in
    go_wp2_with (first | (go_at_call 66; refine (next_spec _ _ _ hI).mono ?_; rintro e w2 ⟨rfl, hI2, hF2⟩; simp only [nextR, bv] at hI2 ⊢) | (go_at_call 67; refine (fail_spec _ _ _ _ (by decide) hI2).mono ?_; rintro e w3 ⟨rfl, hI3, hF3⟩))

    all_goals (try simp only [beq_iff_eq, beq_eq_false_iff_ne] at *)
    · go_returns
      rw [H.out, goN_bad (by omega)]
      exact ⟨rfl, hI3, (hF.trans hF2).trans hF3⟩
    · go_returns
      rw [H.out, goN_last (by omega) (by omega)]
      exact ⟨congrArg (fun x => Ending.returned (Value.int .u64 x)) (or_nine c hacc (by omega) (by omega)), hI2, hF.trans hF2⟩
    · go_returns
      rw [H.out, goN_bad (by omega)]
      exact ⟨rfl, hI3, (hF.trans hF2).trans hF3⟩
    · go_returns
      rw [H.out, goN_bad (by omega)]
      exact ⟨rfl, hI3, (hF.trans hF2).trans hF3⟩
    · go_returns
      rw [H.out, goN_last (by omega) (by omega)]
      exact ⟨congrArg (fun x => Ending.returned (Value.int .u64 x)) (or_last c hacc (by omega) (by omega)), hI2, hF.trans hF2⟩
    · have hg := H.out
      rw [goN_next (by omega) (by omega), show c.toNat - 128 = c.toNat % 128 by omega] at hg
      refine ⟨⟨k + 1, acc + c.toNat % 128 * 128 ^ k, some r, by omega, acc_next hacc, by simp, by rw [or_shift c hacc (by omega)], hI2, hF.trans hF2, hg⟩, ?_⟩
      simp [intOf]; omega
    · go_returns
      rw [H.out, goN_last (by omega) (by omega)]
      exact ⟨congrArg (fun x => Ending.returned (Value.int .u64 x)) (or_last c hacc (by omega) (by omega)), hI2, hF.trans hF2⟩
    · have hg := H.out
      rw [goN_next (by omega) (by omega), show c.toNat - 128 = c.toNat % 128 by omega] at hg
      refine ⟨⟨k + 1, acc + c.toNat % 128 * 128 ^ k, some r, by omega, acc_next hacc, by simp, by rw [or_shift c hacc (by omega)], hI2, hF.trans hF2, hg⟩, ?_⟩
      simp [intOf]; omega
end Go.Proofs

/-! A4 -/
namespace Go.Proofs
open Go.RowKit Go.Wires
set_option maxHeartbeats 2000000
set_option maxRecDepth 100000
theorem rInt_num (s : St) : rdS rInt 0 s = (zag (rdS rNum 0 s).1, (rdS rNum 0 s).2) := by
  cases s with
  | none => rfl
  | some L => simp only [rdS, rInt]; cases rNum L with
    | none => rfl
    | some p => rfl
theorem rNum_lt (s : St) : (rdS rNum 0 s).1 < 18446744073709551616 := by
  cases s with
  | none => simp [rdS]
  | some L =>
    simp only [rdS]
    cases h : rNum L with
    | none => simp
    | some p => have := (rNum_r (l := L) (n := p.1) (r := p.2) h).2; simpa using this
theorem i64_xor_ones (x : Nat) (hx : x < 9223372036854775808) : bits .xor .i64 (x : Int) (-1) = -(x : Int) - 1 := by
  show IntKind.i64.wrap ((BitVec.ofInt 64 (x : Int) ^^^ BitVec.ofInt 64 (-1)).toNat : Int) = _
  have h1 : (BitVec.ofInt 64 (-1)).toNat = 2 ^ 64 - 1 := by decide
  have h2 : (BitVec.ofInt 64 (x : Int)).toNat = x := by
    rw [BitVec.ofInt_natCast, BitVec.toNat_ofNat]; exact Nat.mod_eq_of_lt (by omega)
  rw [BitVec.toNat_xor, h1, h2, Nat.xor_comm, xor_ones64 x (by omega), IntKind.wrap_i64]
  omega
theorem i64_xor_zero (x : Nat) (hx : x < 9223372036854775808) : bits .xor .i64 (x : Int) 0 = (x : Int) := by
  show IntKind.i64.wrap ((BitVec.ofInt 64 (x : Int) ^^^ BitVec.ofInt 64 0).toNat : Int) = _
  have h2 : (BitVec.ofInt 64 (x : Int)).toNat = x := by
    rw [BitVec.ofInt_natCast, BitVec.toNat_ofNat]; exact Nat.mod_eq_of_lt (by omega)
  rw [BitVec.toNat_xor, h2, show (BitVec.ofInt 64 0).toNat = 0 by decide, Nat.xor_zero, IntKind.wrap_i64]
  omega
theorem u64_and1 (n : Nat) (h₁ : n < 18446744073709551616) : bits .and .u64 (n : Int) 1 = ((n % 2 : Nat) : Int) := by
  have h := bits_and_u64_nat n 1 h₁ (by omega)
  rw [Nat.and_one_is_mod] at h
  exact h
theorem zag_bits (n : Nat) (hn : n < 18446744073709551616) : bits .xor .i64 ((n : Int) / 2) (wrap64 (-wrap64 (bits .and .u64 (n : Int) 1))) = zag n := by
  rw [u64_and1 n hn, show (n : Int) / 2 = ((n / 2 : Nat) : Int) by omega]
  unfold zag
  by_cases h : n % 2 = 0
  · rw [if_pos h, h]
    rw [show wrap64 (-wrap64 ((0 : Nat) : Int)) = 0 by simp [wrap64]]
    exact i64_xor_zero (n / 2) (by omega)
  · rw [if_neg h, show n % 2 = 1 by omega]
    rw [show wrap64 (-wrap64 ((1 : Nat) : Int)) = -1 by simp [wrap64]]
    exact i64_xor_ones (n / 2) (by omega)
theorem int_spec (w : World) (P : Nat) (s : St) (h : InAt w P s) : Calls Tryz.prog 29 #[.pointer (some ⟨P, 0, none⟩)] w fun e w' =>
    e = .returned (.int .i64 (rdS rInt 0 s).1) ∧ InAt w' P (rdS rInt 0 s).2 ∧ Fr (· = P) w w' := by
  rw [rInt_num]
  have hn := rNum_lt s
  generalize hr : rdS rNum 0 s = r at *
  obtain ⟨n, s'⟩ := r
  simp only at hn ⊢
  go_enter Tryz.func29, Tryz.ntmps29
  go_wp2_with (go_at_call 28; refine (num_spec _ _ _ h).mono ?_; rw [hr]; rintro e w2 ⟨rfl, hI2, hF2⟩; simp only at hI2 ⊢)
  go_returns
  exact ⟨congrArg (fun x => Ending.returned (Value.int .i64 x)) (zag_bits n hn), hI2, hF2⟩
theorem flag_spec (w : World) (P : Nat) (s : St) (h : InAt w P s) : Calls Tryz.prog 70 #[.pointer (some ⟨P, 0, none⟩)] w fun e w' =>
    e = .returned (.bool (rdS rFlag false s).1) ∧ InAt w' P (rdS rFlag false s).2 ∧ Fr (· = P) w w' := by
  rcases s with _ | L
  · go_enter Tryz.func70, Tryz.ntmps70
    go_wp2_with (go_at_call 66; refine (next_spec _ _ _ h).mono ?_; rintro e w2 ⟨rfl, hI2, hF2⟩; simp only [nextR, bv] at hI2 ⊢)
    go_returns
    exact ⟨rfl, hI2, hF2⟩
  rcases L with _ | ⟨c, r⟩
  · go_enter Tryz.func70, Tryz.ntmps70
    go_wp2_with (go_at_call 66; refine (next_spec _ _ _ h).mono ?_; rintro e w2 ⟨rfl, hI2, hF2⟩; simp only [nextR, bv] at hI2 ⊢)
    go_returns
    exact ⟨rfl, hI2, hF2⟩
  have hc8 := UInt8.toNat_lt c
  go_enter Tryz.func70, Tryz.ntmps70
  go_wp2_with (first | (go_at_call 66; refine (next_spec _ _ _ h).mono ?_; rintro e w2 ⟨rfl, hI2, hF2⟩; simp only [nextR, bv] at hI2 ⊢) | (go_at_call 67; refine (fail_spec _ _ _ _ (by decide) hI2).mono ?_; rintro e w3 ⟨rfl, hI3, hF3⟩))
  · go_returns
    refine ⟨?_, ?_, hF2.trans hF3⟩
    · have : (rdS rFlag false (some (c :: r))) = (false, none) := by simp only [rdS, rFlag]; rw [if_neg (by omega)]
      rw [this]; rfl
    · have : (rdS rFlag false (some (c :: r))) = (false, none) := by simp only [rdS, rFlag]; rw [if_neg (by omega)]
      rw [this]; exact hI3
  · go_returns
    have : (rdS rFlag false (some (c :: r))) = (c.toNat == 1, some r) := by simp only [rdS, rFlag]; rw [if_pos (by omega)]
    rw [this]
    refine ⟨?_, hI2, hF2⟩
    dsimp only [Array.getD, List.size_toArray, List.length_cons, List.length_nil]
    simp only [Ending.returned.injEq]
    simp
    rw [Bool.eq_iff_iff]; simp; omega
theorem end_spec (w : World) (P : Nat) (s : St) (h : InAt w P s) : Calls Tryz.prog 34 #[.pointer (some ⟨P, 0, none⟩)] w fun e w' =>
    e = .returned (.bool (decide (s = some []))) ∧ w' = w := by
  obtain ⟨sv, e0, T, hP, hne, hs⟩ := h
  have h0 := cell_obj hP 0
  have h1 := cell_obj hP 1
  simp only [List.getElem?_toArray, List.getElem?_cons_zero, List.getElem?_cons_succ] at h0 h1
  rcases s with _ | L
  · obtain ⟨he, rfl⟩ := hs
    go_enter Tryz.func34, Tryz.ntmps34
    go_wp2
    go_returns
    refine ⟨?_, rfl⟩
    dsimp only [Array.getD, List.size_toArray, List.length_cons, List.length_nil]
    simp
  · obtain ⟨rfl, hs⟩ := hs
    rcases hs with ⟨rfl, rfl⟩ | ⟨b, off, cap, rfl, hc, hcells⟩
    · go_enter Tryz.func34, Tryz.ntmps34
      go_wp2
      go_returns
      exact ⟨rfl, rfl⟩
    · go_enter Tryz.func34, Tryz.ntmps34
      go_wp2
      go_returns
      refine ⟨?_, rfl⟩
      dsimp only [Array.getD, List.size_toArray, List.length_cons, List.length_nil]
      simp
      rw [Bool.eq_iff_iff]; simp
theorem take_spec (w : World) (P : Nat) (s : St) (n : Nat) (hn : n < 2 ^ 63) (h : InAt w P s) : Calls Tryz.prog 68 #[.pointer (some ⟨P, 0, none⟩), .int .i64 (n : Nat)] w fun e w' =>
    ∃ v, e = .returned v ∧ v.ownBlock ≠ some P ∧ Sl w' v (rdS (rTake n) [] s).1 ∧ InAt w' P (rdS (rTake n) [] s).2 ∧ Fr (· = P) w w' := by
  have hI := h
  obtain ⟨sv, e0, T, hP, hne, hs⟩ := h
  have h0 := cell_obj hP 0
  have h1 := cell_obj hP 1
  have f0 := frozen_obj hP 0
  simp only [List.getElem?_toArray, List.getElem?_cons_zero, List.getElem?_cons_succ] at h0 h1
  rcases s with _ | L
  · obtain ⟨he, rfl⟩ := hs
    go_enter Tryz.func68, Tryz.ntmps68
    go_wp2
    go_returns
    exact ⟨_, rfl, by simp [Value.ownBlock], .inl ⟨rfl, rfl⟩, hI, Fr.refl _ _⟩
  · obtain ⟨rfl, hs⟩ := hs
    have take_bad : L.length < n → rdS (rTake n) [] (some L) = ([], none) := fun hl => by simp only [rdS, rTake]; rw [if_neg (by omega)]
    have take_ok : ¬ L.length < n → rdS (rTake n) [] (some L) = (L.take n, some (L.drop n)) := fun hl => by simp only [rdS, rTake]; rw [if_pos (by omega)]
    rcases hs with ⟨rfl, rfl⟩ | ⟨b, off, cap, rfl, hc, hcells⟩
    · go_enter Tryz.func68, Tryz.ntmps68
      go_wp2_with (go_at_call 67; refine (fail_spec _ _ _ _ (by decide) hI).mono ?_; rintro e w3 ⟨rfl, hI3, hF3⟩)
      · go_returns
        try rw [take_bad (by simpa using by assumption)]
        exact ⟨_, rfl, by simp [Value.ownBlock], .inl ⟨rfl, rfl⟩, hI3, hF3⟩
      · go_returns
        have hn0 : n = 0 := by omega
        subst hn0
        try rw [take_ok (by simp)]
        refine ⟨_, rfl, by simp [Value.ownBlock], .inl ⟨rfl, rfl⟩, ⟨.slice none 0 0, 0, T, ?_, by simp [Value.ownBlock], rfl, .inl ⟨rfl, rfl⟩⟩, Fr.setAt _ _ _ _⟩
        simpa using heap_setCell_same w P 0 _ T (.slice none 0 0) hP
    · have hbP : b < P := hne b rfl
      have hrest : ∀ (off' cap' : Nat), L.length - n ≤ cap' → (n < L.length → off' = off + n) → InAt (w.setCell ⟨P, 0, none⟩ (.slice (some ⟨b, off', none⟩) (L.length - n) cap')) P (some (L.drop n)) := by
        intro off' cap' hcap hoff
        refine ⟨_, 0, T, by simpa using heap_setCell_same w P 0 _ T _ hP, by simpa [Value.ownBlock] using hbP, rfl, .inr ⟨b, off', cap', by rw [List.length_drop], by rw [List.length_drop]; omega, ?_⟩⟩
        intro j u hu
        have hj : j < L.length - n := by simpa [bvs] using (List.getElem?_eq_some_iff.1 hu).1
        rw [hoff (by omega), World.cell?_of_block (heap_setCell_other w _ b _ (Nat.ne_of_lt hbP))]
        have := hcells (n + j) u (by rw [← hu]; simp [bvs])
        rw [← this]; congr 2; omega
      have hfirst : ∀ w' c', Fr (· = P) w w' → ¬ L.length < n → n ≤ c' → Sl w' (.slice (some ⟨b, off, none⟩) n c') (L.take n) := by
        intro w' c' hf hl hc'
        refine Sl.fr (.inr ⟨b, off, c', by rw [List.length_take, Nat.min_eq_left (by omega)], by rw [List.length_take]; omega, ?_⟩) hf ?_
        · intro j u hu
          have hj : j < n := by have := (List.getElem?_eq_some_iff.1 hu).1; simp [bvs] at this; omega
          exact hcells j u (by rw [← hu]; simp [bvs, hj])
        · intro k hk; simp [Value.ownBlock] at hk; omega
      clear hcells
      go_enter Tryz.func68, Tryz.ntmps68
      go_wp2_with (go_at_call 67; refine (fail_spec _ _ _ _ (by decide) hI).mono ?_; rintro e w3 ⟨rfl, hI3, hF3⟩)
      · go_returns
        try rw [take_bad (by assumption)]
        exact ⟨_, rfl, by simp [Value.ownBlock], .inl ⟨rfl, rfl⟩, hI3, hF3⟩
      · go_returns
        try rw [take_ok (by assumption)]
        exact ⟨_, rfl, by simpa [Value.ownBlock] using Nat.ne_of_lt hbP, hfirst _ _ (Fr.setAt _ _ _ _) (by assumption) (by omega), hrest _ _ (by omega) (by omega), Fr.setAt _ _ _ _⟩
      · go_returns
        try rw [take_ok (by assumption)]
        exact ⟨_, rfl, by simpa [Value.ownBlock] using Nat.ne_of_lt hbP, hfirst _ _ (Fr.setAt _ _ _ _) (by assumption) (by omega), hrest _ _ (by omega) (by omega), Fr.setAt _ _ _ _⟩
end Go.Proofs

/-! A5 -/
namespace Go.Proofs
open Go.RowKit Go.Wires
set_option maxHeartbeats 2000000
set_option maxRecDepth 100000
theorem numW_lt : ∀ (k m : Nat), m < 128 ^ (k + 1) → (numW m).length ≤ k + 1
  | 0, m, h => by rw [numW, dif_neg (by simp at h; omega)]; simp
  | k + 1, m, h => by
    rw [numW]
    split
    · have := numW_lt k (m / 128) (by rw [Nat.pow_succ] at h; exact Nat.div_lt_of_lt_mul (by rw [Nat.mul_comm]; exact h))
      simp only [List.length_cons]; omega
    · simp
theorem numW_le {m : Nat} (h : m < 18446744073709551616) : (numW m).length ≤ 10 := numW_lt 9 m (Nat.lt_of_lt_of_le h (by decide +kernel))
theorem numW_len (m : Nat) : 1 ≤ (numW m).length := by rw [numW]; split <;> simp
theorem byte_high (m : Nat) : bits .or .u8 ((m : Int) % 256) 128 = (((UInt8.ofNat (m % 128 + 128)).toNat : Nat) : Int) := by
  have h := u8_or_nat (m % 256) 128 (by omega) (by omega)
  have e : ∀ x, x < 256 → x ||| 128 = x % 128 + 128 := by decide
  rw [show ((m : Int) % 256) = ((m % 256 : Nat) : Int) by omega]
  refine h.trans ?_
  rw [e _ (by omega), toNat_ofNat (by omega)]
  omega
theorem byte_low (m : Nat) (h : m < 256) : (m : Int) = (((UInt8.ofNat m).toNat : Nat) : Int) := by rw [toNat_ofNat h]
theorem outNum_spec (w : World) (P : Nat) (D : Option Nat) (L : List UInt8) (n : Nat) (hn : n < 2 ^ 64) (h : OutAt w P L D) (hlen : (L ++ numW n).length ≤ 70368744177664) :
    Calls Tryz.prog 15 #[.pointer (some ⟨P, 0, none⟩), .int .u64 (n : Nat)] w fun e w' => e = .returned (.tuple #[]) ∧ OutTo w w' P D (L ++ numW n) := by
  go_enter Tryz.func15, Tryz.ntmps15
  go_wp2_with fail
  go_loopw [1] (fun v w1 => ∃ (m : Nat) (L1 : List UInt8), m < 2 ^ 64 ∧ v = .int .u64 (m : Nat) ∧ OutTo w w1 P D L1 ∧ L1 ++ numW m = L ++ numW n) (fun v _ => match v with | .int _ q => q.toNat | _ => 0)
  case atStart => exact ⟨n, L, hn, rfl, OutTo.refl h, rfl⟩
  case round =>
    obtain ⟨m, L1, hm, rfl, hO, hL⟩ := hrel
    obtain ⟨D1, ⟨sv, T, hP, hown, rfl⟩, hF, hD⟩ := hO
    have hPlt := lt_of_heap hP
    have h0 := cell_obj hP 0
    simp only [List.getElem?_toArray, List.getElem?_cons_zero] at h0
    have f0 := frozen_obj hP 0
    have hnl := numW_len m
    have hLl := congrArg List.length hL
    rw [List.length_append] at hLl
    have hrow : ∀ k, sv.ownBlock = some k → P < k := fun k hk => by have := hown.lt k hk; omega
    have hrow2 : ∀ k, sv.ownBlock = some k → P < k ∧ k < wr.heap.size := fun k hk => by have := hown.lt k hk; omega
    go_wp2_with (first
      | (at_builtin; refine app31 rfl (.tmp 14) (.tmp 18) rfl (P + 1) sv L1 [UInt8.ofNat (m % 128 + 128)] rfl (own_alloc hown) _ rfl (Sl.one _ (byte_high m)) (by simp only [List.length_cons, List.length_nil]; omega) (by simp; omega) ?_; intro v1 w1 hown1 hgrow1 hnear1; obtain ⟨ao1, n1, cp1, -, rfl⟩ := own_shape hown1; have hg := grown_alloc hgrow1; have hP1 := grown_heap hg hP hrow; have h01 := cell_obj hP1 0; simp only [List.getElem?_toArray, List.getElem?_cons_zero] at h01; have f01 := frozen_obj hP1 0)
      | (at_builtin; refine app31 rfl (.tmp 26) (.tmp 29) rfl (P + 1) sv L1 [UInt8.ofNat m] rfl (own_alloc hown) _ rfl (Sl.one _ (byte_low m (by omega))) (by simp only [List.length_cons, List.length_nil]; omega) (by simp; omega) ?_; intro v1 w1 hown1 hgrow1 hnear1; obtain ⟨ao1, n1, cp1, -, rfl⟩ := own_shape hown1; have hg := grown_alloc hgrow1; have hP1 := grown_heap hg hP hrow; have h01 := cell_obj hP1 0; simp only [List.getElem?_toArray, List.getElem?_cons_zero] at h01; have f01 := frozen_obj hP1 0))
    · have hbig : 127 < m := by omega
      have hst := OutTo.trans hF hD (OutTo.step hP hrow2 hown1 hg (near_alloc hnear1))
      rw [numW, dif_pos hbig] at hL
      refine ⟨⟨m / 128, L1 ++ [UInt8.ofNat (m % 128 + 128)], by omega, ?_, hst, by rw [← hL]; simp⟩, ?_⟩
      · simp
      · show ((m : Int) / 128).toNat < (m : Int).toNat
        omega
    · have hsmall : ¬ 127 < m := by omega
      have hst := OutTo.trans hF hD (OutTo.step hP hrow2 hown1 hg (near_alloc hnear1))
      rw [numW, dif_neg hsmall] at hL
      rw [hL] at hst
      go_returns
      exact ⟨rfl, hst⟩
theorem zig_bits (x : Int) (h0 : -9223372036854775808 ≤ x) (h1 : x ≤ 9223372036854775807) :
    bits .xor .u64 (IntKind.u64.wrap (IntKind.u64.wrap x * 2)) (IntKind.u64.wrap (x / 9223372036854775808)) = ((zig x : Nat) : Int) := by
  by_cases hx : 0 ≤ x
  · have e1 : IntKind.u64.wrap x = x := IntWalk.u64_in _ ⟨hx, by omega⟩
    have e2 : IntKind.u64.wrap (x * 2) = ((2 * x.toNat : Nat) : Int) := by rw [IntWalk.u64_in _ ⟨by omega, by omega⟩]; omega
    have e3 : IntKind.u64.wrap (x / 9223372036854775808) = ((0 : Nat) : Int) := by rw [show x / 9223372036854775808 = 0 by omega]; rfl
    rw [e1, e2, e3, bits_xor_u64_nat _ _ (by omega) (by omega), Nat.xor_zero]
    simp [zig, hx]
  · have e1 : IntKind.u64.wrap x = x + 18446744073709551616 := by rw [IntKind.wrap_u64]; omega
    have e2 : IntKind.u64.wrap ((x + 18446744073709551616) * 2) = (((2 * x + 18446744073709551616).toNat : Nat) : Int) := by rw [IntKind.wrap_u64]; omega
    have e3 : IntKind.u64.wrap (x / 9223372036854775808) = ((2 ^ 64 - 1 : Nat) : Int) := by rw [show x / 9223372036854775808 = -1 by omega]; rfl
    rw [e1, e2, e3, bits_xor_u64_nat _ _ (by omega) (by omega), Nat.xor_comm, xor_ones64 _ (by omega)]
    simp only [zig, if_neg hx]; omega
theorem outInt_spec (w : World) (P : Nat) (D : Option Nat) (L : List UInt8) (x : Int) (hx : -9223372036854775808 ≤ x ∧ x ≤ 9223372036854775807) (h : OutAt w P L D) (hlen : L.length ≤ 70368744177000) :
    Calls Tryz.prog 16 #[.pointer (some ⟨P, 0, none⟩), .int .i64 x] w fun e w' => e = .returned (.tuple #[]) ∧ OutTo w w' P D (L ++ wInt x) := by
  have hz : zig x < 18446744073709551616 := zig_lt (by omega) (by omega)
  have hc := outNum_spec w P D L (zig x) hz h (by rw [List.length_append]; have := numW_le hz; omega)
  rw [← zig_bits x hx.1 hx.2] at hc
  go_enter Tryz.func16, Tryz.ntmps16
  go_wp2_with (go_at_call 15; refine hc.mono ?_; rintro e w2 ⟨rfl, hO⟩)
  go_returns
  exact ⟨rfl, hO⟩
theorem outFlag_spec (w : World) (P : Nat) (D : Option Nat) (L : List UInt8) (b : Bool) (h : OutAt w P L D) (hlen : L.length ≤ 70368744177000) :
    Calls Tryz.prog 64 #[.pointer (some ⟨P, 0, none⟩), .bool b] w fun e w' => e = .returned (.tuple #[]) ∧ OutTo w w' P D (L ++ wFlag b) := by
  have hlen1 : ∀ b : Bool, (L ++ numW (if b then 1 else 0)).length ≤ 70368744177664 := fun b => by
    have : (numW (if b then 1 else 0)).length = 1 := by cases b <;> simp [numW]
    rw [List.length_append, this]; omega
  have h1 := outNum_spec w P D L 1 (by decide) h (hlen1 true)
  have h0 := outNum_spec w P D L 0 (by decide) h (hlen1 false)
  cases b
  · go_enter Tryz.func64, Tryz.ntmps64
    go_wp2_with (go_at_call 15; refine h0.mono ?_; rintro e w2 ⟨rfl, hO⟩)
    go_returns
    exact ⟨rfl, hO⟩
  · go_enter Tryz.func64, Tryz.ntmps64
    go_wp2_with (go_at_call 15; refine h1.mono ?_; rintro e w2 ⟨rfl, hO⟩)
    go_returns
    exact ⟨rfl, hO⟩
theorem outText_spec (w : World) (P : Nat) (D : Option Nat) (L S : List UInt8) (hS : S.length ≤ 70368744170000) (h : OutAt w P L D) (hlen : L.length + S.length ≤ 70368744177000) :
    Calls Tryz.prog 19 #[.pointer (some ⟨P, 0, none⟩), .string ⟨⟨S⟩⟩] w fun e w' => e = .returned (.tuple #[]) ∧ OutTo w w' P D (L ++ wText S) := by
  have hc := outNum_spec w P D L S.length (by omega) h (by rw [List.length_append]; have := numW_le (m := S.length) (by omega); omega)
  go_enter Tryz.func19, Tryz.ntmps19
  go_wp2_with (first
    | (go_at_call 15; refine hc.mono ?_; rintro e w2 ⟨rfl, hO⟩; obtain ⟨D1, ⟨sv, T, hP, hown, rfl⟩, hF, hD⟩ := hO; have h0 := cell_obj hP 0; simp only [List.getElem?_toArray, List.getElem?_cons_zero] at h0)
    | (at_builtin; refine app9 rfl _ _ rfl (P + 1) sv (L ++ numW S.length) S rfl hown rfl (by rw [List.length_append]; have := numW_le (m := S.length) (by omega); omega) (lt_of_heap hP) ?_; intro v1 w1 hown1 hg hnear1; obtain ⟨ao1, n1, cp1, -, rfl⟩ := own_shape hown1; have hP1 := grown_heap hg hP (fun k hk => by have := hown.lt k hk; omega); have h01 := cell_obj hP1 0; simp only [List.getElem?_toArray, List.getElem?_cons_zero] at h01; have f01 := frozen_obj hP1 0))
  go_returns
  refine ⟨rfl, ?_⟩
  have := OutTo.trans hF hD (OutTo.step hP (fun k hk => by have := hown.lt k hk; omega) hown1 hg hnear1)
  rw [List.append_assoc] at this
  exact this
theorem outBytes_spec (w : World) (P : Nat) (D : Option Nat) (L : List UInt8) (h : OutAt w P L D) (hlen : L.length ≤ 70368744177000) :
    Calls Tryz.prog 20 #[.pointer (some ⟨P, 0, none⟩)] w fun e w' => ∃ v, e = .returned v ∧ w'.ownsRow w.heap.size 5 1 v L.length (bvs L) ∧ Fr none' w w' := by
  obtain ⟨sv, T, hP, hown, rfl⟩ := h
  have h0 := cell_obj hP 0
  simp only [List.getElem?_toArray, List.getElem?_cons_zero] at h0
  go_enter Tryz.func20, Tryz.ntmps20
  go_wp2_with (at_builtin; refine app31 rfl _ _ rfl w.heap.size (.slice none 0 0) [] L rfl (World.ownsRow_nil _ _ _ _) sv rfl (Sl.of_own hown) (by simp; omega) (Nat.le_refl _) ?_; intro v1 w1 hown1 hg hnear1)
  go_returns
  exact ⟨_, rfl, by simpa using hown1, (Fr.of_grown hg).mono fun k _ hk => by simp [Value.ownBlock] at hk⟩
end Go.Proofs

/-! A6 -/
namespace Go.Proofs
open Go.RowKit Go.Wires
set_option maxHeartbeats 2000000
set_option maxRecDepth 100000
theorem rText_none {most : Nat} {s : St} {n : Nat} (h : rdS rNum 0 s = (n, none)) : rdS (rText most) [] s = ([], none) := by
  cases s with
  | none => rfl
  | some L =>
    simp only [rdS, rText] at h ⊢
    cases hr : rNum L with
    | none => rfl
    | some p => rw [hr] at h; simp at h
theorem rText_some {most : Nat} {s : St} {n : Nat} {r : List UInt8} (h : rdS rNum 0 s = (n, some r)) : rdS (rText most) [] s = if n ≤ most then rdS (rTake n) [] (some r) else ([], none) := by
  cases s with
  | none => simp [rdS] at h
  | some L =>
    simp only [rdS, rText] at h ⊢
    cases hr : rNum L with
    | none => rw [hr] at h; simp at h
    | some p =>
      rw [hr] at h
      simp only [Prod.mk.injEq, Option.some.injEq] at h
      obtain ⟨h1, h2⟩ := h
      simp only [Option.bind_some, h1, h2]
      by_cases hle : n ≤ most <;> simp [hle]
theorem text_spec (w : World) (P : Nat) (s : St) (most : Nat) (hm : most < 2 ^ 62) (h : InAt w P s) : Calls Tryz.prog 32 #[.pointer (some ⟨P, 0, none⟩), .int .i64 (most : Nat)] w fun e w' =>
    e = .returned (.string ⟨⟨(rdS (rText most) [] s).1⟩⟩) ∧ InAt w' P (rdS (rText most) [] s).2 ∧ Fr (· = P) w w' := by
  have hn := rNum_lt s
  rcases hr : rdS rNum 0 s with ⟨n, s'⟩
  rw [hr] at hn
  simp only at hn
  rcases s' with _ | r
  · rw [rText_none hr]
    go_enter Tryz.func32, Tryz.ntmps32
    go_wp2_with (go_at_call 28; refine (num_spec _ _ _ h).mono ?_; rw [hr]; rintro e w2 ⟨rfl, hI2, hF2⟩; obtain ⟨sv, e0, T, hP, hne, he0, rfl⟩ := hI2; have hI2 : InAt w2 P none := ⟨_, e0, T, hP, hne, he0, rfl⟩; have h1 := cell_obj hP 1; simp only [List.getElem?_toArray, List.getElem?_cons_zero, List.getElem?_cons_succ] at h1)
    go_returns
    exact ⟨rfl, hI2, hF2⟩
  · rw [rText_some hr]
    by_cases hle : n ≤ most
    · rw [if_pos hle]
      go_enter Tryz.func32, Tryz.ntmps32
      go_wp2_with (first
        | (go_at_call 28; refine (num_spec _ _ _ h).mono ?_; rw [hr]; rintro e w2 ⟨rfl, hI2, hF2⟩; have hI3 := hI2; obtain ⟨sv, e0, T, hP, hne, rfl, hsl⟩ := hI2; have h1 := cell_obj hP 1; simp only [List.getElem?_toArray, List.getElem?_cons_zero, List.getElem?_cons_succ] at h1)
        | (go_at_call 68; refine (take_spec _ _ _ n (by omega) hI3).mono ?_; rintro e w4 ⟨v4, rfl, hv4, hsl4, hI4, hF4⟩; have hconv := conv9 hsl4))
      go_returns
      exact ⟨rfl, hI4, hF2.trans hF4⟩
    · rw [if_neg hle]
      go_enter Tryz.func32, Tryz.ntmps32
      go_wp2_with (first
        | (go_at_call 28; refine (num_spec _ _ _ h).mono ?_; rw [hr]; rintro e w2 ⟨rfl, hI2, hF2⟩; have hI3 := hI2; obtain ⟨sv, e0, T, hP, hne, rfl, hsl⟩ := hI2; have h1 := cell_obj hP 1; simp only [List.getElem?_toArray, List.getElem?_cons_zero, List.getElem?_cons_succ] at h1)
        | (go_at_call 67; refine (fail_spec _ _ _ _ (by decide) hI3).mono ?_; rintro e w3 ⟨rfl, hI3, hF3⟩))
      go_returns
      exact ⟨rfl, hI3, hF2.trans hF3⟩
theorem read_spec (w : World) (v : Value) (L : List UInt8) (hv : Sl w v L) (hlen : L.length ≤ 70368744177000) : Calls Tryz.prog 27 #[v] w fun e w' =>
    ∃ P, e = .returned (.pointer (some ⟨P, 0, none⟩)) ∧ w.heap.size ≤ P ∧ InAt w' P (some L) ∧ Fr none' w w' := by
  go_enter Tryz.func27, Tryz.ntmps27
  go_wp2_with (at_builtin; refine app31 rfl _ _ rfl w.heap.size (.slice none 0 0) [] L rfl (World.ownsRow_nil _ _ _ _) v rfl hv (by simp; omega) (Nat.le_refl _) ?_; intro v1 w1 hown1 hg hnear1; obtain ⟨ao1, n1, cp1, -, rfl⟩ := own_shape hown1)
  go_returns
  have hF : Fr none' w w1 := (Fr.of_grown hg).mono fun k _ hk => by simp [Value.ownBlock] at hk
  refine ⟨_, rfl, hF.size, ⟨_, 0, 144, heap_alloc_new w1 _, ?_, rfl, ?_⟩, hF.trans (Fr.alloc none' _ _)⟩
  · intro k e
    exact (hown1.lt _ e).2
  · simp only [List.nil_append] at hown1
    exact Sl.fr (Sl.of_own hown1) (Fr.alloc none' _ _) (fun _ _ h => h)
end Go.Proofs
