/-
  The codec: what the reference writes. Conditions: the bounds that each contract states.
-/
import Derived.Test.YtkngpdmnpgoomaaGreatDoorCodA
import Derived.Test.YtkngpdmnpgoomaaGreatDoorCodB
/-! B1 -/
namespace Go.Proofs
open Go.RowKit Go.Wires
set_option maxHeartbeats 4000000
set_option maxRecDepth 100000
/-- A slice of one's own from base N on. -/
def Ow (N : Nat) (w : World) (v : Value) (L : List UInt8) : Prop := w.ownsRow N 5 1 v L.length (bvs L)
def intN : Value → Nat | .int _ q => q.toNat | _ => 0
theorem byte_high2 (m : Nat) : ((m : Int) % 128 + 128) = (((UInt8.ofNat (m % 128 + 128)).toNat : Nat) : Int) := by
  rw [toNat_ofNat (by omega)]; omega
theorem rfNum_spec (w : World) (n : Nat) (hn : n < 18446744073709551616) : Calls Tryz.prog 21 #[.int .u64 (n : Nat)] w fun e w' => ∃ v, e = .returned v ∧ Ow w.heap.size w' v (numW n) ∧ Fr none' w w' := by
  have hnl := numW_le hn
  go_enter Tryz.func21, Tryz.ntmps21
  go_wp2_with fail
  go_loopw [0, 3] (fun u0 u3 w1 => ∃ (m : Nat) (L1 : List UInt8), m < 18446744073709551616 ∧ u0 = .int .u64 (m : Nat) ∧ Ow w.heap.size w1 u3 L1 ∧ Fr none' w w1 ∧ L1 ++ numW m = numW n) (fun v _ _ => (intN v))
  case atStart => exact ⟨n, [], hn, rfl, World.ownsRow_nil _ _ _ _, Fr.refl _ _, rfl⟩
  case round =>
    obtain ⟨m, L1, hm, rfl, hO, hF, hL⟩ := hrel
    obtain ⟨ao, n1, cp, hn1, rfl⟩ := own_shape hO
    have hN : Hid (n1 = L1.length) := hn1
    clear hn1
    have hLl := congrArg List.length hL
    rw [List.length_append] at hLl
    have hml := numW_len m
    have hsz := hF.size
    have hfr : ∀ {w1 : World} {x : Value}, wr.grownBy w1 x.ownBlock → (∀ k, x.ownBlock = some k → w.heap.size ≤ k) → Fr none' w w1 := fun hg hk => hF.trans' (Fr.of_grown hg) fun x hx e => by have := hk x e.symm; omega
    have hok : ∀ k, (Value.slice ao n1 cp).ownBlock = some k → w.heap.size ≤ k := fun k hk => (World.ownsRow.lt hO k hk).1
    go_wp2_with (first
      | (at_builtin; refine app31 rfl (.tmp 6) (.tmp 11) rfl w.heap.size (.slice ao n1 cp) L1 [UInt8.ofNat (m % 128 + 128)] rfl (own_alloc hO) _ rfl (Sl.one _ (byte_high2 m)) (by simp only [List.length_cons, List.length_nil]; omega) (by simp; omega) ?_; intro v1 w1 hown1 hgrow1 hnear1)
      | (at_builtin; refine app31 rfl (.tmp 15) (.tmp 18) rfl w.heap.size (.slice ao n1 cp) L1 [UInt8.ofNat m] rfl (own_alloc hO) _ rfl (Sl.one _ (byte_low m (by omega))) (by simp only [List.length_cons, List.length_nil]; omega) (by simp; omega) ?_; intro v1 w1 hown1 hgrow1 hnear1))
    · have hbig : 127 < m := by omega
      rw [numW, dif_pos hbig] at hL
      refine ⟨⟨m / 128, L1 ++ [UInt8.ofNat (m % 128 + 128)], by omega, by simp, hown1, hfr (grown_alloc hgrow1) hok, by rw [← hL]; simp⟩, ?_⟩
      show ((m : Int) / 128).toNat < (m : Int).toNat
      omega
    · have hsmall : ¬ 127 < m := by omega
      rw [numW, dif_neg hsmall] at hL
      go_returns
      rw [hL] at hown1
      exact ⟨_, rfl, hown1, hfr (grown_alloc hgrow1) hok⟩
theorem zig_nonneg {x : Int} (h : 0 ≤ x) (hx : x ≤ 9223372036854775807) : 2 * x = ((zig x : Nat) : Int) := by simp only [zig, if_pos h]; omega
theorem rfInt_spec (w : World) (x : Int) (hx : -9223372036854775808 ≤ x ∧ x ≤ 9223372036854775807) : Calls Tryz.prog 22 #[.int .i64 x] w fun e w' => ∃ v, e = .returned v ∧ Ow w.heap.size w' v (wInt x) ∧ Fr none' w w' := by
  have hz : zig x < 18446744073709551616 := zig_lt (by omega) (by omega)
  have hc := rfNum_spec w (zig x) hz
  by_cases h0 : 0 ≤ x
  · have e : ((zig x : Nat) : Int) = 2 * x := by simp only [zig, if_pos h0]; omega
    rw [e] at hc
    go_enter Tryz.func22, Tryz.ntmps22
    go_wp2_with (go_at_call 21; refine hc.mono ?_; rintro e w2 ⟨v, rfl, hO, hF⟩)
    go_returns
    exact ⟨v, rfl, hO, hF⟩
  · have e : ((zig x : Nat) : Int) = 2 * (-(x + 1)) + 1 := by simp only [zig, if_neg h0]; omega
    rw [e] at hc
    go_enter Tryz.func22, Tryz.ntmps22
    go_wp2_with (go_at_call 21; refine hc.mono ?_; rintro e w2 ⟨v, rfl, hO, hF⟩)
    go_returns
    exact ⟨v, rfl, hO, hF⟩
theorem rfText_spec (w : World) (S : List UInt8) (hS : S.length ≤ 70368744170000) : Calls Tryz.prog 25 #[.string ⟨⟨S⟩⟩] w fun e w' => ∃ v, e = .returned v ∧ Ow w.heap.size w' v (wText S) ∧ Fr none' w w' := by
  have hc := rfNum_spec w S.length (by omega)
  have hl := numW_le (m := S.length) (by omega)
  go_enter Tryz.func25, Tryz.ntmps25
  go_wp2_with (first
    | (go_at_call 21; refine hc.mono ?_; rintro e w2 ⟨v, rfl, hO, hF⟩)
    | (at_builtin; refine app9 rfl _ _ rfl w.heap.size v (numW S.length) S rfl hO rfl (by omega) hF.size ?_; intro v1 w1 hown1 hg hnear1))
  go_returns
  exact ⟨_, rfl, hown1, hF.trans' (Fr.of_grown hg) fun x hx e => by have := (World.ownsRow.lt hO x e.symm).1; omega⟩
theorem rfFlag_spec (w : World) (b : Bool) : Calls Tryz.prog 65 #[.bool b] w fun e w' => ∃ v, e = .returned v ∧ Ow w.heap.size w' v (wFlag b) ∧ Fr none' w w' := by
  have hone : ∀ c : UInt8, Ow w.heap.size (w.alloc (.cells #[.int .u8 (c.toNat : Int)] 5)) (.slice (some ⟨w.heap.size, 0, none⟩) 1 1) [c] := fun c =>
    ⟨rfl, .inr ⟨w.heap.size, 1, #[.int .u8 (c.toNat : Int)], rfl, Nat.le_refl _, heap_alloc_new w _, by simp, by decide, rfl, rfl⟩⟩
  have e1 : wFlag true = [1] := by simp [wFlag, numW]
  have e0 : wFlag false = [0] := by simp [wFlag, numW]
  cases b
  · go_enter Tryz.func65, Tryz.ntmps65
    go_wp2
    go_returns
    rw [e0]
    exact ⟨_, rfl, hone 0, Fr.alloc _ _ _⟩
  · go_enter Tryz.func65, Tryz.ntmps65
    go_wp2
    go_returns
    rw [e1]
    exact ⟨_, rfl, hone 1, Fr.alloc _ _ _⟩
end Go.Proofs

/-! B2 -/
namespace Go.Proofs
open Go.RowKit Go.Wires
set_option maxHeartbeats 1000000
set_option maxRecDepth 100000
theorem rfInt_x (w : World) (x : Int) (hx : I64 x) : Calls Tryz.prog 22 #[.int .i64 x] w fun e w' => ∃ v M, M = wInt x ∧ M.length ≤ 10 ∧ e = .returned v ∧ Ow w.heap.size w' v M ∧ Fr none' w w' :=
  (rfInt_spec w x hx).mono fun _ _ ⟨v, h⟩ => ⟨v, _, rfl, wInt_le hx, h⟩
theorem rfNum_x (w : World) (n : Nat) (hn : n < 18446744073709551616) : Calls Tryz.prog 21 #[.int .u64 (n : Nat)] w fun e w' => ∃ v M, M = numW n ∧ M.length ≤ 10 ∧ e = .returned v ∧ Ow w.heap.size w' v M ∧ Fr none' w w' :=
  (rfNum_spec w n hn).mono fun _ _ ⟨v, h⟩ => ⟨v, _, rfl, numW_le hn, h⟩
theorem rfFlag_x (w : World) (b : Bool) : Calls Tryz.prog 65 #[.bool b] w fun e w' => ∃ v M, M = wFlag b ∧ M.length ≤ 10 ∧ e = .returned v ∧ Ow w.heap.size w' v M ∧ Fr none' w w' :=
  (rfFlag_spec w b).mono fun _ _ ⟨v, h⟩ => ⟨v, _, rfl, numW_le (by cases b <;> decide), h⟩
theorem rfText_x (w : World) (S : List UInt8) (J : Nat) (hS : S.length ≤ J) (hJ : J ≤ 70368744100000) : Calls Tryz.prog 25 #[.string ⟨⟨S⟩⟩] w fun e w' => ∃ v M, M = wText S ∧ M.length ≤ J + 10 ∧ e = .returned v ∧ Ow w.heap.size w' v M ∧ Fr none' w w' :=
  (rfText_spec w S (by omega)).mono fun _ _ ⟨v, h⟩ => ⟨v, _, rfl, by have := numW_le (m := S.length) (by omega); simp only [wText, List.length_append]; omega, h⟩
theorem Ow.fr {N : Nat} {w w' : World} {v : Value} {L : List UInt8} (h : Ow N w v L) (hf : Fr none' w w') : Ow N w' v L := own_fr h hf (fun _ _ h => h)
theorem Fr.own {W w w1 : World} {v : Value} {L : List UInt8} (h : Fr none' W w) (hv : Ow W.heap.size w v L) (hg : w.grownBy w1 v.ownBlock) : Fr none' W w1 :=
  h.trans' (Fr.of_grown hg) fun x hx e => by have := (World.ownsRow.lt hv x e.symm).1; omega
theorem len_app {L M : List UInt8} {a b : Nat} (h : L.length ≤ a) (k : M.length ≤ b) : (L ++ M).length ≤ a + b := by rw [List.length_append]; omega
theorem rfEncode_spec (w : World) (o : Opx) (hw : o.wf) : Calls Tryz.prog 23 #[.agg o.cells.toArray] w fun e w' =>
    ∃ v c, e = .returned (.tuple #[v, .int .i64 c]) ∧ (o.ok = true → c = 0 ∧ Ow w.heap.size w' v o.bytes) ∧ (o.ok = false → c = 2 ∧ v = .slice none 0 0) ∧ Fr none' w w' := by
  obtain ⟨kind, path, to, data, at_, size⟩ := o
  obtain ⟨k1, k2, k3, k4, k5, k6⟩ := hw
  simp only at k1 k2 k3 k4 k5 k6
  show Calls Tryz.prog 23 #[.agg #[.int .i64 kind, .string ⟨⟨path⟩⟩, .string ⟨⟨to⟩⟩, .string ⟨⟨data⟩⟩, .int .i64 at_, .int .i64 size]] w _
  have hB0 := heap_alloc_new w (.cells #[.int .i64 kind, .string ⟨⟨path⟩⟩, .string ⟨⟨to⟩⟩, .string ⟨⟨data⟩⟩, .int .i64 at_, .int .i64 size] 49)
  have hW0 : Fr none' w (w.alloc (.cells #[.int .i64 kind, .string ⟨⟨path⟩⟩, .string ⟨⟨to⟩⟩, .string ⟨⟨data⟩⟩, .int .i64 at_, .int .i64 size] 49)) := Fr.alloc _ _ _
  have hT0 := Fr.refl none' (w.alloc (.cells #[.int .i64 kind, .string ⟨⟨path⟩⟩, .string ⟨⟨to⟩⟩, .string ⟨⟨data⟩⟩, .int .i64 at_, .int .i64 size] 49))
  obtain ⟨c0, c1, c2, c3, c4, c5⟩ := cells6 hB0
  by_cases hok : path.length ≤ 1100 ∧ to.length ≤ 1100 ∧ data.length ≤ 1100
  · have hb : Hid (Opx.ok ⟨kind, path, to, data, at_, size⟩ = true) := show _ = _ by simpa [Opx.ok] using hok
    obtain ⟨m1, m2, m3⟩ := hok
    go_enter Tryz.func23, Tryz.ntmps23
    go_wp2_with (first
      | (go_at_call 22; have hvv := hv; clear hvv; refine (rfInt_x _ _ (by assumption)).mono ?_; rintro e w2 ⟨x, M, hM, hm, rfl, hx, hF⟩; have hv := hv.fr hF; have hT := hT.trans hF; have hB := hT.heap hB0 (fun h => h); obtain ⟨c0, c1, c2, c3, c4, c5⟩ := cells6 hB)
      | (go_at_call 22; refine (rfInt_x _ _ (by assumption)).mono ?_; rintro e w2 ⟨v, L, hM0, hl, rfl, hv, hT⟩; have hB := hT.heap hB0 (fun h => h); obtain ⟨c0, c1, c2, c3, c4, c5⟩ := cells6 hB)
      | (go_at_call 25; refine (rfText_x _ _ 1100 (by assumption) (by omega)).mono ?_; rintro e w2 ⟨x, M, hM, hm, rfl, hx, hF⟩; have hv := hv.fr hF; have hT := hT.trans hF; have hB := hT.heap hB0 (fun h => h); obtain ⟨c0, c1, c2, c3, c4, c5⟩ := cells6 hB)
      | (at_builtin; refine app31 rfl _ _ rfl _ v _ _ rfl hv x rfl (Sl.of_own hx) (by omega) hT.size ?_; intro v w1 hv1 hg hnear; have hT := Fr.own hT hv hg; have hv : Ow _ _ v _ := hv1; clear hg hnear hv1; have hl := len_app hl hm; have hB := hT.heap hB0 (fun h => h); obtain ⟨c0, c1, c2, c3, c4, c5⟩ := cells6 hB))
    go_returns
    refine ⟨v, 0, rfl, fun _ => ⟨rfl, ?_⟩, (fun h => by rw [hb.out] at h; cases h), hW0.trans hT⟩
    subst_vars
    exact own_base hv hW0.size
  · have hb : Hid (Opx.ok ⟨kind, path, to, data, at_, size⟩ = false) := show _ = _ by simpa [Opx.ok] using hok
    go_enter Tryz.func23, Tryz.ntmps23
    go_wp2_with fail
    all_goals go_returns
    all_goals exact ⟨.slice none 0 0, 2, rfl, (fun h => by rw [hb.out] at h; cases h), (fun _ => ⟨rfl, rfl⟩), hW0⟩
end Go.Proofs

/-! B3 -/
namespace Go.Proofs
open Go.RowKit Go.Wires
set_option maxHeartbeats 4000000
set_option maxRecDepth 100000
theorem rfPack_spec (w : World) (r : Resx) (nv : Value) (hw : r.wf) (hN : Row w nv r.names.length (strs r.names)) : Calls Tryz.prog 26 #[r.val nv] w fun e w' =>
    ∃ v c, e = .returned (.tuple #[v, .int .i64 c]) ∧ (c = 0 ↔ r.ok = true) ∧ (r.ok = true → Ow w.heap.size w' v r.bytes) ∧ Fr none' w w' := by
  obtain ⟨code, dir, size, data, N⟩ := r
  obtain ⟨k1, k2, k3⟩ := hw
  simp only at k1 k2 k3 hN
  simp only [Resx.val]
  obtain ⟨ao, cap, rfl, hcap⟩ := hN.shape
  have hB0 := heap_alloc_new w (.cells #[.int .i64 code, .bool dir, .int .i64 size, .string ⟨⟨data⟩⟩, .slice ao N.length cap] 28)
  have hW0 : Fr none' w (w.alloc (.cells #[.int .i64 code, .bool dir, .int .i64 size, .string ⟨⟨data⟩⟩, .slice ao N.length cap] 28)) := Fr.alloc _ _ _
  have hT0 := Fr.refl none' (w.alloc (.cells #[.int .i64 code, .bool dir, .int .i64 size, .string ⟨⟨data⟩⟩, .slice ao N.length cap] 28))
  have hN0 := hN.fr hW0 (fun _ _ _ h => h)
  obtain ⟨c0, c1, c2, c3, c4⟩ := cells5 hB0
  have HB : Hid (_ ) := hB0
  clear hB0
  by_cases hd : data.length ≤ 1100
  rotate_left
  · go_enter Tryz.func26, Tryz.ntmps26
    go_wp2_with fail
    go_returns
    refine ⟨.slice none 0 0, 2, rfl, ?_, ?_, hW0⟩
    · simp [Resx.ok]; omega
    · simp [Resx.ok]; omega
  go_enter Tryz.func26, Tryz.ntmps26
  go_wp2_with fail
  go_loop [4] (fun u4 => ∃ (i : Nat), i ≤ N.length ∧ u4 = .int .i64 (i : Nat) ∧ ∀ S ∈ N.take i, S.length ≤ 1100) (fun i => N.length - (intOf i).toNat)
  case atStart => exact ⟨0, by omega, rfl, by simp⟩
  case round =>
    obtain ⟨i, hi, rfl, hall⟩ := hrel
    by_cases hiN : i < N.length
    · obtain ⟨b, off, rfl, hcells⟩ := hN0.at (by omega)
      have hcell := hcells i (.string ⟨⟨N[i]⟩⟩) (by simp [strs, hiN])
      have htk : N.take (i + 1) = N.take i ++ [N[i]] := by simp
      clear hcells
      by_cases hS : N[i].length ≤ 1100
      · go_wp2_with fail
        refine ⟨⟨i + 1, by omega, by simp, ?_⟩, ?_⟩
        · rw [htk]
          intro S hS'
          rcases List.mem_append.1 hS' with h | h
          · exact hall S h
          · rw [List.mem_singleton.1 h]; exact hS
        · simp [intOf]; omega
      · go_wp2_with fail
        go_returns
        refine ⟨.slice none 0 0, 2, rfl, ?_, ?_, hW0⟩
        · simp [Resx.ok]; intro _ h; exact absurd (h N[i] (by simp)) hS
        · simp [Resx.ok]; intro _ h; exact absurd (h N[i] (by simp)) hS
    · obtain rfl : i = N.length := by omega
      rw [List.take_length] at hall
      by_cases h512 : N.length ≤ 512
      rotate_left
      · go_wp2_with fail
        go_returns
        refine ⟨.slice none 0 0, 8, rfl, ?_, ?_, hW0⟩
        · simp [Resx.ok]; omega
        · simp [Resx.ok]; omega
      have hok : Resx.ok ⟨code, dir, size, data, N⟩ = true := by simp [Resx.ok]; exact ⟨hd, hall, h512⟩
      have HO : Hid (Resx.ok ⟨code, dir, size, data, N⟩ = true) := hok
      clear hok
      go_wp2_with (first
        | (go_at_call 22; have hvv := hv; clear hvv; refine (rfInt_x _ _ (by assumption)).mono ?_; rintro e w2 ⟨x, M, hM, hm, rfl, hx, hF⟩; have hv := hv.fr hF; have hT := hT.trans hF; have hB := hT.heap HB.out (fun h => h); obtain ⟨c0, c1, c2, c3, c4⟩ := cells5 hB)
        | (go_at_call 22; refine (rfInt_x _ _ (by assumption)).mono ?_; rintro e w2 ⟨v, L, hM0, hl, rfl, hv, hT⟩; have hB := hT.heap HB.out (fun h => h); obtain ⟨c0, c1, c2, c3, c4⟩ := cells5 hB)
        | (go_at_call 65; refine (rfFlag_x _ _).mono ?_; rintro e w2 ⟨x, M, hM, hm, rfl, hx, hF⟩; have hv := hv.fr hF; have hT := hT.trans hF; have hB := hT.heap HB.out (fun h => h); obtain ⟨c0, c1, c2, c3, c4⟩ := cells5 hB)
        | (go_at_call 25; refine (rfText_x _ _ 1100 (by assumption) (by omega)).mono ?_; rintro e w2 ⟨x, M, hM, hm, rfl, hx, hF⟩; have hv := hv.fr hF; have hT := hT.trans hF; have hB := hT.heap HB.out (fun h => h); obtain ⟨c0, c1, c2, c3, c4⟩ := cells5 hB)
        | (go_at_call 21; refine (rfNum_x _ _ (by omega)).mono ?_; rintro e w2 ⟨x, M, hM, hm, rfl, hx, hF⟩; have hv := hv.fr hF; have hT := hT.trans hF; have hB := hT.heap HB.out (fun h => h); obtain ⟨c0, c1, c2, c3, c4⟩ := cells5 hB)
        | (at_builtin; refine app31 rfl _ _ rfl _ v _ _ rfl hv x rfl (Sl.of_own hx) (by omega) hT.size ?_; intro v w1 hv1 hg hnear; have hT := Fr.own hT hv hg; have hv : Ow _ _ v _ := hv1; clear hg hnear hv1; have hl := len_app hl hm; have hB := hT.heap HB.out (fun h => h); obtain ⟨c0, c1, c2, c3, c4⟩ := cells5 hB))
      subst_vars
      go_loopw [5, 6] (fun u5 u6 w3 => ∃ (i : Nat) (L : List UInt8), i ≤ N.length ∧ u6 = .int .i64 (i : Nat) ∧ L = wInt code ++ wFlag dir ++ wInt size ++ wText data ++ numW N.length ++ (N.take i).flatMap wText ∧ Ow (w.alloc (.cells #[.int .i64 code, .bool dir, .int .i64 size, .string ⟨⟨data⟩⟩, .slice ao N.length cap] 28)).heap.size w3 u5 L ∧ L.length ≤ 2000 + 1110 * i ∧ Fr none' (w.alloc (.cells #[.int .i64 code, .bool dir, .int .i64 size, .string ⟨⟨data⟩⟩, .slice ao N.length cap] 28)) w3) (fun _ i _ => N.length - (intOf i).toNat)
      case atStart => exact ⟨0, _, by omega, rfl, by rw [List.take_zero, List.flatMap_nil, List.append_nil], hv, by omega, hT⟩
      case round =>
        clear hT hB c0 c1 c2 c3 c4 hv hl
        obtain ⟨i, L, hi, rfl, hL, hv, hl, hT⟩ := hrel
        have HL : Hid (L = wInt code ++ wFlag dir ++ wInt size ++ wText data ++ numW N.length ++ (N.take i).flatMap wText) := hL
        clear hL
        have hB := hT.heap HB.out (fun h => h)
        obtain ⟨c0, c1, c2, c3, c4⟩ := cells5 hB
        obtain ⟨vo, vn, vc, -, rfl⟩ := own_shape hv
        by_cases hiN : i < N.length
        · obtain ⟨b, off, rfl, hcells⟩ := (hN0.fr hT (fun _ _ _ h => h)).at (by omega)
          have hcell := hcells i (.string ⟨⟨N[i]⟩⟩) (by simp [strs, hiN])
          have htk : N.take (i + 1) = N.take i ++ [N[i]] := by simp
          have hle := hall N[i] (by simp)
          clear hcells
          go_wp2_with (first
            | (go_at_call 25; refine (rfText_x _ _ 1100 (by assumption) (by omega)).mono ?_; rintro e w2 ⟨x, M, hM, hm, rfl, hx, hF⟩; have hv := hv.fr hF; have hT := hT.trans hF)
            | (at_builtin; refine app31 rfl _ _ rfl _ (.slice vo vn vc) _ _ rfl hv x rfl (Sl.of_own hx) (by omega) hT.size ?_; intro v w1 hv1 hg hnear; have hT := Fr.own hT hv hg; have hv : Ow _ _ v _ := hv1; clear hg hnear hv1; have hl := len_app hl hm))
          refine ⟨⟨i + 1, _, by omega, by simp, ?_, hv, by omega, hT⟩, ?_⟩
          · rw [htk, List.flatMap_append, ← List.append_assoc, List.flatMap_cons, List.flatMap_nil, List.append_nil, ← HL.out, hM]
          · simp [intOf]; omega
        · obtain rfl : i = N.length := by omega
          have e := HL.out
          rw [List.take_length] at e
          go_wp2_with fail
          go_returns
          refine ⟨.slice vo vn vc, 0, rfl, ⟨fun _ => HO.out, fun _ => rfl⟩, fun _ => ?_, hW0.trans hT⟩
          rw [e] at hv
          exact own_base hv hW0.size
end Go.Proofs

/-! B4 -/
namespace Go.Proofs
open Go.RowKit Go.Wires
set_option maxHeartbeats 4000000
set_option maxRecDepth 100000
theorem ent_cells {w w' : World} {b off n cap : Nat} {l : List Entx} (hE : Row w (.slice (some ⟨b, off, none⟩) n cap) n (entCells l)) (hF : Fr none' w w') {i : Nat} {en : Entx} (hen : l[i]? = some en) (hn : 0 < n) :
    ∀ j u, en.cells[j]? = some u → w'.cell? ⟨b, off + i * 8 + j, none⟩ = some u := by
  obtain ⟨b', off', e, hcells⟩ := (hE.fr hF (fun _ _ _ h => h)).at hn
  cases e
  intro j u hu
  have hj : j < 8 := (List.getElem?_eq_some_iff.1 hu).1
  obtain ⟨hi, he⟩ := List.getElem?_eq_some_iff.1 hen
  rw [Nat.add_assoc, Nat.mul_comm]
  refine hcells _ u ?_
  rw [entCells_get l i hi j hj, he]; exact hu
theorem near_ne {w : World} {v v' ov : Value} (hn : Near w v v') (hne : ∀ k, v.ownBlock = some k → ov.ownBlock ≠ some k) (ho : ∀ k, ov.ownBlock = some k → k < w.heap.size) : ∀ k, v'.ownBlock = some k → ov.ownBlock ≠ some k := by
  intro k hk
  rcases hn with h | ⟨d, h, hd⟩
  · exact hne k (h ▸ hk)
  · rw [h] at hk
    obtain rfl := Option.some.inj hk
    intro e
    have := ho _ e
    omega
theorem ow_lt {N : Nat} {w : World} {v : Value} {L : List UInt8} (h : Ow N w v L) : ∀ k, v.ownBlock = some k → N ≤ k ∧ k < w.heap.size := World.ownsRow.lt h
theorem rfEntries_spec (w : World) (l : List Entx) (ev : Value) (hl32 : l.length ≤ 32) (hwf : ∀ e ∈ l, e.wf) (hok : ∀ e ∈ l, e.op.ok = true) (hE : Row w ev l.length (entCells l)) : Calls Tryz.prog 24 #[ev] w fun e w' =>
    ∃ v M, M = l.flatMap Entx.bytes ∧ M.length ≤ 140000 ∧ e = .returned v ∧ Ow w.heap.size w' v M ∧ Fr none' w w' := by
  obtain ⟨ao, cap, rfl, hcap⟩ := hE.shape
  go_enter Tryz.func24, Tryz.ntmps24
  go_wp2_with fail
  go_loopw [3, 4] (fun u3 u4 w3 => ∃ (i : Nat) (L : List UInt8), i ≤ l.length ∧ u4 = .int .i64 (i : Nat) ∧ L = (l.take i).flatMap Entx.bytes ∧ Ow w.heap.size w3 u3 L ∧ L.length ≤ 4000 * i ∧ Fr none' w w3) (fun _ i _ => l.length - (intOf i).toNat)
  case atStart => exact ⟨0, [], by omega, rfl, rfl, World.ownsRow_nil _ _ _ _, by simp, Fr.refl _ _⟩
  case round =>
    obtain ⟨i, L, hi, rfl, hL, hv, hl, hT⟩ := hrel
    have HL : Hid (L = (l.take i).flatMap Entx.bytes) := hL
    clear hL
    obtain ⟨vo, vn, vc, -, rfl⟩ := own_shape hv
    by_cases hin : i < l.length
    · obtain ⟨en, hen⟩ : ∃ en, l[i]? = some en := ⟨l[i], by simp [hin]⟩
      have hmem : en ∈ l := List.mem_of_getElem? hen
      have hew := hwf en hmem
      have hok1 := hok en hmem
      have hlenop := bytes_op_len hew.op hok1
      have htk : l.take (i + 1) = l.take i ++ [en] := by rw [List.take_add_one, hen]; rfl
      obtain ⟨b, off, rfl, -⟩ := hE.at (by omega)
      have hc := ent_cells hE hT hen (by omega)
      have HE : Hid (l[i]? = some en) := hen
      have HO : Hid (en.op.ok = true) := hok1
      clear hen hok1
      have hclient := hew.client
      have hnumber := hew.number
      go_wp2_with (first
        | (refine load49 rfl (.tmp 17) rfl b (off + i * 8 + 2) rfl en.op.cells rfl (fun j u hu => by rw [Nat.add_assoc _ 2, Nat.add_comm 2]; exact hc (j + 2) u (by simpa [Entx.cells] using hu)) ?_)
        | (go_at_call 23; refine (rfEncode_spec _ en.op hew.op).mono ?_; rintro e w2 ⟨ov, oc, rfl, hgood, -, hF⟩; obtain ⟨rfl, ho⟩ := hgood HO.out; clear hgood; have hne : ∀ k, (Value.slice vo vn vc).ownBlock = some k → ov.ownBlock ≠ some k := fun k h1 h2 => by { have := (ow_lt hv k h1).2; have := (ow_lt ho k h2).1; omega }; have hv := hv.fr hF; have hT := hT.trans hF
           have hc := ent_cells hE hT HE.out (by omega); have hX0 : w2.cell? ⟨b, off + i * 8, none⟩ = _ := hc 0 _ rfl; have hX1 := hc 1 _ rfl)
        | (go_at_call 22; refine (rfInt_x _ _ (by assumption)).mono ?_; rintro e w2 ⟨x, M, hM, hm, rfl, hx, hF⟩; have hv := hv.fr hF; have hT := hT.trans hF; have ho := ho.fr hF)
        | (go_at_call 25; refine (rfText_x _ _ 3400 (by assumption) (by omega)).mono ?_; rintro e w2 ⟨x, M, hM, hm, rfl, hx, hF⟩; have hv := hv.fr hF; have hT := hT.trans hF; have ho := ho.fr hF)
        | (at_builtin; refine app31 rfl _ _ rfl _ (.slice vo vn vc) _ _ rfl hv x rfl (Sl.of_own hx) (by omega) hT.size ?_; intro v w1 hv1 hg hnear; have ho0 := ho; have hT := Fr.own hT hv hg; have ho : Ow _ w1 ov _ := own_fr ho (Fr.of_grown hg) (fun k hk e => hne k e.symm hk); have hne := near_ne hnear hne (fun k hk => Nat.lt_of_lt_of_le (ow_lt ho0 k hk).2 (Nat.le_refl _)); have hv : Ow _ _ v _ := hv1; clear hg hnear; obtain ⟨vo, vn, vc, -, rfl⟩ := own_shape hv1; clear hv1; have hl := len_app hl hm
           have hc := ent_cells hE hT HE.out (by omega); have hX1 := hc 1 _ rfl; have hconv := conv9 (Sl.of_own ho)))
      refine ⟨⟨i + 1, _, by omega, by simp, ?_, hv, by omega, hT⟩, ?_⟩
      · rw [htk, List.flatMap_append, List.flatMap_cons, List.flatMap_nil, List.append_nil, ← HL.out]
        subst_vars
        simp only [Entx.bytes, List.append_assoc]
      · simp [intOf]; omega
    · obtain rfl : i = l.length := by omega
      have e := HL.out
      rw [List.take_length] at e
      go_wp2_with fail
      go_returns
      exact ⟨_, L, e, by omega, rfl, hv, hT⟩
end Go.Proofs

/-! B5 -/
namespace Go.Proofs
open Go.RowKit Go.Wires
set_option maxHeartbeats 8000000
set_option maxRecDepth 100000
theorem rfNum_k (w : World) (x : Int) (h0 : 0 ≤ x) (h1 : x < 9223372036854775808) : Calls Tryz.prog 21 #[.int .u64 x] w fun e w' => ∃ v M, M = numW x.toNat ∧ M.length ≤ 10 ∧ e = .returned v ∧ Ow w.heap.size w' v M ∧ Fr none' w w' := by
  have := rfNum_x w x.toNat (by omega)
  rwa [show ((x.toNat : Nat) : Int) = x by omega] at this
theorem rf22Encode_spec (w : World) (m : Msgx) (ev nv : Value) (hw : m.wf) (hE : Row w ev m.entries.length (entCells m.entries)) (hN : Row w nv m.res.names.length (strs m.res.names)) :
    Calls Tryz.prog 6 #[.agg (m.cells ev nv).toArray] w fun e w' =>
    ∃ v, e = .returned (.tuple #[v, .bool m.ok]) ∧ (m.ok = true → Ow w.heap.size w' v m.bytes) ∧ (m.ok = false → v = .slice none 0 0) ∧ Fr none' w w' := by
  obtain ⟨ao, cap, rfl, hcap⟩ := hE.shape
  have hB := heap_alloc_new w (.cells (m.cells (.slice ao m.entries.length cap) nv).toArray 30)
  have hW0 : Fr none' w (w.alloc (.cells (m.cells (.slice ao m.entries.length cap) nv).toArray 30)) := Fr.alloc _ _ _
  have hT0 := Fr.refl none' (w.alloc (.cells (m.cells (.slice ao m.entries.length cap) nv).toArray 30))
  have hE0 := hE.fr hW0 (fun _ _ _ h => h)
  have hN0 := hN.fr hW0 (fun _ _ _ h => h)
  have HB : Hid (_) := hB
  obtain ⟨c0, c1, c2, c3, c4, c5, c6, c7, cR, c40, c41, c42, c43, c44, c45, c46⟩ := msg_facts hw.root hB
  clear hB
  by_cases hpre : 1 ≤ m.kind ∧ m.kind ≤ 13 ∧ m.entries.length ≤ 32 ∧ m.data.length ≤ 4096
  rotate_left
  · have hno : m.ok = false := by
      cases h : m.ok with
      | false => rfl
      | true => exact absurd ⟨(ok_parts h).2.1, (ok_parts h).2.2.1, (ok_parts h).2.2.2.1, (ok_parts h).2.2.2.2.1⟩ hpre
    rw [hno]
    go_enter Tryz.func6, Tryz.ntmps6
    go_wp2_with (first | (go_at_call 21; exfalso; apply hpre; omega))
    all_goals go_returns
    all_goals first | exact ⟨_, rfl, rfl, hW0⟩ | exact ⟨_, rfl, (fun h => by cases h), (fun _ => rfl), hW0⟩
  obtain ⟨hk1, hk2, hlen, hdata⟩ := hpre
  have hx1 : I64 m.src := hw.nums _ (by simp [Msgx.nums])
  have hx2 : I64 m.dst := hw.nums _ (by simp [Msgx.nums])
  have hx3 : I64 m.view := hw.nums _ (by simp [Msgx.nums])
  have hx4 : I64 m.normal := hw.nums _ (by simp [Msgx.nums])
  have hx5 : I64 m.last := hw.nums _ (by simp [Msgx.nums])
  have hx6 : I64 m.commit := hw.nums _ (by simp [Msgx.nums])
  have hx7 : I64 m.behind := hw.nums _ (by simp [Msgx.nums])
  go_enter Tryz.func6, Tryz.ntmps6
  go_wp2_with (first
    | (go_at_call 21; have hvv := hv; clear hvv; refine (rfNum_x _ _ (by omega)).mono ?_; rintro e w2 ⟨x, M, hM, hm, rfl, hx, hF⟩; have hv := hv.fr hF; have hT := hT.trans hF; have hB := hT.heap HB.out (fun h => h); clear c0 c1 c2 c3 c4 c5 c6 c7 cR c40 c41 c42 c43 c44 c45 c46; obtain ⟨c0, c1, c2, c3, c4, c5, c6, c7, cR, c40, c41, c42, c43, c44, c45, c46⟩ := msg_facts hw.root hB; clear hB)
    | (go_at_call 21; refine (rfNum_k _ _ (by omega) (by omega)).mono ?_; rintro e w2 ⟨v, L, hM0, hl, rfl, hv, hT⟩; have hB := hT.heap HB.out (fun h => h); clear c0 c1 c2 c3 c4 c5 c6 c7 cR c40 c41 c42 c43 c44 c45 c46; obtain ⟨c0, c1, c2, c3, c4, c5, c6, c7, cR, c40, c41, c42, c43, c44, c45, c46⟩ := msg_facts hw.root hB; clear hB)
    | (go_at_call 22; refine (rfInt_x _ _ (by assumption)).mono ?_; rintro e w2 ⟨x, M, hM, hm, rfl, hx, hF⟩; have hv := hv.fr hF; have hT := hT.trans hF; have hB := hT.heap HB.out (fun h => h); clear c0 c1 c2 c3 c4 c5 c6 c7 cR c40 c41 c42 c43 c44 c45 c46; obtain ⟨c0, c1, c2, c3, c4, c5, c6, c7, cR, c40, c41, c42, c43, c44, c45, c46⟩ := msg_facts hw.root hB; clear hB)
    | (at_builtin; have hxx := hx; clear hxx; refine app31 rfl _ _ rfl _ v _ _ rfl hv x rfl (Sl.of_own hx) (by omega) hT.size ?_; intro v w1 hv1 hg hnear; have hT := Fr.own hT hv hg; have hv : Ow _ _ v _ := hv1; clear hg hnear hv1; have hl := len_app hl hm; clear hx; have hB := hT.heap HB.out (fun h => h); clear c0 c1 c2 c3 c4 c5 c6 c7 cR c40 c41 c42 c43 c44 c45 c46; obtain ⟨c0, c1, c2, c3, c4, c5, c6, c7, cR, c40, c41, c42, c43, c44, c45, c46⟩ := msg_facts hw.root hB; clear hB)
    | (at_builtin; refine app31 rfl _ _ rfl _ v _ m.root rfl hv (.slice (some ⟨w.heap.size, 8, none⟩) 32 32) rfl (.inr ⟨w.heap.size, 8, 32, by rw [hw.root], by rw [hw.root]; omega, cR⟩) (by have := hw.root; omega) hT.size ?_; have hm : m.root.length ≤ 32 := by rw [hw.root]; exact Nat.le_refl _
       have hx := hm; intro v w1 hv1 hg hnear; have hT := Fr.own hT hv hg; have hv : Ow _ _ v _ := hv1; clear hg hnear hv1; have hl := len_app hl hm; clear hx; have hB := hT.heap HB.out (fun h => h); clear c0 c1 c2 c3 c4 c5 c6 c7 cR c40 c41 c42 c43 c44 c45 c46; obtain ⟨c0, c1, c2, c3, c4, c5, c6, c7, cR, c40, c41, c42, c43, c44, c45, c46⟩ := msg_facts hw.root hB; clear hB))
  subst_vars
  have HL : Hid (∃ L, L = numW m.kind.toNat ++ m.nums.flatMap wInt ++ m.root ++ numW m.entries.length) := ⟨_, rfl⟩
  obtain ⟨L, hL⟩ := HL.out
  clear HL
  have HL : Hid (L = numW m.kind.toNat ++ m.nums.flatMap wInt ++ m.root ++ numW m.entries.length) := hL
  have eL : numW m.kind.toNat ++ wInt m.src ++ wInt m.dst ++ wInt m.view ++ wInt m.normal ++ wInt m.last ++ wInt m.commit ++ wInt m.behind ++ m.root ++ numW m.entries.length = L := by
    rw [hL]; simp [Msgx.nums, List.flatMap_cons, List.append_assoc]
  rw [eL] at hv hl
  clear eL hL
  obtain ⟨vo, vn, vc, -, rfl⟩ := own_shape hv
  go_loopw [5] (fun u5 w3 => ∃ (i : Nat), i ≤ m.entries.length ∧ u5 = .int .i64 (i : Nat) ∧ Ow (w.alloc (.cells (m.cells (.slice ao m.entries.length cap) nv).toArray 30)).heap.size w3 (.slice vo vn vc) L ∧ Fr none' (w.alloc (.cells (m.cells (.slice ao m.entries.length cap) nv).toArray 30)) w3 ∧ ∀ e ∈ m.entries.take i, e.op.ok = true) (fun i _ => m.entries.length - (intOf i).toNat)
  case atStart => exact ⟨0, by omega, rfl, hv, hT, by simp⟩
  case round =>
    clear hv hT c0 c1 c2 c3 c4 c5 c6 c7 cR c40 c41 c42 c43 c44 c45 c46
    obtain ⟨i, hi, rfl, hv, hT, hoks⟩ := hrel
    have hB := hT.heap HB.out (fun h => h)
    obtain ⟨c0, c1, c2, c3, c4, c5, c6, c7, cR, c40, c41, c42, c43, c44, c45, c46⟩ := msg_facts hw.root hB
    clear hB
    by_cases hin : i < m.entries.length
    · obtain ⟨en, hen⟩ : ∃ en, m.entries[i]? = some en := ⟨m.entries[i], by simp [hin]⟩
      have hmem : en ∈ m.entries := List.mem_of_getElem? hen
      have hew := hw.entries en hmem
      have htk : m.entries.take (i + 1) = m.entries.take i ++ [en] := by rw [List.take_add_one, hen]; rfl
      obtain ⟨b, off, rfl, -⟩ := hE0.at (by omega)
      have hc := ent_cells hE0 hT hen (by omega)
      by_cases hok : en.op.ok = true
      · go_wp2_with (first
          | (refine load49 rfl (.tmp 92) rfl b (off + i * 8 + 2) rfl en.op.cells rfl (fun j u hu => by rw [Nat.add_assoc _ 2, Nat.add_comm 2]; exact hc (j + 2) u (by simpa [Entx.cells] using hu)) ?_)
          | (go_at_call 23; refine (rfEncode_spec _ en.op hew.op).mono ?_; rintro e w2 ⟨ov, oc, rfl, hgood, -, hF⟩; obtain ⟨rfl, ho⟩ := hgood hok; clear hgood; have hv := hv.fr hF; have hT := hT.trans hF))
        refine ⟨⟨i + 1, by omega, by simp, hv, hT, ?_⟩, ?_⟩
        · rw [htk]
          intro e he
          rcases List.mem_append.1 he with he | he
          · exact hoks e he
          · rw [List.mem_singleton.1 he]; exact hok
        · simp [intOf]; omega
      · have hok' : en.op.ok = false := by simpa using hok
        have hno : m.ok = false := by
          cases h : m.ok with
          | false => rfl
          | true => exact absurd ((ok_parts h).2.2.2.2.2 en hmem) hok
        have HNO : Hid (m.ok = false) := hno
        clear hno hok
        go_wp2_with (first
          | (refine load49 rfl (.tmp 92) rfl b (off + i * 8 + 2) rfl en.op.cells rfl (fun j u hu => by rw [Nat.add_assoc _ 2, Nat.add_comm 2]; exact hc (j + 2) u (by simpa [Entx.cells] using hu)) ?_)
          | (go_at_call 23; refine (rfEncode_spec _ en.op hew.op).mono ?_; rintro e w2 ⟨ov, oc, rfl, -, hbad, hF⟩; obtain ⟨rfl, rfl⟩ := hbad hok'; clear hbad; have hT := hT.trans hF))
        go_returns
        rw [HNO.out]
        exact ⟨_, rfl, (fun h => by cases h), (fun _ => rfl), hW0.trans hT⟩
    · obtain rfl : i = m.entries.length := by omega
      rw [List.take_length] at hoks
      by_cases hres : m.res.ok = true
      · have hmok : m.ok = true := by
          simp only [Msgx.ok, Bool.and_eq_true, decide_eq_true_eq, List.all_eq_true]
          exact ⟨⟨hres, hk1, hk2, hlen, hdata⟩, hoks⟩
        have HM : Hid (m.ok = true) := hmok
        have hrl := bytes_res_len hw.res hres
        have HR : Hid (m.res.ok = true) := hres
        clear hmok hres
        go_wp2_with (first
          | (go_at_call 24; refine (rfEntries_spec _ m.entries _ hlen hw.entries hoks (hE0.fr hT (fun _ _ _ h => h))).mono ?_; rintro e w2 ⟨x, M, hM, hm, rfl, hx, hF⟩; have hv := hv.fr hF; have hT := hT.trans hF; have hB := hT.heap HB.out (fun h => h); clear c0 c1 c2 c3 c4 c5 c6 c7 cR c40 c41 c42 c43 c44 c45 c46; obtain ⟨c0, c1, c2, c3, c4, c5, c6, c7, cR, c40, c41, c42, c43, c44, c45, c46⟩ := msg_facts hw.root hB; clear hB)
          | (go_at_call 25; have hcc := hconv; clear hcc; refine (rfText_x _ _ 600000 hrl (by omega)).mono ?_; rintro e w2 ⟨x, M, hM, hm, rfl, hx, hF⟩; have hv := hv.fr hF; have hT := hT.trans hF)
          | (go_at_call 25; refine (rfText_x _ _ 4096 hdata (by omega)).mono ?_; rintro e w2 ⟨x, M, hM, hm, rfl, hx, hF⟩; have hv := hv.fr hF; have hT := hT.trans hF; have hB := hT.heap HB.out (fun h => h); clear c0 c1 c2 c3 c4 c5 c6 c7 cR c40 c41 c42 c43 c44 c45 c46; obtain ⟨c0, c1, c2, c3, c4, c5, c6, c7, cR, c40, c41, c42, c43, c44, c45, c46⟩ := msg_facts hw.root hB; clear hB)
          | (go_at_call 26; refine (rfPack_spec _ m.res nv hw.res (hN0.fr hT (fun _ _ _ h => h))).mono ?_; rintro e w2 ⟨pv, pc, rfl, hpc, hpown, hF⟩; have hpc := hpc.2 HR.out; subst hpc; have hpo := hpown HR.out; clear hpown; obtain ⟨po, pn, pk, -, rfl⟩ := own_shape hpo; have hx0 : ([Value.slice po pn pk, Value.int IntKind.i64 0] : List Value)[0]? = some (Value.slice po pn pk) := rfl; have hx1 : ([Value.slice po pn pk, Value.int IntKind.i64 0] : List Value)[1]? = some (Value.int IntKind.i64 0) := rfl; have hv := hv.fr hF; have hT := hT.trans hF; have hconv := conv9 (Sl.of_own hpo))
          | (at_builtin; refine app31 rfl _ _ rfl _ (.slice vo vn vc) _ _ rfl hv x rfl (Sl.of_own hx) (by omega) hT.size ?_; intro v w1 hv1 hg hnear; have hT := Fr.own hT hv hg; have hv : Ow _ _ v _ := hv1; clear hg hnear; obtain ⟨vo, vn, vc, -, rfl⟩ := own_shape hv1; clear hv1; have hl := len_app hl hm; have hB := hT.heap HB.out (fun h => h); clear c0 c1 c2 c3 c4 c5 c6 c7 cR c40 c41 c42 c43 c44 c45 c46; obtain ⟨c0, c1, c2, c3, c4, c5, c6, c7, cR, c40, c41, c42, c43, c44, c45, c46⟩ := msg_facts hw.root hB; clear hB))
        go_returns
        refine ⟨.slice vo vn vc, ?_, fun _ => ?_, ?_, hW0.trans hT⟩
        · show Ending.returned (.tuple #[.slice vo vn vc, .bool true]) = _
          rw [HM.out]
        · have e := HL.out
          have h9 := own_base hv hW0.size
          clear hv
          subst_vars
          simpa only [Ow, Msgx.bytes, List.append_assoc] using h9
        · intro h
          rw [HM.out] at h
          cases h
      · have hno : m.ok = false := by
          cases h : m.ok with
          | false => rfl
          | true => exact absurd (ok_parts h).1 hres
        have HNO : Hid (m.ok = false) := hno
        have HR : Hid (¬ m.res.ok = true) := hres
        clear hno hres
        go_wp2_with (first
          | (go_at_call 24; refine (rfEntries_spec _ m.entries _ hlen hw.entries hoks (hE0.fr hT (fun _ _ _ h => h))).mono ?_; rintro e w2 ⟨x, M, hM, hm, rfl, hx, hF⟩; have hv := hv.fr hF; have hT := hT.trans hF; have hB := hT.heap HB.out (fun h => h); clear c0 c1 c2 c3 c4 c5 c6 c7 cR c40 c41 c42 c43 c44 c45 c46; obtain ⟨c0, c1, c2, c3, c4, c5, c6, c7, cR, c40, c41, c42, c43, c44, c45, c46⟩ := msg_facts hw.root hB; clear hB)
          | (go_at_call 25; refine (rfText_x _ _ 4096 hdata (by omega)).mono ?_; rintro e w2 ⟨x, M, hM, hm, rfl, hx, hF⟩; have hv := hv.fr hF; have hT := hT.trans hF; have hB := hT.heap HB.out (fun h => h); clear c0 c1 c2 c3 c4 c5 c6 c7 cR c40 c41 c42 c43 c44 c45 c46; obtain ⟨c0, c1, c2, c3, c4, c5, c6, c7, cR, c40, c41, c42, c43, c44, c45, c46⟩ := msg_facts hw.root hB; clear hB)
          | (go_at_call 26; refine (rfPack_spec _ m.res nv hw.res (hN0.fr hT (fun _ _ _ h => h))).mono ?_; rintro e w2 ⟨pv, pc, rfl, hpc, hpown, hF⟩; have hpc : pc ≠ 0 := fun e => HR.out (hpc.1 e); clear hpown; have hT := hT.trans hF)
          | (at_builtin; refine app31 rfl _ _ rfl _ (.slice vo vn vc) _ _ rfl hv x rfl (Sl.of_own hx) (by omega) hT.size ?_; intro v w1 hv1 hg hnear; have hT := Fr.own hT hv hg; have hv : Ow _ _ v _ := hv1; clear hg hnear; obtain ⟨vo, vn, vc, -, rfl⟩ := own_shape hv1; clear hv1; have hl := len_app hl hm; have hB := hT.heap HB.out (fun h => h); clear c0 c1 c2 c3 c4 c5 c6 c7 cR c40 c41 c42 c43 c44 c45 c46; obtain ⟨c0, c1, c2, c3, c4, c5, c6, c7, cR, c40, c41, c42, c43, c44, c45, c46⟩ := msg_facts hw.root hB; clear hB))
        go_returns
        rw [HNO.out]
        exact ⟨_, rfl, (fun h => by cases h), (fun _ => rfl), hW0.trans hT⟩
end Go.Proofs
