/-
  The codec: results and entries out of bytes. Conditions: the bounds that each contract states.
-/
import Derived.Test.YtkngpdmnpgoomaaGreatDoorCodD
import Derived.Test.YtkngpdmnpgoomaaGreatDoorCodB
import Derived.Laws.IdiomStrings
/-! E1 -/
namespace Go.Proofs
open Go.RowKit Go.Wires
set_option maxHeartbeats 8000000
set_option maxRecDepth 100000
theorem Tryz.info9 : (Tryz.prog.info? 9).map (fun i => (i.zero, i.size, i.bytes)) = some (some (.string .empty), 1, 16) := by kernel_rfl
/-- Names of one's own. -/
def On (N : Nat) (w : World) (v : Value) (l : List (List UInt8)) : Prop := w.ownsRow N 9 1 v l.length (strs l)
theorem strs_app (l : List (List UInt8)) (x : List UInt8) : strs (l ++ [x]) = strs l ++ [.string ⟨⟨x⟩⟩] := by simp [strs]
section
variable {w : World} {ops : Array Oper} {o : Oper} {a : Act} {Q : Exit → Act → World → Prop} {K : Act → World → Prop} {E : Prop}
theorem step26 (hgd : o.guard = none) (s x : Operand) (ho : o.op = .call { callee := .builtin .append, args := #[s, x], argTypes := #[26, 26] })
    (base : Nat) (v : Value) (l : List (List UInt8)) (t : List UInt8) (hs : a.eval s = v) (hown : On base w v l) (X : Nat) (hx : a.eval x = .slice (some ⟨X, 0, none⟩) 1 1) (hX : w.heap[X]? = some (.cells #[.string ⟨⟨t⟩⟩] 9 (0, 0)))
    (hlen : l.length ≤ 100000) (hbase : base ≤ w.heap.size)
    (h : ∀ v' w', On base w' v' (l ++ [t]) → w.grownBy w' v.ownBlock → K (a.put o.dst v') w') :
    if Region.wanted o (yielded ops a.tmps) = true then Oper.wp Tryz.prog o a w K Q else E := by
  have hw : Region.wanted o (yielded ops a.tmps) = true := by simp [Region.wanted, hgd]
  rw [if_pos hw]
  obtain ⟨i, hi, hz, h1, h2⟩ := info_parts Tryz.info9
  obtain ⟨v', w', hr, k1, k2, k3⟩ := run_append_own (P := Tryz.prog) w base 26 o.type 9 i _ 1 16 Tryz.underlying26 hi hz h1 h2 rfl (by decide) v l.length (strs l) hown ⟨X, 0, none⟩ 1 1 [.string ⟨⟨t⟩⟩] rfl
    (fun j u hu => by rw [Addr.add_lit, cell_obj hX]; cases j with | zero => simpa using hu | succ j => simp at hu) (by simp [Value.oneCell']) (by simp only [maxLen]; omega) (by omega) hbase
  unfold Oper.wp execOp
  simp only [ho, resolve, invoke, builtin, Sem.run_bind, Sem.run_pure, Result.andThen_ok, List.map_toArray, List.map_cons, List.map_nil, hs, hx, hr]
  refine h v' w' ?_ k2
  unfold On
  rw [strs_app, List.length_append]; exact k1
end
/-- Names out of bytes. -/
def rdN : Nat → St → List (List UInt8) × St
  | 0, s => ([], s)
  | k + 1, s => ((rdS (rText 1100) [] s).1 :: (rdN k (rdS (rText 1100) [] s).2).1, (rdN k (rdS (rText 1100) [] s).2).2)
def resOf (L : List UInt8) : Option Resx :=
  let c := rdS rInt 0 (some L)
  let f := rdS rFlag false c.2
  let z := rdS rInt 0 f.2
  let d := rdS (rText 1100) [] z.2
  let n := rdS rNum 0 d.2
  if n.1 ≤ 512 ∧ (rdN n.1 n.2).2 = some [] then some ⟨c.1, f.1, z.1, d.1, (rdN n.1 n.2).1⟩ else none
def zeroRes : Resx := ⟨0, false, 0, [], []⟩
theorem rdN_len : ∀ (n : Nat) (s : St), (rdN n s).1.length = n
  | 0, _ => rfl
  | n + 1, s => by simp [rdN, rdN_len n]
theorem on_shape {N : Nat} {w : World} {v : Value} {l : List (List UInt8)} (h : On N w v l) : ∃ ao n cp, n = l.length ∧ v = .slice ao n cp := by
  rcases h.2 with ⟨e, h0⟩ | ⟨g, cap, cur, e, _⟩
  · exact ⟨none, _, 0, rfl, by rw [e, h0]⟩
  · exact ⟨_, _, cap, rfl, e⟩
theorem on_row {N : Nat} {w : World} {v : Value} {l : List (List UInt8)} (h : On N w v l) : Row w v l.length (strs l) := by
  rcases h.2 with ⟨h1, h2⟩ | ⟨g, cap, cur, rfl, hb, hg, hn, hm, hs, ht⟩
  · exact .inl ⟨h1, h2⟩
  · refine .inr ⟨g, 0, cap, rfl, hn, fun j u hu => ?_⟩
    have := World.ownsRow.cells (g := g) h rfl j u hu
    simpa [Addr.add_lit] using this
theorem on_fr {S : Nat → Prop} {N : Nat} {w w' : World} {v : Value} {l : List (List UInt8)} (h : On N w v l) (hf : Fr S w w') (hn : ∀ k, v.ownBlock = some k → ¬ S k) : On N w' v l := by
  refine ⟨h.1, ?_⟩
  rcases h.2 with hz | ⟨g, cap, cur, rfl, hb, hgg, rest⟩
  · exact .inl hz
  · exact .inr ⟨g, cap, cur, rfl, hb, hf.heap hgg (hn g rfl), rest⟩
end Go.Proofs

/-! E2 -/
namespace Go.Proofs
open Go.RowKit Go.Wires
set_option maxHeartbeats 8000000
set_option maxRecDepth 100000
theorem unpack_spec (w : World) (v : Value) (L : List UInt8) (hv : Sl w v L) (hlen : L.length ≤ 70368744177000) : Calls Tryz.prog 33 #[v] w fun e w' =>
    ∃ nv, e = .returned (.tuple #[((resOf L).getD zeroRes).val nv, .int .i64 (codeIf (resOf L).isSome 21)]) ∧ On w.heap.size w' nv ((resOf L).getD zeroRes).names ∧ Fr none' w w' := by
  have hz : Fr none' w (w.alloc (.cells #[.int .i64 0, .bool false, .int .i64 0, .string ⟨⟨[]⟩⟩, .slice none 0 0] 28)) := Fr.alloc _ _ _
  have hv0 := hv.fr hz (fun _ _ h => h)
  have hR0 := heap_alloc_new w (.cells #[.int .i64 0, .bool false, .int .i64 0, .string ⟨⟨[]⟩⟩, .slice none 0 0] 28)
  have hsz : (w.alloc (.cells #[.int .i64 0, .bool false, .int .i64 0, .string ⟨⟨[]⟩⟩, .slice none 0 0] 28)).heap.size = w.heap.size + 1 := by simp
  go_enter Tryz.func33, Tryz.ntmps33
  go_wp2_with (first
    | (go_at_call 27; refine (read_spec _ _ _ hv0 hlen).mono ?_; rintro e w1 ⟨P, rfl, hP1, hI1, hF1⟩; rw [hsz] at hP1; have hR1 := hF1.heap hR0 (fun h => h); have hT1 := hz.trans hF1)
    | (go_at_call 29; have hii := hI; clear hii; refine (int_x _ P _ (hI.set hPl)).mono ?_; rintro e w3 ⟨sz, s3, hx3, hk3, rfl, hI', hF⟩
       have hB := hF.heap (set5_1 hB) (by omega); have hR := hF.heap (set_other hR (by omega)) (by omega); have hT := Fr.step (Fr.set hT (by omega)) hF (by omega); have hI := hI'; clear hI'; obtain ⟨c0, c1, c2, c3, c4⟩ := cells5 hB; have hfz := frozen_obj hB)
    | (go_at_call 29; refine (int_x _ _ _ hI1).mono ?_; rintro e w2 ⟨code, s1, hx1, hk1, rfl, hI, hF2⟩; have hPl := hI.lt; have hR := hF2.heap hR1 (by omega); have hT := Fr.step hT1 hF2 (by omega))
    | (go_at_call 70; refine (flag_x _ P _ (hI.fr (Fr.alloc none' _ _))).mono ?_; rintro e w3 ⟨dir, s2, hx2, rfl, hI', hF⟩
       have hB := hF.heap (heap_alloc_new _ _) (by omega); have hR := hF.heap (new_other hR) (by omega); have hT := Fr.step (Fr.new hT) hF (by omega); have hI := hI'; clear hI'; obtain ⟨c0, c1, c2, c3, c4⟩ := cells5 hB; have hfz := frozen_obj hB)
    | (go_at_call 32; refine (text_x _ P _ (hI.set hPl) 1100 (by omega)).mono ?_; rintro e w3 ⟨dat, s4, hx4, hk4, rfl, hI', hF⟩
       have hB := hF.heap (set5_2 hB) (by omega); have hR := hF.heap (set_other hR (by omega)) (by omega); have hT := Fr.step (Fr.set hT (by omega)) hF (by omega); have hI := hI'; clear hI'; obtain ⟨c0, c1, c2, c3, c4⟩ := cells5 hB; have hfz := frozen_obj hB)
    | (go_at_call 28; refine (num_x _ P _ (hI.set hPl)).mono ?_; rintro e w3 ⟨n, s5, hx5, hk5, rfl, hI', hF⟩
       have hB := hF.heap (set5_3 hB) (by omega); have hR := hF.heap (set_other hR (by omega)) (by omega); have hT := Fr.step (Fr.set hT (by omega)) hF (by omega); have hI := hI'; clear hI'; obtain ⟨c0, c1, c2, c3, c4⟩ := cells5 hB; have hfz := frozen_obj hB)
    | (refine store28 rfl (.tmp 2) (.tmp 25) rfl w.heap.size rfl [.int .i64 0, .bool false, .int .i64 0, .string ⟨⟨[]⟩⟩, .slice none 0 0] rfl rfl (by simp [Value.oneCell']) _ 28 hR rfl ?_; intro w9 h9 hF9))
  · refine bodyPost_ret (res_cell_tmp rfl (agg28 _) (size28 _) w.heap.size rfl _ rfl 28 h9) rfl ?_
    have e1 : resOf L = none := by simp only [resOf, *]; rw [if_neg (by omega)]
    rw [e1]
    exact ⟨.slice none 0 0, rfl, World.ownsRow_nil _ _ _ _, Fr.step hT hF9 (Nat.le_refl _)⟩
  · have hn512 : n ≤ 512 := by omega
    have hPB : P < w2.heap.size := hPl
    have hRB : w.heap.size < w2.heap.size := by omega
    have HX : Hid (resOf L = if n ≤ 512 ∧ (rdN n s5).2 = some [] then some ⟨code, dir, sz, dat, (rdN n s5).1⟩ else none) := show _ = _ by simp only [resOf, *]
    have hB3 := hB
    have hR3 := hR
    have hT3 := hT
    have hI3 := hI
    go_loopw [27] (fun u27 w4 => ∃ (i : Nat) (l : List (List UInt8)) (s6 : St) (nv : Value), i ≤ n ∧ u27 = .int .u64 (i : Nat) ∧ w4.heap[w2.heap.size]? = some (.cells #[.int .i64 code, .bool dir, .int .i64 sz, .string ⟨⟨dat⟩⟩, nv] 28 (0, 0)) ∧ On (w2.heap.size + 1) w4 nv l ∧ l.length = i ∧
      InAt w4 P s6 ∧ rdN n s5 = (l ++ (rdN (n - i) s6).1, (rdN (n - i) s6).2) ∧ w4.heap[w.heap.size]? = some (.cells #[.int .i64 0, .bool false, .int .i64 0, .string ⟨⟨[]⟩⟩, .slice none 0 0] 28 (0, 0)) ∧ Fr none' w w4) (fun i _ => n - (intOf i).toNat)
    case atStart => exact ⟨0, [], s5, .slice none 0 0, by omega, rfl, hB3, World.ownsRow_nil _ _ _ _, rfl, hI3, by simp, hR3, hT3⟩
    case round =>
      clear hx1 hx2 hx3 hx4 hx5 hB3 hR3 hT3 hI3
      obtain ⟨i, l, s6, nv, hi, rfl, hB4, hon, hli, hI4, hrd, hR4, hT4⟩ := hrel
      obtain ⟨ao, nn, cp, -, rfl⟩ := on_shape hon
      have HRD : Hid (rdN n s5 = (l ++ (rdN (n - i) s6).1, (rdN (n - i) s6).2)) := hrd
      have HLI : Hid (l.length = i) := hli
      clear hrd hli
      obtain ⟨c0, c1, c2, c3, c4⟩ := cells5 hB4
      have hfz4 := frozen_obj hB4
      have hbk : ∀ k, (Value.slice ao nn cp).ownBlock = some k → w2.heap.size + 1 ≤ k := fun k hk => (World.ownsRow.lt hon k hk).1
      have hsz4 : w2.heap.size < wr.heap.size := lt_of_heap hB4
      by_cases hin : i < n
      · go_wp2_with fail
        go_region_law (first
              | (go_simp; go_at_call 32; refine (text_x _ P _ (hI4.fr (Fr.drew none' _)) 1100 (by omega)).mono ?_; rintro e w5 ⟨x, s7, hx7, hk7, rfl, hI7, hF7⟩; simp only []
                 have hB5 := hF7.heap (drew_heap hB4) (by omega); obtain ⟨e0, e1, e2, e3, e4⟩ := cells5 hB5; have hfz5 := frozen_obj hB5; have hlt5 := lt_of_heap hB5; have hne5 := Nat.ne_of_lt hlt5
                 have hon5 := on_fr (on_fr hon (Fr.drew none' _) (fun _ _ h => h)) hF7 (fun k hk h => by have := hbk k hk; omega))
              | (refine step26 rfl (.tmp 30) (.tmp 33) rfl (w2.heap.size + 1) (.slice ao nn cp) l x rfl (on_fr hon5 (Fr.alloc none' _ _) (fun _ _ h => h)) w5.heap.size rfl (heap_alloc_new w5 _) (by have := HLI.out; omega) (by have := lt_of_heap hB5; simp; omega) ?_; intro v8 w8 hon8 hg8
                 obtain ⟨ao8, n8, cp8, -, rfl⟩ := on_shape hon8; have hB8 := grown_heap hg8 (new_other hB5) (fun k hk => by have := hbk k hk; omega); obtain ⟨g0, g1, g2, g3, g4⟩ := cells5 hB8; have hfz8 := frozen_obj hB8))
        all_goals go_wp2
        all_goals (
          have hI8 := ((hI7.fr (Fr.alloc none' w5 (.cells #[.string ⟨⟨x⟩⟩] 9))).keep (Fr.of_grown hg8) (fun k hk e => by have := hbk k e.symm; omega)).set (o := 4) (v := .slice ao8 n8 cp8) hPB
          have hR8 := set_other (i := 4) (v := .slice ao8 n8 cp8) (grown_heap hg8 (new_other (x := .cells #[.string ⟨⟨x⟩⟩] 9) (hF7.heap (drew_heap hR4) (by omega))) (fun k hk => by have := hbk k hk; omega)) (show w.heap.size ≠ w2.heap.size by omega)
          have hT5 : Fr none' w w5 := Fr.step (hT4.trans (Fr.drew _ _)) hF7 (by omega)
          have hT8 : Fr none' w w8 := (Fr.new (o := .cells #[.string ⟨⟨x⟩⟩] 9) hT5).trans' (Fr.of_grown hg8) (fun y hy e => by have := hbk y e.symm; omega)
          refine ⟨⟨i + 1, l ++ [x], s7, .slice ao8 n8 cp8, by omega, by simp, set5_4 hB8, on_fr hon8 (Fr.setAt _ _ _ _) (fun k hk e => by have := (World.ownsRow.lt hon8 k hk).1; omega), by rw [List.length_append, HLI.out]; rfl, hI8, ?_, hR8, Fr.set hT8 (by omega)⟩, ?_⟩
          · have e := HRD.out
            rw [show n - i = (n - (i + 1)) + 1 by omega] at e
            simp only [rdN, hx7] at e
            rw [e]; simp
          · simp [intOf]; omega)
      · obtain rfl : i = n := by omega
        have e := HRD.out
        rw [Nat.sub_self] at e
        simp only [rdN, List.append_nil] at e
        have e1 := HX.out
        rw [e] at e1
        simp only at e1
        have HE : Hid (resOf L = if i ≤ 512 ∧ s6 = some [] then some ⟨code, dir, sz, dat, l⟩ else none) := e1
        clear e e1
        go_wp2_with (first
          | (go_at_call 34; refine (end_spec _ P _ hI4).mono ?_; rintro e w8 ⟨rfl, rfl⟩)
          | (refine store28 rfl (.tmp 2) (.tmp 40) rfl w.heap.size rfl [.int .i64 0, .bool false, .int .i64 0, .string ⟨⟨[]⟩⟩, .slice none 0 0] rfl rfl (by simp [Value.oneCell']) _ 28 hR4 rfl ?_; intro w9 h9 hF9)
          | (refine load28 rfl (.tmp 5) rfl w2.heap.size 0 rfl _ rfl (cells_of hB4) ?_)
          | (refine store28 rfl (.tmp 2) (.tmp 41) rfl w.heap.size rfl _ rfl rfl (by simp [Value.oneCell']) _ 28 hR4 rfl ?_; intro w9 h9 hF9))
        · refine bodyPost_ret (res_cell_tmp rfl (agg28 _) (size28 _) w.heap.size rfl _ rfl 28 h9) rfl ?_
          have hs : s6 ≠ some [] := by simpa using ‹(!decide (s6 = some [])) = true›
          have e1 := HE.out
          rw [if_neg (fun h => hs h.2)] at e1
          rw [e1]
          exact ⟨.slice none 0 0, rfl, World.ownsRow_nil _ _ _ _, Fr.step hT4 hF9 (Nat.le_refl _)⟩
        · refine bodyPost_ret (res_cell_tmp rfl (agg28 _) (size28 _) w.heap.size rfl _ rfl 28 h9) rfl ?_
          have hs : s6 = some [] := by simpa using ‹(!decide (s6 = some [])) = false›
          have e1 := HE.out
          rw [if_pos ⟨hn512, hs⟩] at e1
          rw [e1]
          refine ⟨.slice ao nn cp, rfl, ?_, Fr.step hT4 hF9 (Nat.le_refl _)⟩
          have h1 := on_fr hon hF9 (fun k hk e => by have := hbk k hk; omega)
          refine ⟨h1.1, ?_⟩
          rcases h1.2 with hz | ⟨g, cap, cur, e, hb, rest⟩
          · exact .inl hz
          · exact .inr ⟨g, cap, cur, e, by omega, rest⟩
end Go.Proofs

/-! E3 -/
namespace Go.Proofs
open Go.RowKit Go.Wires
set_option maxHeartbeats 8000000
set_option maxRecDepth 100000
theorem rfUnpack_spec (w : World) (v : Value) (L : List UInt8) (hv : Sl w v L) (hb : ∀ k, v.ownBlock = some k → k < w.heap.size) (hlen : L.length ≤ 70368744177000) : Calls Tryz.prog 42 #[v] w fun e w' =>
    ∃ nv, e = .returned (.tuple #[((resOf L).getD zeroRes).val nv, .bool (resOf L).isSome]) ∧ On w.heap.size w' nv ((resOf L).getD zeroRes).names ∧ Fr none' w w' := by
  obtain ⟨ao, cap, rfl⟩ := Sl.shape hv
  have hR0 : (((w.alloc (.cells #[.int .i64 0, .bool false, .int .i64 0, .string ⟨⟨[]⟩⟩, .slice none 0 0] 28)).alloc (.cells #[.slice ao L.length cap, .int .i64 0, .int .i64 0] 100)).alloc (.cells #[.int .i64 0, .bool false, .int .i64 0, .string ⟨⟨[]⟩⟩, .slice none 0 0] 28)).heap[w.heap.size]? = some (.cells #[.int .i64 0, .bool false, .int .i64 0, .string ⟨⟨[]⟩⟩, .slice none 0 0] 28 (0, 0)) := new_other (two_old w _ _)
  have hP0 : (((w.alloc (.cells #[.int .i64 0, .bool false, .int .i64 0, .string ⟨⟨[]⟩⟩, .slice none 0 0] 28)).alloc (.cells #[.slice ao L.length cap, .int .i64 0, .int .i64 0] 100)).alloc (.cells #[.int .i64 0, .bool false, .int .i64 0, .string ⟨⟨[]⟩⟩, .slice none 0 0] 28)).heap[w.heap.size + 1]? = some (.cells #[.slice ao L.length cap, .int .i64 0, .int .i64 0] 100 (0, 0)) := new_other (two_new w _ _)
  have hB0 : (((w.alloc (.cells #[.int .i64 0, .bool false, .int .i64 0, .string ⟨⟨[]⟩⟩, .slice none 0 0] 28)).alloc (.cells #[.slice ao L.length cap, .int .i64 0, .int .i64 0] 100)).alloc (.cells #[.int .i64 0, .bool false, .int .i64 0, .string ⟨⟨[]⟩⟩, .slice none 0 0] 28)).heap[w.heap.size + 2]? = some (.cells #[.int .i64 0, .bool false, .int .i64 0, .string ⟨⟨[]⟩⟩, .slice none 0 0] 28 (0, 0)) := by
    have := heap_alloc_new ((w.alloc (.cells #[.int .i64 0, .bool false, .int .i64 0, .string ⟨⟨[]⟩⟩, .slice none 0 0] 28)).alloc (.cells #[.slice ao L.length cap, .int .i64 0, .int .i64 0] 100)) (.cells #[.int .i64 0, .bool false, .int .i64 0, .string ⟨⟨[]⟩⟩, .slice none 0 0] 28)
    rwa [World.size_alloc, World.size_alloc] at this
  have hT0 : Fr none' w (((w.alloc (.cells #[.int .i64 0, .bool false, .int .i64 0, .string ⟨⟨[]⟩⟩, .slice none 0 0] 28)).alloc (.cells #[.slice ao L.length cap, .int .i64 0, .int .i64 0] 100)).alloc (.cells #[.int .i64 0, .bool false, .int .i64 0, .string ⟨⟨[]⟩⟩, .slice none 0 0] 28)) := ((Fr.alloc none' _ _).trans (Fr.alloc none' _ _)).trans (Fr.alloc none' _ _)
  have hI0 := rin_new hP0 hv hT0 (fun k hk => by have := hb k hk; omega) hlen
  go_enter Tryz.func42, Tryz.ntmps42
  go_wp2_with (first
    | (go_at_call 38; have hii := hI; clear hii; refine (rint_x _ (w.heap.size + 1) _ (hI.set (by omega))).mono ?_; rintro e w3 ⟨sz, s3, hx3, hk3, rfl, hI', hF⟩
       have hB := hF.heap (set5_1 hB) (by omega); have hR := hF.heap (set_other hR (by omega)) (by omega); have hT := Fr.step (Fr.set hT (by omega)) hF (by omega); have hI := hI'; clear hI'; obtain ⟨c0, c1, c2, c3, c4⟩ := cells5 hB; have hfz := frozen_obj hB)
    | (go_at_call 38; refine (rint_x _ (w.heap.size + 1) _ hI0).mono ?_; rintro e w3 ⟨code, s1, hx1, hk1, rfl, hI, hF⟩
       have hB := hF.heap hB0 (by omega); have hR := hF.heap hR0 (by omega); have hT := Fr.step hT0 hF (by omega); obtain ⟨c0, c1, c2, c3, c4⟩ := cells5 hB; have hfz := frozen_obj hB)
    | (go_at_call 72; refine (rflag_x _ (w.heap.size + 1) _ (hI.set (by omega))).mono ?_; rintro e w3 ⟨dir, s2, hx2, rfl, hI', hF⟩
       have hB := hF.heap (set5_0 hB) (by omega); have hR := hF.heap (set_other hR (by omega)) (by omega); have hT := Fr.step (Fr.set hT (by omega)) hF (by omega); have hI := hI'; clear hI'; obtain ⟨c0, c1, c2, c3, c4⟩ := cells5 hB; have hfz := frozen_obj hB)
    | (go_at_call 41; refine (rtext_x _ (w.heap.size + 1) _ (hI.set (by omega)) 1100 (by omega)).mono ?_; rintro e w3 ⟨dat, s4, hx4, hk4, rfl, hI', hF⟩
       have hB := hF.heap (set5_2 hB) (by omega); have hR := hF.heap (set_other hR (by omega)) (by omega); have hT := Fr.step (Fr.set hT (by omega)) hF (by omega); have hI := hI'; clear hI'; obtain ⟨c0, c1, c2, c3, c4⟩ := cells5 hB; have hfz := frozen_obj hB)
    | (go_at_call 37; refine (rnum_x _ (w.heap.size + 1) _ (hI.set (by omega))).mono ?_; rintro e w3 ⟨n, s5, hx5, hk5, rfl, hI', hF⟩
       have hB := hF.heap (set5_3 hB) (by omega); have hR := hF.heap (set_other hR (by omega)) (by omega); have hT := Fr.step (Fr.set hT (by omega)) hF (by omega); have hI := hI'; clear hI'; obtain ⟨c0, c1, c2, c3, c4⟩ := cells5 hB; have hfz := frozen_obj hB))
  have HX : Hid (resOf L = if n ≤ 512 ∧ (rdN n s5).2 = some [] then some ⟨code, dir, sz, dat, (rdN n s5).1⟩ else none) := show _ = _ by simp only [resOf, *]
  have hB3 := hB
  have hR3 := hR
  have hT3 := hT
  have hI3 := hI
  go_loopw [7] (fun u7 w4 => ∃ (i : Nat) (l : List (List UInt8)) (s6 : St) (nv : Value), i ≤ n ∧ (n ≤ 512 ∨ i = 0) ∧ u7 = .int .u64 (i : Nat) ∧ w4.heap[w.heap.size + 2]? = some (.cells #[.int .i64 code, .bool dir, .int .i64 sz, .string ⟨⟨dat⟩⟩, nv] 28 (0, 0)) ∧ On (w.heap.size + 3) w4 nv l ∧ l.length = i ∧
    RinAt w4 (w.heap.size + 1) s6 ∧ rdN n s5 = (l ++ (rdN (n - i) s6).1, (rdN (n - i) s6).2) ∧ w4.heap[w.heap.size]? = some (.cells #[.int .i64 0, .bool false, .int .i64 0, .string ⟨⟨[]⟩⟩, .slice none 0 0] 28 (0, 0)) ∧ Fr none' w w4) (fun i _ => n - (intOf i).toNat)
  case atStart => exact ⟨0, [], s5, .slice none 0 0, by omega, .inr rfl, rfl, hB3, World.ownsRow_nil _ _ _ _, rfl, hI3, by simp, hR3, hT3⟩
  case round =>
    clear hx1 hx2 hx3 hx4 hx5 hB3 hR3 hT3 hI3
    obtain ⟨i, l, s6, nv, hi, h512, rfl, hB4, hon, hli, hI4, hrd, hR4, hT4⟩ := hrel
    obtain ⟨ao, nn, cp, -, rfl⟩ := on_shape hon
    have HRD : Hid (rdN n s5 = (l ++ (rdN (n - i) s6).1, (rdN (n - i) s6).2)) := hrd
    have HLI : Hid (l.length = i) := hli
    clear hrd hli
    obtain ⟨c0, c1, c2, c3, c4⟩ := cells5 hB4
    have hfz4 := frozen_obj hB4
    have hbk : ∀ k, (Value.slice ao nn cp).ownBlock = some k → w.heap.size + 3 ≤ k := fun k hk => (World.ownsRow.lt hon k hk).1
    have hsz4 : w.heap.size + 2 < wr.heap.size := lt_of_heap hB4
    by_cases hin : i < n ∧ n ≤ 512
    · obtain ⟨hin, hn512⟩ := hin
      go_wp2_with fail
      go_region_law (first
          | (go_simp; go_at_call 41; refine (rtext_x _ (w.heap.size + 1) _ (hI4.fr (Fr.drew none' _)) 1100 (by omega)).mono ?_; rintro e w5 ⟨x, s7, hx7, hk7, rfl, hI7, hF7⟩; simp only []
             have hB5 := hF7.heap (drew_heap hB4) (by omega); obtain ⟨e0, e1, e2, e3, e4⟩ := cells5 hB5; have hfz5 := frozen_obj hB5; have hlt5 := lt_of_heap hB5; have hne5 := Nat.ne_of_lt hlt5
             have hon5 := on_fr (on_fr hon (Fr.drew none' _) (fun _ _ h => h)) hF7 (fun k hk h => by have := hbk k hk; omega))
          | (refine step26 rfl (.tmp 35) (.tmp 38) rfl (w.heap.size + 3) (.slice ao nn cp) l x rfl (on_fr hon5 (Fr.alloc none' _ _) (fun _ _ h => h)) w5.heap.size rfl (heap_alloc_new w5 _) (by have := HLI.out; omega) (by have := lt_of_heap hB5; simp; omega) ?_; intro v8 w8 hon8 hg8
             obtain ⟨ao8, n8, cp8, -, rfl⟩ := on_shape hon8; have hB8 := grown_heap hg8 (new_other hB5) (fun k hk => by have := hbk k hk; omega); obtain ⟨g0, g1, g2, g3, g4⟩ := cells5 hB8; have hfz8 := frozen_obj hB8))
      all_goals go_wp2
      all_goals (
        have hI8 := ((hI7.fr (Fr.alloc none' w5 (.cells #[.string ⟨⟨x⟩⟩] 9))).keep (Fr.of_grown hg8) (fun k hk e => by have := hbk k e.symm; omega)).set (o := 4) (B := w.heap.size + 2) (v := .slice ao8 n8 cp8) (by omega)
        have hR8 := set_other (i := 4) (b := w.heap.size + 2) (v := .slice ao8 n8 cp8) (grown_heap hg8 (new_other (x := .cells #[.string ⟨⟨x⟩⟩] 9) (hF7.heap (drew_heap hR4) (by omega))) (fun k hk => by have := hbk k hk; omega)) (show w.heap.size ≠ w.heap.size + 2 by omega)
        have hT5 : Fr none' w w5 := Fr.step (hT4.trans (Fr.drew _ _)) hF7 (by omega)
        have hT8 : Fr none' w w8 := (Fr.new (o := .cells #[.string ⟨⟨x⟩⟩] 9) hT5).trans' (Fr.of_grown hg8) (fun y hy e => by have := hbk y e.symm; omega)
        refine ⟨⟨i + 1, l ++ [x], s7, .slice ao8 n8 cp8, by omega, .inl hn512, by simp, set5_4 hB8, on_fr hon8 (Fr.setAt _ _ _ _) (fun k hk e => by have := (World.ownsRow.lt hon8 k hk).1; omega), by rw [List.length_append, HLI.out]; rfl, hI8, ?_, hR8, Fr.set hT8 (by omega)⟩, ?_⟩
        · have e := HRD.out
          rw [show n - i = (n - (i + 1)) + 1 by omega] at e
          simp only [rdN, hx7] at e
          rw [e]; simp
        · simp [intOf]; omega)
    · obtain ⟨ec, hec, heq⟩ := hI4.err
      go_wp2_with (first
        | (go_at_call 43; refine (left_spec _ (w.heap.size + 1) _ hI4).mono ?_; rintro e w8 ⟨rfl, rfl⟩)
        | (refine store28 rfl (.tmp 2) (.tmp 55) rfl w.heap.size rfl [.int .i64 0, .bool false, .int .i64 0, .string ⟨⟨[]⟩⟩, .slice none 0 0] rfl rfl (by simp [Value.oneCell']) _ 28 (by first | exact hR4 | exact drew_heap hR4) rfl ?_; intro w9 h9 hF9)
        | (refine load28 rfl (.tmp 5) rfl (w.heap.size + 2) 0 rfl _ rfl (cells_of (drew_heap hB4)) ?_)
        | (refine store28 rfl (.tmp 2) (.tmp 56) rfl w.heap.size rfl _ rfl rfl (by simp [Value.oneCell']) _ 28 (drew_heap hR4) rfl ?_; intro w9 h9 hF9))
      · refine bodyPost_ret (res_cell_tmp rfl (agg28 _) (size28 _) w.heap.size rfl _ rfl 28 h9) rfl ?_
        have e1 := HX.out
        rw [if_neg (fun h => by omega)] at e1
        rw [e1]
        exact ⟨.slice none 0 0, rfl, World.ownsRow_nil _ _ _ _, Fr.step hT4 hF9 (Nat.le_refl _)⟩
      · refine bodyPost_ret (res_cell_tmp rfl (agg28 _) (size28 _) w.heap.size rfl _ rfl 28 h9) rfl ?_
        have hs1 := ‹Option.isSome s6 = true›
        have hs2 := ‹(512 < (n : Int) ∨ (ec != 0) = true) ∨ _›
        obtain rfl : i = n := by omega
        have e := HRD.out
        rw [Nat.sub_self] at e
        simp only [rdN, List.append_nil] at e
        have e1 := HX.out
        rw [e] at e1
        simp only at e1
        have hne : s6 ≠ some [] := by
          rintro rfl
          have := heq.2 rfl
          rcases hs2 with (h | h) | h
          · omega
          · simp [this] at h
          · simp at h
        rw [if_neg (fun h => hne h.2)] at e1
        rw [e1]
        exact ⟨.slice none 0 0, rfl, World.ownsRow_nil _ _ _ _, Fr.step (hT4.trans (Fr.drew _ _)) hF9 (Nat.le_refl _)⟩
      · refine bodyPost_ret (res_cell_tmp rfl (agg28 _) (size28 _) w.heap.size rfl _ rfl 28 h9) rfl ?_
        have hs1 := ‹Option.isSome s6 = true›
        have hs2 := ‹((n : Int) ≤ 512 ∧ (ec != 0) = false) ∧ _›
        obtain rfl : i = n := by omega
        have e := HRD.out
        rw [Nat.sub_self] at e
        simp only [rdN, List.append_nil] at e
        have e1 := HX.out
        rw [e] at e1
        simp only at e1
        have hs : s6 = some [] := by
          cases s6 with
          | none => simp at hs1
          | some l => have := hs2.2; simp at this; rw [this]
        rw [if_pos ⟨by omega, hs⟩] at e1
        rw [e1]
        refine ⟨.slice ao nn cp, rfl, ?_, Fr.step (hT4.trans (Fr.drew _ _)) hF9 (Nat.le_refl _)⟩
        have h1 := on_fr (on_fr hon (Fr.drew none' _) (fun _ _ h => h)) hF9 (fun k hk e => by have := hbk k hk; omega)
        refine ⟨h1.1, ?_⟩
        rcases h1.2 with hz | ⟨g, cap, cur, e, hb, rest⟩
        · exact .inl hz
        · exact .inr ⟨g, cap, cur, e, by omega, rest⟩
      · refine bodyPost_ret (res_cell_tmp rfl (agg28 _) (size28 _) w.heap.size rfl _ rfl 28 h9) rfl ?_
        have hs1 := ‹¬Option.isSome s6 = true›
        obtain rfl : i = n := by omega
        have e := HRD.out
        rw [Nat.sub_self] at e
        simp only [rdN, List.append_nil] at e
        have e1 := HX.out
        rw [e] at e1
        simp only at e1
        rw [if_neg (fun h => by rw [h.2] at hs1; simp at hs1)] at e1
        rw [e1]
        exact ⟨.slice none 0 0, rfl, World.ownsRow_nil _ _ _ _, Fr.step hT4 hF9 (Nat.le_refl _)⟩
end Go.Proofs

/-! E4 -/
namespace Go.Proofs
open Go.RowKit Go.Wires
set_option maxHeartbeats 8000000
set_option maxRecDepth 100000
section
variable {w : World} {ops : Array Oper} {rest : List Oper} {o : Oper} {a : Act} {Q : Exit → Act → World → Prop}
theorem conv31 (hgd : o.guard = none) (x : Operand) (ho : o.op = .convert 9 31 x) (S : List UInt8) (hx : a.eval x = .string ⟨⟨S⟩⟩)
    (h : ∀ v w', Sl w' v S → Fr none' w w' → (∀ k, v.ownBlock = some k → w.heap.size ≤ k ∧ k < w'.heap.size) → wpList Tryz.prog ops Q rest (a.put o.dst v) w') : wpList Tryz.prog ops Q (o :: rest) a w := by
  refine wpList_plain hgd fun K hK => ?_
  have hr := run_bytes_of_string (P := Tryz.prog) w 9 31 5 ⟨⟨S⟩⟩ Tryz.underlying9 Tryz.underlying31 Tryz.underlying5
  have hsz : (⟨⟨S⟩⟩ : ByteArray).size = S.length := rfl
  have hge := grownCap_ge w S.length 0 5
  rw [hsz] at hr
  unfold Oper.wp execOp
  simp only [ho, hx, Sem.run_bind, Sem.run_pure, Result.andThen_ok, hr]
  refine hK _ _ (h _ _ (.inr ⟨w.heap.size, 0, _, rfl, hge, ?_⟩) ((Fr.drew none' _).trans (Fr.alloc none' _ _)) ?_)
  · intro j u hu
    have hh := heap_alloc_new w.drew (.cells (bytesRow ⟨⟨S⟩⟩ (grownCap w S.length 0 5)) 5 ((bytesRow ⟨⟨S⟩⟩ (grownCap w S.length 0 5)).size, (bytesRow ⟨⟨S⟩⟩ (grownCap w S.length 0 5)).size + 1))
    have hh2 : (w.drew.alloc (.cells (bytesRow ⟨⟨S⟩⟩ (grownCap w S.length 0 5)) 5 ((bytesRow ⟨⟨S⟩⟩ (grownCap w S.length 0 5)).size, (bytesRow ⟨⟨S⟩⟩ (grownCap w S.length 0 5)).size + 1))).heap[w.heap.size]? = some _ := hh
    rw [cell_obj hh2, Nat.zero_add]
    have hj : j < S.length := by have := (List.getElem?_eq_some_iff.1 hu).1; simpa [bvs] using this
    unfold bytesRow
    rw [Array.getElem?_append_left (by simpa using hj)]
    rw [← hu]
    simp [bvs, bv, hj]
  · intro k hk
    simp only [Value.ownBlock, Option.some.injEq] at hk
    subst hk
    simp
theorem store49_2 (hgd : o.guard = none) (x y : Operand) (ho : o.op = .store 49 x y)
    (b : Nat) (hx : a.eval x = .pointer (some ⟨b, 2, none⟩)) (cs : List Value) (hy : a.eval y = .agg cs.toArray) (hn : cs.length = 6) (h1 : ∀ u ∈ cs, u.oneCell' = true)
    (c0 c1 d0 d1 d2 d3 d4 d5 : Value) (T : TypeId) (hb : w.heap[b]? = some (.cells #[c0, c1, d0, d1, d2, d3, d4, d5] T (0, 0)))
    (h : ∀ w', w'.heap[b]? = some (.cells (c0 :: c1 :: cs).toArray T (0, 0)) → Fr (· = b) w w' → wpList Tryz.prog ops Q rest (a.put o.dst undef) w') : wpList Tryz.prog ops Q (o :: rest) a w := by
  refine wpList_plain hgd fun K hK => ?_
  have hst := run_storeCells_at Tryz.prog b 2 T cs 0 #[c0, c1, d0, d1, d2, d3, d4, d5] w hb (by simp [hn]) h1
  have hset : (List.take (2 + 0) (#[c0, c1, d0, d1, d2, d3, d4, d5] : Array Value).toList ++ cs ++ List.drop (2 + 0 + cs.length) (#[c0, c1, d0, d1, d2, d3, d4, d5] : Array Value).toList).toArray = (c0 :: c1 :: cs).toArray := by
    rw [hn]; simp
  rw [hset] at hst
  unfold Oper.wp execOp
  simp only [ho, hx, hy, Instr.storeAt, Instr.sureAddr, storeVar, Value.cells, Sem.run_bind, Sem.run_pure, Result.andThen_ok, size49]
  rw [if_neg (by simp [hn])]
  simp only [hst]
  exact hK _ _ (h _ (setRow_heap w b _ (c0 :: c1 :: cs).toArray T _ hb) ⟨rfl, rfl, by simp, fun k _ hk => setRow_other w b k _ hk⟩)
theorem Tryz.info51 : (Tryz.prog.info? 51).map (fun i => (i.zero, i.size, i.bytes)) = some (some (.agg #[.int .i64 0, .int .i64 0, .int .i64 0, .string .empty, .string .empty, .string .empty, .int .i64 0, .int .i64 0]), 8, 88) := by kernel_rfl
/-- Entries of one's own. -/
def Oe (N : Nat) (w : World) (v : Value) (l : List Entx) : Prop := w.ownsRow N 51 8 v l.length (entCells l)
theorem entCells_app (l : List Entx) (e : Entx) : entCells (l ++ [e]) = entCells l ++ e.cells := by simp [entCells]
theorem app24 (hgd : o.guard = none) (s x : Operand) (ho : o.op = .call { callee := .builtin .append, args := #[s, x], argTypes := #[24, 24] })
    (base : Nat) (v : Value) (l : List Entx) (en : Entx) (hs : a.eval s = v) (hown : Oe base w v l) (X : Nat) (hx : a.eval x = .slice (some ⟨X, 0, none⟩) 1 1) (T : TypeId) (hX : w.heap[X]? = some (.cells en.cells.toArray T (0, 0)))
    (hlen : l.length ≤ 100000) (hbase : base ≤ w.heap.size)
    (h : ∀ v' w', Oe base w' v' (l ++ [en]) → w.grownBy w' v.ownBlock → wpList Tryz.prog ops Q rest (a.put o.dst v') w') : wpList Tryz.prog ops Q (o :: rest) a w := by
  obtain ⟨i, hi, hz, h1, h2⟩ := info_parts Tryz.info51
  refine wpList_append_own w hgd s x 24 ho base 51 i _ 8 88 Tryz.underlying24 hi hz h1 h2 rfl (by decide) v l.length (entCells l) hs hown ⟨X, 0, none⟩ 1 1 en.cells hx rfl
    (fun j u hu => by rw [Addr.add_lit, cell_obj hX, Nat.zero_add]; simpa using hu) (by simp [Entx.cells, Opx.cells, Value.oneCell']) (by simp only [maxLen]; omega) (by omega) hbase ?_
  intro v' w' k1 k2 _
  refine h v' w' ?_ k2
  unfold Oe
  rw [entCells_app, List.length_append]; exact k1
end
end Go.Proofs

/-! E5 -/
namespace Go.Proofs
open Go.RowKit Go.Wires
set_option maxHeartbeats 8000000
set_option maxRecDepth 100000
/-- Entries out of bytes. -/
def rdE : Nat → St → Option (List Entx) × St
  | 0, s => (some [], s)
  | k + 1, s =>
    let c := rdS rInt 0 s
    let b := rdS rInt 0 c.2
    let t := rdS (rText 262144) [] b.2
    match opOf t.1 with
    | none => (none, t.2)
    | some o => ((rdE k t.2).1.map (fun l => ⟨c.1, b.1, o⟩ :: l), (rdE k t.2).2)
def entOk (n : Nat) (s : St) : Bool := decide (n ≤ 32) && (rdE n s).1.isSome
theorem oe_shape {N : Nat} {w : World} {v : Value} {l : List Entx} (h : Oe N w v l) : ∃ ao n cp, n = l.length ∧ v = .slice ao n cp := by
  rcases h.2 with ⟨e, h0⟩ | ⟨g, cap, cur, e, _⟩
  · exact ⟨none, _, 0, rfl, by rw [e, h0]⟩
  · exact ⟨_, _, cap, rfl, e⟩
theorem oe_fr {S : Nat → Prop} {N : Nat} {w w' : World} {v : Value} {l : List Entx} (h : Oe N w v l) (hf : Fr S w w') (hn : ∀ k, v.ownBlock = some k → ¬ S k) : Oe N w' v l := by
  refine ⟨h.1, ?_⟩
  rcases h.2 with hz | ⟨g, cap, cur, e, hb, hgg, rest⟩
  · exact .inl hz
  · exact .inr ⟨g, cap, cur, e, hb, hf.heap hgg (hn g (by rw [e]; rfl)), rest⟩
theorem rdE_none {k : Nat} {s s2 s3 s4 : St} {c b : Int} {tx : List UInt8} (h2 : rdS rInt 0 s = (c, s2)) (h3 : rdS rInt 0 s2 = (b, s3)) (h4 : rdS (rText 262144) [] s3 = (tx, s4)) (ho : opOf tx = none) : rdE (k + 1) s = (none, s4) := by
  simp only [rdE, h2, h3, h4, ho]
theorem rdE_some {k : Nat} {s s2 s3 s4 : St} {c b : Int} {tx : List UInt8} {o : Opx} (h2 : rdS rInt 0 s = (c, s2)) (h3 : rdS rInt 0 s2 = (b, s3)) (h4 : rdS (rText 262144) [] s3 = (tx, s4)) (ho : opOf tx = some o) :
    rdE (k + 1) s = ((rdE k s4).1.map (fun l => ⟨c, b, o⟩ :: l), (rdE k s4).2) := by
  simp only [rdE, h2, h3, h4, ho]
theorem codeIf_t {b : Bool} (h : (codeIf b 21 != 0) = true) : b = false := by cases b <;> simp_all [codeIf]
theorem codeIf_f {b : Bool} (h : (codeIf b 21 != 0) = false) : b = true := by cases b <;> simp_all [codeIf]
theorem entries_spec (w : World) (P : Nat) (s : St) (n : Nat) (hn : n < 18446744073709551616) (h : InAt w P s) : Calls Tryz.prog 31 #[.pointer (some ⟨P, 0, none⟩), .int .u64 (n : Nat)] w fun e w' =>
    ∃ ev s', e = .returned (.tuple #[ev, .bool (entOk n s)]) ∧ InAt w' P s' ∧ Fr (· = P) w w' ∧ (entOk n s = false → ev = .slice none 0 0) ∧ (∀ l, n ≤ 32 → (rdE n s).1 = some l → Oe w.heap.size w' ev l ∧ s' = (rdE n s).2) := by
  have hPl := h.lt
  by_cases h32 : n ≤ 32
  rotate_left
  · have e1 : entOk n s = false := by simp [entOk]; omega
    have HE : Hid (entOk n s = false) := e1
    clear e1
    go_enter Tryz.func31, Tryz.ntmps31
    go_wp2_with fail
    go_returns
    exact ⟨.slice none 0 0, s, by rw [HE.out]; rfl, h, Fr.refl _ _, fun _ => rfl, fun l hl => absurd hl h32⟩
  go_enter Tryz.func31, Tryz.ntmps31
  go_wp2_with fail
  go_loopw [6, 13] (fun u6 u13 w1 => ∃ (i : Nat) (l : List Entx) (s1 : St), i ≤ n ∧ u13 = .int .u64 (i : Nat) ∧ Oe w.heap.size w1 u6 l ∧ l.length = i ∧ InAt w1 P s1 ∧ Fr (· = P) w w1 ∧ rdE n s = ((rdE (n - i) s1).1.map (fun r => l ++ r), (rdE (n - i) s1).2)) (fun _ i _ => n - (intOf i).toNat)
  case atStart => exact ⟨0, [], s, by omega, rfl, World.ownsRow_nil _ _ _ _, rfl, h, Fr.refl _ _, by simp⟩
  case round =>
    clear h
    obtain ⟨i, l, s1, hi, rfl, ho, hli, hI, hF, hrd⟩ := hrel
    obtain ⟨ao, nn, cp, -, rfl⟩ := oe_shape ho
    have HRD : Hid (rdE n s = ((rdE (n - i) s1).1.map (fun r => l ++ r), (rdE (n - i) s1).2)) := hrd
    have HLI : Hid (l.length = i) := hli
    clear hrd hli
    have hbk : ∀ k, (Value.slice ao nn cp).ownBlock = some k → w.heap.size ≤ k := fun k hk => (World.ownsRow.lt ho k hk).1
    have hsz := hF.size
    by_cases hin : i < n
    · go_wp2_with (first
        | (go_at_call 29; have hgg := hI2; clear hgg; refine (int_x _ _ _ hI2).mono ?_; rintro e w3 ⟨nb, s3, hx3, hk3, rfl, hI3, hF3⟩)
        | (go_at_call 29; refine (int_x _ _ _ hI).mono ?_; rintro e w2 ⟨cl, s2, hx2, hk2, rfl, hI2, hF2⟩)
        | (go_at_call 32; refine (text_x _ P _ (hI3.fr (Fr.alloc none' _ _)) 262144 (by omega)).mono ?_; rintro e w4 ⟨tx, s4, hx4, hk4, rfl, hI4, hF4⟩
           have hX4 := hF4.heap (heap_alloc_new w3 _) (by have := hI3.lt; omega))
        | (refine conv31 rfl (.tmp 22) rfl tx rfl ?_; intro bvv w5 hsl5 hF5 hb5; have hX5 := hF5.heap hX4 (fun h => h))
        | (go_at_call 69; refine (opDecode_spec _ _ tx hsl5 (by omega)).mono ?_; rintro e w6 ⟨rfl, hF6⟩; have hX6 := hF6.heap hX5 (fun h => h))
        | (refine store49 rfl (.tmp 8) (.tmp 25) rfl w6.heap.size rfl ((opOf tx).getD zeroOp).cells rfl rfl (by simp [Opx.cells, Value.oneCell']) _ 49 (heap_alloc_new w6 _) rfl ?_; intro w7 h7 hF7; have hX7 := hF7.heap (new_other hX6) (by have := lt_of_heap hX6; omega))
        | (refine load49 rfl (.tmp 8) rfl w6.heap.size 0 rfl _ rfl (cells_of h7) ?_)
        | (refine store49_2 rfl (.tmp 30) (.tmp 29) rfl w3.heap.size rfl ((opOf tx).getD zeroOp).cells rfl rfl (by simp [Opx.cells, Value.oneCell']) _ _ _ _ _ _ _ _ 51 hX7 ?_; intro w8 h8 hF8
           have h8' : w8.heap[w3.heap.size]? = some (.cells (Entx.cells ⟨cl, nb, (opOf tx).getD zeroOp⟩).toArray 51 (0, 0)) := h8
           have hs1 := hF2.size
           have hs2 := hF3.size
           have hs4 := lt_of_heap hX6
           have hbk2 : ∀ k, (Value.slice ao nn cp).ownBlock = some k → k < wr.heap.size := fun k hk => (World.ownsRow.lt ho k hk).2
           have ho8 : Oe w.heap.size w8 (.slice ao nn cp) l := oe_fr (oe_fr (oe_fr (oe_fr (oe_fr (oe_fr (oe_fr (oe_fr (oe_fr ho hF2 (fun k hk e => by have := hbk k hk; omega)) hF3 (fun k hk e => by have := hbk k hk; omega)) (Fr.alloc none' _ _) (fun _ _ h => h)) hF4 (fun k hk e => by have := hbk k hk; omega)) hF5 (fun _ _ h => h)) hF6 (fun _ _ h => h)) (Fr.alloc none' _ _) (fun _ _ h => h)) hF7 (fun k hk e => by have := hbk2 k hk; omega)) hF8 (fun k hk e => by have := hbk2 k hk; omega))
        | (refine load51 rfl (.tmp 7) rfl w3.heap.size 0 rfl [.int .i64 cl, .int .i64 nb, .int .i64 ((opOf tx).getD zeroOp).kind, .string ⟨⟨((opOf tx).getD zeroOp).path⟩⟩, .string ⟨⟨((opOf tx).getD zeroOp).to⟩⟩, .string ⟨⟨((opOf tx).getD zeroOp).data⟩⟩, .int .i64 ((opOf tx).getD zeroOp).at_, .int .i64 ((opOf tx).getD zeroOp).size] rfl (cells_of h8') ?_)
        | (at_builtin; refine app24 rfl (.tmp 31) (.tmp 33) rfl w.heap.size (.slice ao nn cp) l ⟨cl, nb, (opOf tx).getD zeroOp⟩ rfl (oe_fr ho8 (Fr.alloc none' _ _) (fun _ _ h => h)) w8.heap.size rfl 51 (heap_alloc_new w8 _) (by have := HLI.out; omega) (by have := lt_of_heap h8; simp; omega) ?_; intro v9 w9 ho9 hg9))
      case roundEnd =>
        obtain ⟨o, ho⟩ := Option.isSome_iff_exists.1 (codeIf_f (by assumption))
        have hi1 : n - i = (n - (i + 1)) + 1 := by omega
        have FZ : Fr (w.heap.size ≤ ·) w4 w9 := (((((hF5.mono fun _ _ h => h.elim).trans (hF6.mono fun _ _ h => h.elim)).trans (Fr.alloc _ _ _)).trans (hF7.mono fun k _ e => by omega)).trans (hF8.mono fun k _ e => by omega)).trans ((Fr.alloc _ _ _).trans ((Fr.of_grown hg9).mono fun k _ e => by have := hbk k e.symm; omega))
        refine ⟨⟨i + 1, l ++ [⟨cl, nb, (opOf tx).getD zeroOp⟩], s4, by omega, by simp, ho9, by simp [HLI.out], ?_, ?_, ?_⟩, ?_⟩
        · exact hI4.keep FZ (fun k _ hk => by omega)
        · exact ((((hF.trans hF2).trans hF3).trans (Fr.alloc _ _ _)).trans hF4).trans' FZ fun k hk e => by omega
        · rw [HRD.out, hi1, rdE_some hx2 hx3 hx4 ho, ho]
          simp [Option.map_map, Function.comp_def]
        · simp [intOf]; omega
      · have hnn := Option.isSome_eq_false_iff.1 (codeIf_t (by assumption))
        have hno : opOf tx = none := by simpa using hnn
        have hi1 : n - i = (n - (i + 1)) + 1 := by omega
        have hrn : rdE n s = (none, s4) := by rw [HRD.out, hi1, rdE_none hx2 hx3 hx4 hno]; rfl
        have hs1 := hF2.size
        have hs2 := hF3.size
        have hs4 := lt_of_heap hX6
        have FZ : Fr (w.heap.size ≤ ·) w4 w7 := (((hF5.mono fun _ _ h => h.elim).trans (hF6.mono fun _ _ h => h.elim)).trans (Fr.alloc _ _ _)).trans (hF7.mono fun k _ e => by omega)
        have hfin : ∃ ev s', Ending.returned (.tuple #[.slice none 0 0, .bool false]) = .returned (.tuple #[ev, .bool (entOk n s)]) ∧ InAt w7 P s' ∧ Fr (· = P) w w7 ∧ (entOk n s = false → ev = .slice none 0 0) ∧ (∀ l, n ≤ 32 → (rdE n s).1 = some l → Oe w.heap.size w7 ev l ∧ s' = (rdE n s).2) := by
          refine ⟨.slice none 0 0, s4, by simp [entOk, hrn], hI4.keep FZ (fun k _ hk => by omega), ((((hF.trans hF2).trans hF3).trans (Fr.alloc _ _ _)).trans hF4).trans' FZ fun k hk e => by omega, fun _ => rfl, fun l _ h => by rw [hrn] at h; cases h⟩
        clear hrn hi1 hnn hno FZ
        go_returns
        exact hfin
    · have hni : n = i := by omega
      subst hni
      have hrn : rdE n s = (some l, s1) := by rw [HRD.out]; simp [rdE]
      have hfin : ∃ ev s', Ending.returned (.tuple #[.slice ao nn cp, .bool true]) = .returned (.tuple #[ev, .bool (entOk n s)]) ∧ InAt wr P s' ∧ Fr (· = P) w wr ∧ (entOk n s = false → ev = .slice none 0 0) ∧ (∀ l, n ≤ 32 → (rdE n s).1 = some l → Oe w.heap.size wr ev l ∧ s' = (rdE n s).2) := by
        refine ⟨.slice ao nn cp, s1, by simp [entOk, hrn, h32], hI, hF, fun h => by simp [entOk, hrn, h32] at h, fun l' _ h => ?_⟩
        rw [hrn] at h; cases h; exact ⟨ho, by rw [hrn]⟩
      clear hrn
      go_wp2_with fail
      go_returns
      exact hfin
end Go.Proofs
