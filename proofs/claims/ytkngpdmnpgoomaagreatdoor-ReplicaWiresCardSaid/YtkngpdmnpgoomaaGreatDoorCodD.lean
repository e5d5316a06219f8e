/-
  The codec: what the reference reads of numbers, texts, digests and operations. Conditions: the bounds that each contract states.
-/
import Derived.Test.YtkngpdmnpgoomaaGreatDoorCodB
import Derived.RegionTactic
/-! C1 -/
namespace Go.Proofs
open Go.RowKit Go.Wires
set_option maxHeartbeats 4000000
set_option maxRecDepth 100000
def RinAt (w : World) (P : Nat) (s : St) : Prop :=
  ∃ (ao : Option Addr) (cap : Nat) (B : List UInt8) (at_ : Nat) (e : Int) (T : TypeId), w.heap[P]? = some (.cells #[.slice ao B.length cap, .int .i64 (at_ : Nat), .int .i64 e] T (0, 0)) ∧
    (∀ k, (Value.slice ao B.length cap).ownBlock = some k → k < P) ∧ Sl w (.slice ao B.length cap) B ∧ at_ ≤ B.length ∧ B.length ≤ 70368744177000 ∧ match s with | some L => e = 0 ∧ L = B.drop at_ | none => e ≠ 0 ∧ at_ = B.length
theorem RinAt.keep {S : Nat → Prop} {w w' : World} {P : Nat} {s : St} (h : RinAt w P s) (hf : Fr S w w') (hn : ∀ k, k < w.heap.size → S k → P < k) : RinAt w' P s := by
  obtain ⟨ao, cap, B, a, e, T, hP, hne, hsl, r⟩ := h
  have hlt := lt_of_heap hP
  exact ⟨ao, cap, B, a, e, T, hf.heap hP (fun h => Nat.lt_irrefl _ (hn _ hlt h)), hne, hsl.fr hf fun b hb hS => by { have h1 := hne b hb; have := hn b (by omega) hS; omega }, r⟩
theorem RinAt.fr {w w' : World} {P : Nat} {s : St} (h : RinAt w P s) (hf : Fr none' w w') : RinAt w' P s := h.keep hf fun _ _ h => h.elim
theorem RinAt.lt {w : World} {P : Nat} {s : St} (h : RinAt w P s) : P < w.heap.size := by
  obtain ⟨ao, cap, B, a, e, T, hP, _⟩ := h
  exact lt_of_heap hP
theorem RinAt.set {w : World} {P B o : Nat} {v : Value} {s : St} (h : RinAt w P s) (hB : P < B) : RinAt (w.setCell ⟨B, o, none⟩ v) P s := h.keep (Fr.setAt w B o v) fun k _ e => by rw [e]; exact hB
theorem cells3 {w : World} {B : Nat} {T : TypeId} {a b c : Value} (h : w.heap[B]? = some (.cells #[a, b, c] T (0, 0))) :
    w.cell? ⟨B, 0, none⟩ = some a ∧ w.cell? ⟨B, 1, none⟩ = some b ∧ w.cell? ⟨B, 2, none⟩ = some c := ⟨cell_obj h 0, cell_obj h 1, cell_obj h 2⟩
theorem set3_1 {w : World} {B : Nat} {T : TypeId} {a b c v : Value} (h : w.heap[B]? = some (.cells #[a, b, c] T (0, 0))) : (w.setCell ⟨B, 1, none⟩ v).heap[B]? = some (.cells #[a, v, c] T (0, 0)) := by simpa using heap_setCell_same w B 1 _ T v h
theorem set3_2 {w : World} {B : Nat} {T : TypeId} {a b c v : Value} (h : w.heap[B]? = some (.cells #[a, b, c] T (0, 0))) : (w.setCell ⟨B, 2, none⟩ v).heap[B]? = some (.cells #[a, b, v] T (0, 0)) := by simpa using heap_setCell_same w B 2 _ T v h
theorem rbad_spec (w : World) (P : Nat) (s : St) (e : Int) (he : e ≠ 0) (h : RinAt w P s) : Calls Tryz.prog 71 #[.pointer (some ⟨P, 0, none⟩), .int .i64 e] w fun r w' => r = .returned (.tuple #[]) ∧ RinAt w' P none ∧ Fr (· = P) w w' := by
  obtain ⟨ao, cap, B, a, e0, T, hP, hne, hsl, ha, hb, hs⟩ := h
  obtain ⟨c0, c1, c2⟩ := cells3 hP
  have hfz := frozen_obj hP
  go_enter Tryz.func71, Tryz.ntmps71
  go_wp2
  go_returns
  have hF : Fr (· = P) w ((w.setCell ⟨P, 2, none⟩ (.int .i64 e)).setCell ⟨P, 1, none⟩ (.int .i64 (B.length : Nat))) := (Fr.setAt _ _ _ _).trans (Fr.setAt _ _ _ _)
  exact ⟨rfl, ⟨ao, cap, B, B.length, e, T, set3_1 (set3_2 hP), hne, hsl.fr hF (fun b hb h => by have := hne b hb; omega), Nat.le_refl _, hb, he, rfl⟩, hF⟩
theorem left_spec (w : World) (P : Nat) (s : St) (h : RinAt w P s) : Calls Tryz.prog 43 #[.pointer (some ⟨P, 0, none⟩)] w fun r w' => r = .returned (.int .i64 (((s.getD []).length : Nat) : Int)) ∧ w' = w.drew := by
  obtain ⟨ao, cap, B, a, e0, T, hP, hne, hsl, ha, hb, hs⟩ := h
  obtain ⟨c0, c1, c2⟩ := cells3 hP
  have hfz := frozen_obj hP
  have hl : (B.length : Int) - (a : Int) = (((s.getD []).length : Nat) : Int) := by
    cases s with
    | none => obtain ⟨_, rfl⟩ := hs; simp
    | some L => obtain ⟨_, rfl⟩ := hs; simp; omega
  go_enter Tryz.func43, Tryz.ntmps43
  go_wp2_with (first | go_region)
  go_returns
  exact ⟨rfl, rfl⟩
theorem radv {w : World} {P : Nat} {ao : Option Addr} {cap a : Nat} {B r : List UInt8} {c : UInt8} {T : TypeId} (hP : w.heap[P]? = some (.cells #[.slice ao B.length cap, .int .i64 (a : Nat), .int .i64 0] T (0, 0)))
    (hne : ∀ k, (Value.slice ao B.length cap).ownBlock = some k → k < P) (hsl : Sl w (.slice ao B.length cap) B) (hb : B.length ≤ 70368744177000) (hL : c :: r = B.drop a) {n : Nat} {x : Int} (hx : x = ((a + n : Nat) : Int)) (hn : n ≤ (c :: r).length) :
    RinAt (w.setCell ⟨P, 1, none⟩ (.int .i64 x)) P (some ((c :: r).drop n)) := by
  subst hx
  have hlen := congrArg List.length hL
  rw [List.length_drop] at hlen
  refine ⟨ao, cap, B, a + n, 0, T, set3_1 hP, hne, hsl.fr (Fr.setAt _ _ _ _) (fun b hb h => by have := hne b hb; omega), by simp at hlen hn; omega, hb, rfl, ?_⟩
  rw [hL, List.drop_drop]
theorem rcell {w : World} {ao : Option Addr} {cap a : Nat} {B r : List UInt8} {c : UInt8} (hsl : Sl w (.slice ao B.length cap) B) (hL : c :: r = B.drop a) : ∃ b off, ao = some ⟨b, off, none⟩ ∧ w.cell? ⟨b, off + a, none⟩ = some (.int .u8 (c.toNat : Int)) := by
  rcases hsl with ⟨e, rfl⟩ | ⟨b, off, cp, e, hc, hcells⟩
  · simp at hL
  · cases e
    refine ⟨b, off, rfl, hcells a _ (bvs_get ?_)⟩
    have := congrArg (fun l => l[0]?) hL
    simpa using this.symm
theorem rnum_spec (w : World) (P : Nat) (s : St) (h : RinAt w P s) : Calls Tryz.prog 37 #[.pointer (some ⟨P, 0, none⟩)] w fun e w' =>
    e = .returned (.int .u64 ((rdS rNum 0 s).1 : Nat)) ∧ RinAt w' P (rdS rNum 0 s).2 ∧ Fr (· = P) w w' := by
  rw [goN_zero]
  rcases s with _ | L
  · have hI := h
    obtain ⟨ao, cap, B, a, e0, T, hP, hne, hsl, ha, hb, he, rfl⟩ := h
    obtain ⟨c0, c1, c2⟩ := cells3 hP
    go_enter Tryz.func37, Tryz.ntmps37
    go_wp2_with fail
    go_returns
    exact ⟨rfl, hI, Fr.refl _ _⟩
  · have hI := h
    obtain ⟨ao, cap, B, a, e0, T, hP, hne, hsl, ha, hb, rfl, hL⟩ := h
    obtain ⟨c0, c1, c2⟩ := cells3 hP
    go_enter Tryz.func37, Tryz.ntmps37
    go_wp2_with fail
    go_loopw [3, 4] (fun n at_ w1 => ∃ (k acc : Nat) (L1 : List UInt8), k ≤ 9 ∧ acc < 128 ^ k ∧ at_ = .int .i64 (k : Nat) ∧ n = .int .u64 (acc : Nat) ∧ RinAt w1 P (some L1) ∧ Fr (· = P) w w1 ∧ goN 0 0 (some L) = goN k acc (some L1)) (fun _ at_ _ => 10 - (intOf at_).toNat)
    case atStart => exact ⟨0, 0, L, by omega, by omega, rfl, rfl, hI, Fr.refl _ _, rfl⟩
    case round =>
      clear c0 c1 c2 hP hne hsl ha hb hL hI
      obtain ⟨k, acc, L1, hk, hacc, rfl, rfl, hI, hF, hg⟩ := hrel
      have H : Hid (goN 0 0 (some L) = goN k acc (some L1)) := hg
      clear hg
      have hI0 := hI
      obtain ⟨ao, cap, B, a, e0, T, hP, hne, hsl, ha, hb, rfl, hL⟩ := hI
      obtain ⟨c0, c1, c2⟩ := cells3 hP
      have hfz := frozen_obj hP
      rcases L1 with _ | ⟨c, r⟩
      · have hend : a = B.length := by have := congrArg List.length hL; simp at this; omega
        clear hL
        go_wp2_with (first | go_region | (go_at_call 71; refine (rbad_spec _ _ _ _ (by decide) (hI0.fr (Fr.drew none' _))).mono ?_; rintro e w2 ⟨rfl, hI2, hF2⟩))
        go_returns
        rw [H.out, goN_nil]
        exact ⟨rfl, hI2, (hF.trans (Fr.drew _ _)).trans hF2⟩
      · have halt : a < B.length := by have := congrArg List.length hL; rw [List.length_drop] at this; simp at this; omega
        obtain ⟨b, off, rfl, hcell⟩ := rcell hsl hL
        have hc8 := UInt8.toNat_lt c
        have hadv : RinAt (wr.drew.drew.setCell ⟨P, 1, none⟩ (.int .i64 ((a : Int) + 1))) P (some r) := by
          have := radv (w := wr.drew.drew) (n := 1) (x := (a : Int) + 1) hP hne (hsl.fr ((Fr.drew none' _).trans (Fr.drew none' _)) (fun _ _ h => h)) hb hL (by simp) (by simp)
          simpa using this
        have hFa : Fr (· = P) w (wr.drew.drew.setCell ⟨P, 1, none⟩ (.int .i64 ((a : Int) + 1))) := ((hF.trans (Fr.drew _ _)).trans (Fr.drew _ _)).trans (Fr.setAt _ _ _ _)
        clear hL hsl
        go_wp2_with (first | go_region | (go_at_call 71; refine (rbad_spec _ _ _ _ (by decide) hadv).mono ?_; rintro e w3 ⟨rfl, hI3, hF3⟩))
        all_goals (try simp only [beq_iff_eq, beq_eq_false_iff_ne] at *)
        · go_returns
          rw [H.out, goN_bad (by omega)]
          exact ⟨rfl, hI3, hFa.trans hF3⟩
        · go_returns
          rw [H.out, goN_last (by omega) (by omega)]
          exact ⟨congrArg (fun x => Ending.returned (Value.int .u64 x)) (or_nine c hacc (by omega) (by omega)), hadv, hFa⟩
        · go_returns
          rw [H.out, goN_bad (by omega)]
          exact ⟨rfl, hI3, hFa.trans hF3⟩
        · go_returns
          rw [H.out, goN_bad (by omega)]
          exact ⟨rfl, hI3, hFa.trans hF3⟩
        · go_returns
          rw [H.out, goN_last (by omega) (by omega)]
          exact ⟨congrArg (fun x => Ending.returned (Value.int .u64 x)) (or_last c hacc (by omega) (by omega)), hadv, hFa⟩
        · have hg := H.out
          rw [goN_next (by omega) (by omega), show c.toNat - 128 = c.toNat % 128 by omega] at hg
          refine ⟨⟨k + 1, acc + c.toNat % 128 * 128 ^ k, r, by omega, acc_next hacc, by simp, by rw [or_shift c hacc (by omega)], hadv, hFa, hg⟩, ?_⟩
          simp [intOf]; omega
        · go_returns
          rw [H.out, goN_last (by omega) (by omega)]
          exact ⟨congrArg (fun x => Ending.returned (Value.int .u64 x)) (or_last c hacc (by omega) (by omega)), hadv, hFa⟩
        · have hg := H.out
          rw [goN_next (by omega) (by omega), show c.toNat - 128 = c.toNat % 128 by omega] at hg
          refine ⟨⟨k + 1, acc + c.toNat % 128 * 128 ^ k, r, by omega, acc_next hacc, by simp, by rw [or_shift c hacc (by omega)], hadv, hFa, hg⟩, ?_⟩
          simp [intOf]; omega
end Go.Proofs

/-! C2 -/
namespace Go.Proofs
open Go.RowKit Go.Wires
set_option maxHeartbeats 4000000
set_option maxRecDepth 100000
theorem radv2 {w : World} {P : Nat} {ao : Option Addr} {cap a : Nat} {B L : List UInt8} {T : TypeId} (hP : w.heap[P]? = some (.cells #[.slice ao B.length cap, .int .i64 (a : Nat), .int .i64 0] T (0, 0)))
    (hne : ∀ k, (Value.slice ao B.length cap).ownBlock = some k → k < P) (hsl : Sl w (.slice ao B.length cap) B) (hb : B.length ≤ 70368744177000) (hL : L = B.drop a) {n : Nat} {x : Int} (hx : x = ((a + n : Nat) : Int)) (hn : a + n ≤ B.length) :
    RinAt (w.setCell ⟨P, 1, none⟩ (.int .i64 x)) P (some (L.drop n)) := by
  subst hx
  refine ⟨ao, cap, B, a + n, 0, T, set3_1 hP, hne, hsl.fr (Fr.setAt _ _ _ _) (fun b hb h => by have := hne b hb; omega), hn, hb, rfl, ?_⟩
  rw [hL, List.drop_drop]
theorem sl_cut {w : World} {ao : Option Addr} {cap a n : Nat} {B : List UInt8} (hsl : Sl w (.slice ao B.length cap) B) (hs : a + n ≤ B.length) :
    Sl w (.slice (if cap = a then ao else Option.map (fun x => x.add a) ao) (a + n - a) (cap - a)) ((B.drop a).take n) := by
  have hlen : ((B.drop a).take n).length = a + n - a := by rw [List.length_take, List.length_drop]; omega
  rcases hsl with ⟨e, rfl⟩ | ⟨b, off, cp, e, hc, hcells⟩
  · cases e
    simp at hs
    obtain ⟨rfl, rfl⟩ := hs
    left; simp
  · cases e
    by_cases h : cap = a
    · rw [if_pos h]
      have hn : n = 0 := by omega
      subst hn
      refine .inr ⟨b, off, cap - a, by rw [hlen], by rw [hlen]; omega, ?_⟩
      intro j u hu
      simp [bvs] at hu
    · rw [if_neg h]
      refine .inr ⟨b, off + a, cap - a, by rw [hlen]; simp [Addr.add_lit], by rw [hlen]; omega, ?_⟩
      intro j u hu
      have hj : j < n := by have := (List.getElem?_eq_some_iff.1 hu).1; rw [bvs_length, hlen] at this; omega
      rw [Nat.add_assoc]
      refine hcells (a + j) u ?_
      rw [← hu]
      simp [bvs, hj]
section
variable (w : World) (P : Nat) (s : St) (h : RinAt w P s)
 include h
theorem rnum_x : Calls Tryz.prog 37 #[.pointer (some ⟨P, 0, none⟩)] w fun e w' => ∃ (x : Nat) (s' : St), rdS rNum 0 s = (x, s') ∧ x < 18446744073709551616 ∧ e = .returned (.int .u64 (x : Nat)) ∧ RinAt w' P s' ∧ Fr (· = P) w w' :=
  (rnum_spec w P s h).mono fun _ _ k => ⟨_, _, rfl, rNum_lt s, k⟩
theorem rint_x : Calls Tryz.prog 38 #[.pointer (some ⟨P, 0, none⟩)] w fun e w' => ∃ (x : Int) (s' : St), rdS rInt 0 s = (x, s') ∧ I64 x ∧ e = .returned (.int .i64 x) ∧ RinAt w' P s' ∧ Fr (· = P) w w' := by
  have hi := rInt_i64 s
  rw [rInt_num] at hi ⊢
  go_enter Tryz.func38, Tryz.ntmps38
  go_wp2_with (go_at_call 37; refine (rnum_x _ _ _ h).mono ?_; rintro e w2 ⟨n, s', hx, hn, rfl, hI, hF⟩)
  all_goals (go_returns; rw [hx] at hi ⊢; refine ⟨zag n, s', rfl, hi, ?_, hI, hF⟩; simp only [zag])
  · rw [if_pos (by simp_all; omega)]
    exact congrArg (fun x => Ending.returned (Value.int .i64 x)) (by omega)
  · rw [if_neg (by simp_all; omega)]
    exact congrArg (fun x => Ending.returned (Value.int .i64 x)) (by omega)
theorem rflag_x : Calls Tryz.prog 72 #[.pointer (some ⟨P, 0, none⟩)] w fun e w' => ∃ (x : Bool) (s' : St), rdS rFlag false s = (x, s') ∧ e = .returned (.bool x) ∧ RinAt w' P s' ∧ Fr (· = P) w w' := by
  have hI0 := h
  obtain ⟨ao, cap, B, a, e0, T, hP, hne, hsl, ha, hb, hs⟩ := h
  obtain ⟨c0, c1, c2⟩ := cells3 hP
  have hfz := frozen_obj hP
  rcases s with _ | L
  · obtain ⟨he, rfl⟩ := hs
    go_enter Tryz.func72, Tryz.ntmps72
    go_wp2_with fail
    go_returns
    exact ⟨false, none, rfl, rfl, hI0, Fr.refl _ _⟩
  obtain ⟨rfl, hL⟩ := hs
  rcases L with _ | ⟨c, r⟩
  · have hend : a = B.length := by have := congrArg List.length hL; simp at this; omega
    clear hL
    go_enter Tryz.func72, Tryz.ntmps72
    go_wp2_with (first | go_region | (go_at_call 71; refine (rbad_spec _ _ _ _ (by decide) (hI0.fr (Fr.drew none' _))).mono ?_; rintro e w2 ⟨rfl, hI2, hF2⟩))
    go_returns
    exact ⟨false, none, rfl, rfl, hI2, (Fr.drew _ _).trans hF2⟩
  · have halt : a < B.length := by have := congrArg List.length hL; rw [List.length_drop] at this; simp at this; omega
    obtain ⟨b, off, rfl, hcell⟩ := rcell hsl hL
    have hc8 := UInt8.toNat_lt c
    have hadv : RinAt (w.drew.drew.setCell ⟨P, 1, none⟩ (.int .i64 ((a : Int) + 1))) P (some r) := by
      have := radv (w := w.drew.drew) (n := 1) (x := (a : Int) + 1) hP hne (hsl.fr ((Fr.drew none' _).trans (Fr.drew none' _)) (fun _ _ h => h)) hb hL (by simp) (by simp)
      simpa using this
    have hFa : Fr (· = P) w (w.drew.drew.setCell ⟨P, 1, none⟩ (.int .i64 ((a : Int) + 1))) := ((Fr.drew _ _).trans (Fr.drew _ _)).trans (Fr.setAt _ _ _ _)
    clear hL hsl
    go_enter Tryz.func72, Tryz.ntmps72
    go_wp2_with (first | go_region | (go_at_call 71; refine (rbad_spec _ _ _ _ (by decide) hadv).mono ?_; rintro e w3 ⟨rfl, hI3, hF3⟩))
    · go_returns
      have : (rdS rFlag false (some (c :: r))) = (false, none) := by simp only [rdS, rFlag]; rw [if_neg (by omega)]
      exact ⟨false, none, this, rfl, hI3, hFa.trans hF3⟩
    · go_returns
      have : (rdS rFlag false (some (c :: r))) = (c.toNat == 1, some r) := by simp only [rdS, rFlag]; rw [if_pos (by omega)]
      refine ⟨c.toNat == 1, some r, this, ?_, hadv, hFa⟩
      exact congrArg (fun x => Ending.returned (Value.bool x)) (by rw [Bool.eq_iff_iff]; simp; omega)
theorem rtext_x (most : Nat) (hm : most < 2 ^ 62) : Calls Tryz.prog 41 #[.pointer (some ⟨P, 0, none⟩), .int .i64 (most : Nat)] w fun e w' => ∃ (x : List UInt8) (s' : St), rdS (rText most) [] s = (x, s') ∧ x.length ≤ most ∧ e = .returned (.string ⟨⟨x⟩⟩) ∧ RinAt w' P s' ∧ Fr (· = P) w w' := by
  have hle := rText_le most s
  have hn := rNum_lt s
  rcases hr : rdS rNum 0 s with ⟨n, s'⟩
  rw [hr] at hn
  simp only at hn
  rcases s' with _ | r
  · rw [rText_none hr]
    go_enter Tryz.func41, Tryz.ntmps41
    go_wp2_with (go_at_call 37; refine (rnum_spec _ _ _ h).mono ?_; rw [hr]; rintro e w2 ⟨rfl, hI2, hF2⟩; have hI3 := hI2; obtain ⟨ao, cap, B, a, e0, T, hP, hne, hsl, ha, hb, he, hs⟩ := hI2; obtain ⟨c0, c1, c2⟩ := cells3 hP)
    go_returns
    exact ⟨[], none, rfl, by simp, rfl, hI3, hF2⟩
  · rw [rText_some hr] at hle ⊢
    by_cases hmost : n ≤ most
    · rw [if_pos hmost] at hle ⊢
      go_enter Tryz.func41, Tryz.ntmps41
      go_wp2_with (first
        | (go_at_call 37; refine (rnum_spec _ _ _ h).mono ?_; rw [hr]; rintro e w2 ⟨rfl, hI2, hF2⟩; have hI3 := hI2; obtain ⟨ao, cap, B, a, e0, T, hP, hne, hsl, ha, hb, rfl, hs⟩ := hI2; obtain ⟨c0, c1, c2⟩ := cells3 hP; have hfz := frozen_obj hP)
        | (go_at_call 43; refine (left_spec _ _ _ hI3).mono ?_; rintro e w3 ⟨rfl, rfl⟩; simp only [Option.getD_some])
        | (go_at_call 71; refine (rbad_spec _ _ _ _ (by decide) (hI3.fr (Fr.drew none' _))).mono ?_; rintro e w3 ⟨rfl, hI4, hF4⟩))
      · have hrl : r.length = B.length - a := by rw [hs, List.length_drop]
        go_returns
        have : rdS (rTake n) [] (some r) = ([], none) := by simp only [rdS, rTake]; rw [if_neg (by omega)]
        rw [this] at hle ⊢
        exact ⟨[], none, rfl, by simp, rfl, hI4, (hF2.trans (Fr.drew _ _)).trans hF4⟩
      · have hrl : r.length = B.length - a := by rw [hs, List.length_drop]
        have hle2 : n ≤ r.length := by omega
        have hsum : a + n ≤ B.length := by omega
        have hBc : B.length ≤ cap := by
          rcases hsl with ⟨e, rfl⟩ | ⟨b', off', cp', e, hc, _⟩
          · simp
          · cases e; exact hc
        have hi1 : (a : Int) + (n : Int) ≤ (cap : Int) := by omega
        have hi2 : (0 : Int) ≤ (a : Int) + (n : Int) := by omega
        have hi3 : (a : Int) ≤ (a : Int) + (n : Int) := by omega
        have hi4 : (a : Int) + (n : Int) < 9223372036854775808 := by omega
        have hconv := conv9 (w := w2.drew.drew) (sl_cut (n := n) (hsl.fr ((Fr.drew none' _).trans (Fr.drew none' _)) (fun _ _ h => h)) hsum)
        have hadv : RinAt (w2.drew.drew.setCell ⟨P, 1, none⟩ (.int .i64 ((a : Int) + (n : Int)))) P (some (r.drop n)) := by
          exact radv2 (w := w2.drew.drew) (n := n) (x := (a : Int) + (n : Int)) hP hne (hsl.fr ((Fr.drew none' _).trans (Fr.drew none' _)) (fun _ _ h => h)) hb hs (by simp) hsum
        have hFa : Fr (· = P) w (w2.drew.drew.setCell ⟨P, 1, none⟩ (.int .i64 ((a : Int) + (n : Int)))) := ((hF2.trans (Fr.drew _ _)).trans (Fr.drew _ _)).trans (Fr.setAt _ _ _ _)
        rw [Nat.add_sub_cancel_left, ← hs] at hconv
        have htk : rdS (rTake n) [] (some r) = (r.take n, some (r.drop n)) := by simp only [rdS, rTake]; rw [if_pos (by omega)]
        rw [htk] at hle
        have HT : Hid (rdS (rTake n) [] (some r) = (r.take n, some (r.drop n))) := htk
        have HS : Hid (r = B.drop a) := hs
        clear hs hrl htk
        by_cases hca : cap = a
        · rw [if_pos hca] at hconv
          subst hca
          have hn0 : n = 0 := by omega
          subst hn0
          rw [Nat.sub_self] at hconv
          go_region
          go_wp2
          go_returns
          exact ⟨_, _, HT.out, hle, rfl, hadv, hFa⟩
        · rw [if_neg hca] at hconv
          rcases hsl with ⟨e, e2⟩ | ⟨b', off', cp', e, hc, _⟩
          · exfalso
            simp only [Value.slice.injEq] at e
            obtain ⟨_, e3, e4⟩ := e
            omega
          · cases e
            simp only [Option.map_some, Addr.add_lit] at hconv
            go_region
            go_wp2
            go_returns
            exact ⟨_, _, HT.out, hle, rfl, hadv, hFa⟩
    · rw [if_neg hmost] at hle ⊢
      go_enter Tryz.func41, Tryz.ntmps41
      go_wp2_with (first
        | (go_at_call 37; refine (rnum_spec _ _ _ h).mono ?_; rw [hr]; rintro e w2 ⟨rfl, hI2, hF2⟩; have hI3 := hI2; obtain ⟨ao, cap, B, a, e0, T, hP, hne, hsl, ha, hb, rfl, hs⟩ := hI2; obtain ⟨c0, c1, c2⟩ := cells3 hP; have hfz := frozen_obj hP)
        | (go_at_call 71; refine (rbad_spec _ _ _ _ (by decide) hI3).mono ?_; rintro e w3 ⟨rfl, hI4, hF4⟩))
      go_returns
      exact ⟨[], none, rfl, by simp, rfl, hI4, hF2.trans hF4⟩
end
end Go.Proofs

/-! C3 -/
namespace Go.Proofs
open Go.RowKit Go.Wires
set_option maxHeartbeats 4000000
set_option maxRecDepth 100000
def dgX (L : List UInt8) (k : Nat) : List UInt8 := (List.range 32).map fun i => if i < k then L.getD i 0 else 0
theorem dgX_len (L : List UInt8) (k : Nat) : (dgX L k).length = 32 := by simp [dgX]
theorem dgX_zero (L : List UInt8) : dgX L 0 = List.replicate 32 0 := by simp [dgX]; rfl
theorem dgX_get (L : List UInt8) (k i : Nat) (h : i < 32) : (dgX L k)[i]? = some (if i < k then L.getD i 0 else 0) := by simp [dgX, h]
theorem dgX_set (L : List UInt8) (k : Nat) (h : k < 32) : (dgX L k).set k (L.getD k 0) = dgX L (k + 1) := by
  apply List.ext_getElem?
  intro i
  rw [List.getElem?_set]
  by_cases hi : i < 32
  · rw [dgX_get _ _ _ hi, dgX_get _ _ _ hi, dgX_len]
    by_cases e : k = i
    · subst e; simp [h]
    · simp only [e, if_false, Option.some.injEq]
      by_cases h1 : i < k
      · rw [if_pos h1, if_pos (by omega)]
      · rw [if_neg h1, if_neg (by omega)]
  · have h1 : k ≠ i := by omega
    simp only [h1, if_false]
    rw [List.getElem?_eq_none (by rw [dgX_len]; omega), List.getElem?_eq_none (by rw [dgX_len]; omega)]
theorem dgX_all (L : List UInt8) (h : 32 ≤ L.length) : dgX L 32 = L.take 32 := by
  apply List.ext_getElem?
  intro i
  by_cases hi : i < 32
  · rw [dgX_get _ _ _ hi, if_pos hi, List.getElem?_take, if_pos hi, List.getD_eq_getElem?_getD, List.getElem?_eq_getElem (by omega)]
    rfl
  · rw [List.getElem?_eq_none (by rw [dgX_len]; omega), List.getElem?_eq_none (by simp; omega)]
theorem drew_heap {w : World} {k : Nat} {o : Obj} (h : w.heap[k]? = some o) : w.drew.heap[k]? = some o := h
def Z32 : List UInt8 := List.replicate 32 0
theorem z32 : (bvs Z32).length = 32 := by rw [bvs_length]; rfl
theorem z32s : (bvs Z32).toArray.size = 32 := by simp [bvs, Z32]
theorem rdigest_x (w : World) (P : Nat) (s : St) (h : RinAt w P s) : Calls Tryz.prog 39 #[.pointer (some ⟨P, 0, none⟩)] w fun e w' => ∃ (x : List UInt8) (s' : St), rdS (rTake 32) Z32 s = (x, s') ∧ x.length = 32 ∧ e = .returned (.agg (bvs x).toArray) ∧ RinAt w' P s' ∧ Fr (· = P) w w' := by
  have hF0 : Fr none' w ((w.alloc (.cells (bvs Z32).toArray 23)).alloc (.cells (bvs Z32).toArray 23)) := (Fr.alloc none' _ _).trans (Fr.alloc none' _ _)
  have hI0 := h.fr hF0
  have hlt := h.lt
  have hD0 : ((w.alloc (.cells (bvs Z32).toArray 23)).alloc (.cells (bvs Z32).toArray 23)).heap[w.heap.size + 1]? = some (.cells (bvs Z32).toArray 23 (0, 0)) := two_new w _ _
  have hR0 : ((w.alloc (.cells (bvs Z32).toArray 23)).alloc (.cells (bvs Z32).toArray 23)).heap[w.heap.size]? = some (.cells (bvs Z32).toArray 23 (0, 0)) := two_old w _ _
  rcases s with _ | L
  · obtain ⟨ao, cap, B, a, e0, T, hP, hne, hsl, ha, hb, he, hat⟩ := h
    obtain ⟨c0, c1, c2⟩ := cells3 hP
    go_enter Tryz.func39, Tryz.ntmps39
    go_wp2_with (first
      | (refine load23 rfl (.tmp 3) rfl (w.heap.size + 1) 0 rfl (bvs Z32) z32 (cells_of hD0) ?_)
      | (refine store23 rfl (.tmp 2) (.tmp 10) rfl w.heap.size rfl (bvs Z32) rfl z32 (bvs_oneCell _) _ 23 hR0 z32s ?_; intro w7 h7 hF7))
    refine bodyPost_ret (res_cell1 rfl (agg23 _) (size23 _) w.heap.size rfl _ z32 23 h7) rfl ?_
    exact ⟨_, none, rfl, rfl, rfl, hI0.keep hF7 (fun k _ e => by rw [e]; omega), (hF0.mono fun _ _ h => h.elim).trans' hF7 fun x hx e => by omega⟩
  · obtain ⟨ao, cap, B, a, e0, T, hP, hne, hsl, ha, hb, rfl, hL⟩ := h
    obtain ⟨c0, c1, c2⟩ := cells3 hP
    have hll : L.length = B.length - a := by rw [hL, List.length_drop]
    by_cases h32 : 32 ≤ L.length
    rotate_left
    · have hbad : rdS (rTake 32) Z32 (some L) = (Z32, none) := by simp only [rdS, rTake]; rw [if_neg h32]
      have hBAD : Hid (rdS (rTake 32) Z32 (some L) = (Z32, none)) := hbad
      have HL : Hid (L = B.drop a) := hL
      clear hbad hL
      go_enter Tryz.func39, Tryz.ntmps39
      go_wp2_with (first
        | (go_at_call 43; refine (left_spec _ _ _ hI0).mono ?_; rintro e w3 ⟨rfl, rfl⟩; simp only [Option.getD_some])
        | (go_at_call 71; refine (rbad_spec _ _ _ _ (by decide) (hI0.fr (Fr.drew none' _))).mono ?_; rintro e w3 ⟨rfl, hI4, hF4⟩; have hD3 := hF4.heap (drew_heap hD0) (by omega); have hR3 := hF4.heap (drew_heap hR0) (by omega))
        | (refine load23 rfl (.tmp 3) rfl (w.heap.size + 1) 0 rfl (bvs Z32) z32 (cells_of hD3) ?_)
        | (refine store23 rfl (.tmp 2) (.tmp 16) rfl w.heap.size rfl (bvs Z32) rfl z32 (bvs_oneCell _) _ 23 hR3 z32s ?_; intro w7 h7 hF7))
      refine bodyPost_ret (res_cell1 rfl (agg23 _) (size23 _) w.heap.size rfl _ z32 23 h7) rfl ?_
      exact ⟨_, none, hBAD.out, rfl, rfl, hI4.keep hF7 (fun k _ e => by rw [e]; omega), (((hF0.mono fun _ _ h => h.elim).trans (Fr.drew _ _)).trans hF4).trans' hF7 fun x hx e => by omega⟩
    · have hgood : rdS (rTake 32) Z32 (some L) = (L.take 32, some (L.drop 32)) := by simp only [rdS, rTake]; rw [if_pos h32]
      have HG : Hid (rdS (rTake 32) Z32 (some L) = (L.take 32, some (L.drop 32))) := hgood
      have HL : Hid (L = B.drop a) := hL
      clear hgood hL
      have hsum : a + 32 ≤ B.length := by omega
      have hBs : ∃ b off, ao = some ⟨b, off, none⟩ ∧ ∀ j u, (bvs B)[j]? = some u → w.cell? ⟨b, off + j, none⟩ = some u := by
        rcases hsl with ⟨e, rfl⟩ | ⟨b, off, cp, e, hc, hcells⟩
        · simp at hsum
        · cases e; exact ⟨b, off, rfl, hcells⟩
      obtain ⟨b, off, rfl, hcells⟩ := hBs
      have hbP : b < P := hne b rfl
      go_enter Tryz.func39, Tryz.ntmps39
      go_wp2_with (first
        | (go_at_call 43; refine (left_spec _ _ _ hI0).mono ?_; rintro e w3 ⟨rfl, rfl⟩; simp only [Option.getD_some]))
      have hP1 : ((w.alloc (.cells (bvs Z32).toArray 23)).alloc (.cells (bvs Z32).toArray 23)).drew.heap[P]? = some (.cells #[.slice (some ⟨b, off, none⟩) B.length cap, .int .i64 (a : Nat), .int .i64 0] T (0, 0)) := drew_heap (new_other (new_other hP))
      have hFW : Fr none' w ((w.alloc (.cells (bvs Z32).toArray 23)).alloc (.cells (bvs Z32).toArray 23)).drew := hF0.trans (Fr.drew _ _)
      go_loopw [4] (fun u4 w3 => ∃ (k : Nat), k ≤ 32 ∧ u4 = .int .i64 (k : Nat) ∧ w3.heap[w.heap.size + 1]? = some (.cells (bvs (dgX L k)).toArray 23 (0, 0)) ∧ Fr (· = w.heap.size + 1) ((w.alloc (.cells (bvs Z32).toArray 23)).alloc (.cells (bvs Z32).toArray 23)).drew w3) (fun k _ => 32 - (intOf k).toNat)
      case atStart => exact ⟨0, by omega, rfl, by rw [dgX_zero]; exact hD0, Fr.refl _ _⟩
      case round =>
        clear c0 c1 c2
        obtain ⟨k, hk, rfl, hD, hF⟩ := hrel
        have hPr := hF.heap hP1 (by omega)
        obtain ⟨c0, c1, c2⟩ := cells3 hPr
        have hfzP := frozen_obj hPr
        have hfzD := frozen_obj hD
        by_cases hk32 : k < 32
        · have hbk : B[a + k]? = some (L.getD k 0) := by
            rw [HL.out, List.getD_eq_getElem?_getD, List.getElem?_drop, List.getElem?_eq_getElem (by omega)]; rfl
          have hcB : wr.cell? ⟨b, off + (a + k), none⟩ = some (.int .u8 (((L.getD k 0).toNat : Nat) : Int)) := by
            have h1 := hcells (a + k) _ (bvs_get hbk)
            have hblt : b < w.heap.size := World.block_lt_of_cell? w _ h1
            rw [World.cell?_of_block ((hF.block b (by have := hFW.size; omega) (by omega)).trans (hFW.block b hblt (fun h => h)))]
            exact h1
          obtain ⟨z, hcD⟩ : ∃ z, wr.cell? ⟨w.heap.size + 1, k, none⟩ = some (.int .u8 z) := ⟨_, by
            rw [cell_obj hD k]
            have := bvs_get (dgX_get L k k hk32)
            simpa [bv] using this⟩
          have hi1 : (a : Int) + (k : Int) < (B.length : Int) := by omega
          have hi2 : (0 : Int) ≤ (a : Int) + (k : Int) := by omega
          have hi3 : (a : Int) + (k : Int) < 9223372036854775808 := by omega
          have hnew : (wr.drew.setCell ⟨w.heap.size + 1, k, none⟩ (.int .u8 (((L.getD k 0).toNat : Nat) : Int))).heap[w.heap.size + 1]? = some (.cells (bvs (dgX L (k + 1))).toArray 23 (0, 0)) := by
            rw [heap_setCell_same wr.drew _ k _ 23 _ (drew_heap hD), ← dgX_set L k hk32]
            congr 2
            simp [bvs, bv, List.map_set]
          have hFn : Fr (· = w.heap.size + 1) ((w.alloc (.cells (bvs Z32).toArray 23)).alloc (.cells (bvs Z32).toArray 23)).drew (wr.drew.setCell ⟨w.heap.size + 1, k, none⟩ (.int .u8 (((L.getD k 0).toNat : Nat) : Int))) := (hF.trans (Fr.drew _ _)).trans (Fr.setAt _ _ _ _)
          clear hcells hbk
          clear hll h32 hi3 hi2
          go_wp2_with (first | go_region)
          refine ⟨⟨k + 1, by omega, by simp, hnew, hFn⟩, ?_⟩
          simp [intOf]; omega
        · obtain rfl : k = 32 := by omega
          rw [dgX_all L h32] at hD
          have hBr : Sl wr (.slice (some ⟨b, off, none⟩) B.length cap) B := (hsl.fr hFW (fun _ _ h => h)).fr hF (fun k hk e => by { have := hne k hk; omega })
          have hadv : RinAt (wr.setCell ⟨P, 1, none⟩ (.int .i64 ((a : Int) + 32))) P (some (L.drop 32)) := radv2 (n := 32) (x := (a : Int) + 32) hPr hne hBr hb HL.out (by omega) hsum
          have hDn : (wr.setCell ⟨P, 1, none⟩ (.int .i64 ((a : Int) + 32))).heap[w.heap.size + 1]? = some (.cells (bvs (L.take 32)).toArray 23 (0, 0)) := set_other hD (by omega)
          have hRn : (wr.setCell ⟨P, 1, none⟩ (.int .i64 ((a : Int) + 32))).heap[w.heap.size]? = some (.cells (bvs Z32).toArray 23 (0, 0)) := set_other (hF.heap (drew_heap hR0) (by omega)) (by omega)
          have hFn : Fr (· = P) w (wr.setCell ⟨P, 1, none⟩ (.int .i64 ((a : Int) + 32))) := ((hFW.mono fun _ _ h => h.elim).trans' hF (fun x hx e => by omega)).trans (Fr.setAt _ _ _ _)
          have hl32 : (bvs (L.take 32)).length = 32 := by rw [bvs_length, List.length_take]; omega
          have hi1 : (a : Int) + 32 < 9223372036854775808 := by omega
          have HLL : Hid (L.length = B.length - a) := hll
          have H32 : Hid (32 ≤ L.length) := h32
          clear hll h32
          go_wp2_with (first
            | (refine load23 rfl (.tmp 3) rfl (w.heap.size + 1) 0 rfl (bvs (L.take 32)) hl32 (cells_of hDn) ?_)
            | (refine store23 rfl (.tmp 2) (.tmp 42) rfl w.heap.size rfl (bvs (L.take 32)) rfl hl32 (bvs_oneCell _) _ 23 hRn z32s ?_; intro w7 h7 hF7))
          refine bodyPost_ret (res_cell1 rfl (agg23 _) (size23 _) w.heap.size rfl _ hl32 23 h7) rfl ?_
          exact ⟨_, _, HG.out, by have := hl32; rwa [bvs_length] at this, rfl, hadv.keep hF7 (fun k _ e => by rw [e]; omega), hFn.trans' hF7 fun x hx e => by omega⟩
end Go.Proofs

/-! C4 -/
namespace Go.Proofs
open Go.RowKit Go.Wires
set_option maxHeartbeats 4000000
set_option maxRecDepth 100000
theorem RinAt.err {w : World} {P : Nat} {s : St} (h : RinAt w P s) : ∃ e, w.cell? ⟨P, 2, none⟩ = some (.int .i64 e) ∧ (e = 0 ↔ s.isSome = true) := by
  obtain ⟨ao, cap, B, a, e, T, hP, hne, hsl, ha, hb, hs⟩ := h
  refine ⟨e, (cells3 hP).2.2, ?_⟩
  cases s with
  | none => simp [hs.1]
  | some L => simp [hs.1]
theorem rin_new {w w' : World} {ao : Option Addr} {cap P : Nat} {L : List UInt8} (hP : w'.heap[P]? = some (.cells #[.slice ao L.length cap, .int .i64 0, .int .i64 0] 100 (0, 0))) (hsl : Sl w (.slice ao L.length cap) L) (hF : Fr none' w w') (hlt : ∀ k, (Value.slice ao L.length cap).ownBlock = some k → k < P) (hlen : L.length ≤ 70368744177000) : RinAt w' P (some L) :=
  ⟨ao, cap, L, 0, 0, 100, hP, hlt, hsl.fr hF (fun _ _ h => h), Nat.zero_le _, hlen, rfl, rfl⟩
theorem Sl.shape {w : World} {v : Value} {L : List UInt8} (h : Sl w v L) : ∃ ao cap, v = .slice ao L.length cap := by
  rcases h with ⟨rfl, rfl⟩ | ⟨b, off, cap, rfl, _⟩
  · exact ⟨none, 0, rfl⟩
  · exact ⟨_, cap, rfl⟩
theorem rfDecode_spec (w : World) (v : Value) (L : List UInt8) (hv : Sl w v L) (hb : ∀ k, v.ownBlock = some k → k < w.heap.size) (hlen : L.length ≤ 70368744177000) : Calls Tryz.prog 40 #[v] w fun e w' =>
    e = .returned (.tuple #[((opOf L).getD zeroOp).val, .bool (opOf L).isSome]) ∧ Fr none' w w' := by
  obtain ⟨ao, cap, rfl⟩ := Sl.shape hv
  have hR0 : (((w.alloc (.cells #[.int .i64 0, .string ⟨⟨[]⟩⟩, .string ⟨⟨[]⟩⟩, .string ⟨⟨[]⟩⟩, .int .i64 0, .int .i64 0] 49)).alloc (.cells #[.slice ao L.length cap, .int .i64 0, .int .i64 0] 100)).alloc (.cells #[.int .i64 0, .string ⟨⟨[]⟩⟩, .string ⟨⟨[]⟩⟩, .string ⟨⟨[]⟩⟩, .int .i64 0, .int .i64 0] 49)).heap[w.heap.size]? = some (.cells #[.int .i64 0, .string ⟨⟨[]⟩⟩, .string ⟨⟨[]⟩⟩, .string ⟨⟨[]⟩⟩, .int .i64 0, .int .i64 0] 49 (0, 0)) := new_other (two_old w _ _)
  have hP0 : (((w.alloc (.cells #[.int .i64 0, .string ⟨⟨[]⟩⟩, .string ⟨⟨[]⟩⟩, .string ⟨⟨[]⟩⟩, .int .i64 0, .int .i64 0] 49)).alloc (.cells #[.slice ao L.length cap, .int .i64 0, .int .i64 0] 100)).alloc (.cells #[.int .i64 0, .string ⟨⟨[]⟩⟩, .string ⟨⟨[]⟩⟩, .string ⟨⟨[]⟩⟩, .int .i64 0, .int .i64 0] 49)).heap[w.heap.size + 1]? = some (.cells #[.slice ao L.length cap, .int .i64 0, .int .i64 0] 100 (0, 0)) := new_other (two_new w _ _)
  have hB0 : (((w.alloc (.cells #[.int .i64 0, .string ⟨⟨[]⟩⟩, .string ⟨⟨[]⟩⟩, .string ⟨⟨[]⟩⟩, .int .i64 0, .int .i64 0] 49)).alloc (.cells #[.slice ao L.length cap, .int .i64 0, .int .i64 0] 100)).alloc (.cells #[.int .i64 0, .string ⟨⟨[]⟩⟩, .string ⟨⟨[]⟩⟩, .string ⟨⟨[]⟩⟩, .int .i64 0, .int .i64 0] 49)).heap[w.heap.size + 2]? = some (.cells #[.int .i64 0, .string ⟨⟨[]⟩⟩, .string ⟨⟨[]⟩⟩, .string ⟨⟨[]⟩⟩, .int .i64 0, .int .i64 0] 49 (0, 0)) := by
    have := heap_alloc_new ((w.alloc (.cells #[.int .i64 0, .string ⟨⟨[]⟩⟩, .string ⟨⟨[]⟩⟩, .string ⟨⟨[]⟩⟩, .int .i64 0, .int .i64 0] 49)).alloc (.cells #[.slice ao L.length cap, .int .i64 0, .int .i64 0] 100)) (.cells #[.int .i64 0, .string ⟨⟨[]⟩⟩, .string ⟨⟨[]⟩⟩, .string ⟨⟨[]⟩⟩, .int .i64 0, .int .i64 0] 49)
    rwa [World.size_alloc, World.size_alloc] at this
  have hT0 : Fr none' w (((w.alloc (.cells #[.int .i64 0, .string ⟨⟨[]⟩⟩, .string ⟨⟨[]⟩⟩, .string ⟨⟨[]⟩⟩, .int .i64 0, .int .i64 0] 49)).alloc (.cells #[.slice ao L.length cap, .int .i64 0, .int .i64 0] 100)).alloc (.cells #[.int .i64 0, .string ⟨⟨[]⟩⟩, .string ⟨⟨[]⟩⟩, .string ⟨⟨[]⟩⟩, .int .i64 0, .int .i64 0] 49)) := ((Fr.alloc none' _ _).trans (Fr.alloc none' _ _)).trans (Fr.alloc none' _ _)
  have hI0 := rin_new hP0 hv hT0 (fun k hk => by have := hb k hk; omega) hlen
  go_enter Tryz.func40, Tryz.ntmps40
  go_wp2_with (first
    | (go_at_call 38; have hii := hI; clear hii; refine (rint_x _ (w.heap.size + 1) _ (hI.set (by omega))).mono ?_; rintro e w3 ⟨x, s', hx, hk, rfl, hI', hF⟩
       have hB := hF.heap (by first | exact set6_3 hB | exact set6_4 hB) (by omega); have hR := hF.heap (set_other hR (by omega)) (by omega); have hT := Fr.step (Fr.set hT (by omega)) hF (by omega); have hI := hI'; obtain ⟨c0, c1, c2, c3, c4, c5⟩ := cells6 hB; have hfz := frozen_obj hB; obtain ⟨ec, hec, heq⟩ := hI.err)
    | (go_at_call 38; refine (rint_x _ (w.heap.size + 1) _ hI0).mono ?_; rintro e w3 ⟨x, s', hx, hk, rfl, hI, hF⟩
       have hB := hF.heap hB0 (by omega); have hR := hF.heap hR0 (by omega); have hT := Fr.step hT0 hF (by omega); obtain ⟨c0, c1, c2, c3, c4, c5⟩ := cells6 hB; have hfz := frozen_obj hB)
    | (go_at_call 41; refine (rtext_x _ (w.heap.size + 1) _ (hI.set (by omega)) 1100 (by omega)).mono ?_; rintro e w3 ⟨x, s', hx, hk, rfl, hI', hF⟩
       have hB := hF.heap (by first | exact set6_0 hB | exact set6_1 hB | exact set6_2 hB) (by omega); have hR := hF.heap (set_other hR (by omega)) (by omega); have hT := Fr.step (Fr.set hT (by omega)) hF (by omega); have hI := hI'; obtain ⟨c0, c1, c2, c3, c4, c5⟩ := cells6 hB; have hfz := frozen_obj hB)
    | (go_at_call 43; refine (left_spec _ (w.heap.size + 1) _ (hI.set (by omega))).mono ?_; rintro e w8 ⟨rfl, rfl⟩)
    | (refine store49 rfl (.tmp 2) (.tmp 37) rfl w.heap.size rfl [.int .i64 0, .string ⟨⟨[]⟩⟩, .string ⟨⟨[]⟩⟩, .string ⟨⟨[]⟩⟩, .int .i64 0, .int .i64 0] rfl rfl (by simp [Value.oneCell']) _ 49 (by first | exact drew_heap (set_other hR (by omega)) | exact set_other hR (by omega)) rfl ?_; intro w9 h9 hF9)
    | (refine load49 rfl (.tmp 5) rfl (w.heap.size + 2) 0 rfl _ rfl (cells_of (drew_heap (set6_5 hB))) ?_)
    | (refine store49 rfl (.tmp 2) (.tmp 38) rfl w.heap.size rfl _ rfl rfl (by simp [Value.oneCell']) _ 49 (drew_heap (set_other hR (by omega))) rfl ?_; intro w9 h9 hF9))
  · refine bodyPost_ret (res_cell_tmp rfl (agg49 _) (size49 _) w.heap.size rfl _ rfl 49 h9) rfl ?_
    have hs1 := ‹Option.isSome s' = true›
    have hs2 := ‹(ec != 0) = true ∨ _›
    have hne : s' ≠ some [] := by
      rintro rfl
      have := heq.2 rfl
      simp [this] at hs2
    have e1 : opOf L = none := by simp only [opOf, decOp, *]; simp
    rw [e1]
    exact ⟨rfl, Fr.step ((Fr.set hT (by omega)).trans (Fr.drew _ _)) hF9 (Nat.le_refl _)⟩
  · refine bodyPost_ret (res_cell_tmp rfl (agg49 _) (size49 _) w.heap.size rfl _ rfl 49 h9) rfl ?_
    have hs1 := ‹Option.isSome s' = true›
    have hs2 := ‹(ec != 0) = false ∧ _›
    have hs : s' = some [] := by
      cases s' with
      | none => simp at hs1
      | some l => have := hs2.2; simp at this; rw [this]
    subst hs
    have e1 : opOf L = some (decOp (some L)).1 := by simp only [opOf, decOp, *]; simp
    rw [e1]
    refine ⟨?_, Fr.step ((Fr.set hT (by omega)).trans (Fr.drew _ _)) hF9 (Nat.le_refl _)⟩
    simp only [decOp, *]
    rfl
  · refine bodyPost_ret (res_cell_tmp rfl (agg49 _) (size49 _) w.heap.size rfl _ rfl 49 h9) rfl ?_
    have hs1 := ‹¬Option.isSome s' = true›
    have hne : s' ≠ some [] := by rintro rfl; simp at hs1
    have e1 : opOf L = none := by simp only [opOf, decOp, *]; simp
    rw [e1]
    exact ⟨rfl, Fr.step (Fr.set hT (by omega)) hF9 (Nat.le_refl _)⟩
end Go.Proofs
