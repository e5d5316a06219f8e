/-
  The plain law: what is written is read as it was, what is read is written so. Condition: the message is well formed.
-/
import Derived.Test.YtkngpdmnpgoomaaGreatDoorCodH
import Derived.Test.YtkngpdmnpgoomaaGreatDoorCodB
/-! H1 -/
/-! The plain law: what is written is read as it was, what is read is written so. -/
namespace Go.Proofs
open Go.RowKit Go.Wires
set_option maxHeartbeats 1000000
theorem rdS_of {α : Type} {rd : Rd α} {d x : α} {L r : List UInt8} (h : rd L = some (x, r)) : rdS rd d (some L) = (x, some r) := by simp [rdS, h]
theorem rdS_inv {α : Type} {rd : Rd α} {d x : α} {s : St} {r : List UInt8} (h : rdS rd d s = (x, some r)) : ∃ L, s = some L ∧ rd L = some (x, r) := by
  cases s with
  | none => simp [rdS] at h
  | some L =>
    refine ⟨L, rfl, ?_⟩
    simp only [rdS] at h
    cases hr : rd L with
    | none => rw [hr] at h; simp at h
    | some p => rw [hr] at h; simp at h; obtain ⟨h1, h2⟩ := h; rw [← h1, ← h2]
theorem rdS_inv2 {α : Type} {rd : Rd α} {d : α} {s : St} {r : List UInt8} (h : (rdS rd d s).2 = some r) : ∃ L, s = some L ∧ rd L = some ((rdS rd d s).1, r) := rdS_inv (x := (rdS rd d s).1) (by rw [← h])
theorem int_w {x d : Int} (h : I64 x) (r : List UInt8) : rdS rInt d (some (wInt x ++ r)) = (x, some r) := rdS_of (rInt_w (by omega) (by omega) r)
theorem num_w {n d : Nat} (h : n < 2 ^ 64) (r : List UInt8) : rdS rNum d (some (numW n ++ r)) = (n, some r) := rdS_of (rNum_w h r)
theorem text_w {t d : List UInt8} {most : Nat} (h : t.length ≤ most) (hm : most < 2 ^ 64) (r : List UInt8) : rdS (rText most) d (some (wText t ++ r)) = (t, some r) := rdS_of (rText_w h hm r)
theorem flag_w {b d : Bool} (r : List UInt8) : rdS rFlag d (some (wFlag b ++ r)) = (b, some r) := rdS_of (rFlag_w b r)
theorem take_w {t d : List UInt8} {n : Nat} (h : t.length = n) (r : List UInt8) : rdS (rTake n) d (some (t ++ r)) = (t, some r) := by
  refine rdS_of ?_
  simp [rTake, ← h]
theorem take_r {L r t : List UInt8} {n : Nat} (h : rTake n L = some (t, r)) : L = t ++ r ∧ t.length = n := by
  simp only [rTake] at h
  split at h
  · simp only [Option.some.injEq, Prod.mk.injEq] at h
    obtain ⟨rfl, rfl⟩ := h
    exact ⟨(List.take_append_drop n L).symm, by simp; omega⟩
  · cases h
theorem int_i {x d : Int} {s : St} {r : List UInt8} (h : rdS rInt d s = (x, some r)) : s = some (wInt x ++ r) ∧ I64 x := by
  obtain ⟨L, rfl, hr⟩ := rdS_inv h
  obtain ⟨h1, h2, h3⟩ := rInt_r hr
  exact ⟨by rw [← h1], by omega⟩
theorem num_i {n d : Nat} {s : St} {r : List UInt8} (h : rdS rNum d s = (n, some r)) : s = some (numW n ++ r) ∧ n < 2 ^ 64 := by
  obtain ⟨L, rfl, hr⟩ := rdS_inv h
  obtain ⟨h1, h2⟩ := rNum_r hr
  exact ⟨by rw [← h1], h2⟩
theorem text_i {t d : List UInt8} {most : Nat} {s : St} {r : List UInt8} (h : rdS (rText most) d s = (t, some r)) : s = some (wText t ++ r) ∧ t.length ≤ most := by
  obtain ⟨L, rfl, hr⟩ := rdS_inv h
  obtain ⟨h1, h2⟩ := rText_r hr
  exact ⟨by rw [← h1], h2⟩
theorem flag_i {b d : Bool} {s : St} {r : List UInt8} (h : rdS rFlag d s = (b, some r)) : s = some (wFlag b ++ r) := by
  obtain ⟨L, rfl, hr⟩ := rdS_inv h
  rw [← rFlag_r hr]
theorem take_i {t d : List UInt8} {n : Nat} {s : St} {r : List UInt8} (h : rdS (rTake n) d s = (t, some r)) : s = some (t ++ r) ∧ t.length = n := by
  obtain ⟨L, rfl, hr⟩ := rdS_inv h
  obtain ⟨h1, h2⟩ := take_r hr
  exact ⟨by rw [← h1], h2⟩
/-! Operations. -/
theorem opok {o : Opx} (h : o.ok = true) : o.path.length ≤ 1100 ∧ o.to.length ≤ 1100 ∧ o.data.length ≤ 1100 := by simpa [Opx.ok] using h
theorem opOf_bytes {o : Opx} (hw : o.wf) (hok : o.ok = true) : opOf o.bytes = some o := by
  obtain ⟨h1, h2, h3⟩ := opok hok
  have hd : decOp (some o.bytes) = (o, some []) := by
    have e : o.bytes = wInt o.kind ++ (wText o.path ++ (wText o.to ++ (wText o.data ++ (wInt o.at_ ++ (wInt o.size ++ []))))) := by simp [Opx.bytes, List.append_assoc]
    rw [e]
    simp only [decOp, int_w hw.kind, text_w h1 (by omega), text_w h2 (by omega), text_w h3 (by omega), int_w hw.at_, int_w hw.size]
  simp [opOf, hd]
theorem opOf_inv {L : List UInt8} {o : Opx} (h : opOf L = some o) : o.bytes = L ∧ o.wf ∧ o.ok = true := by
  simp only [opOf, decOp] at h
  rcases h1 : rdS rInt 0 (some L) with ⟨x1, s1⟩; simp only [h1] at h
  rcases h2 : rdS (rText 1100) [] s1 with ⟨x2, s2⟩; simp only [h2] at h
  rcases h3 : rdS (rText 1100) [] s2 with ⟨x3, s3⟩; simp only [h3] at h
  rcases h4 : rdS (rText 1100) [] s3 with ⟨x4, s4⟩; simp only [h4] at h
  rcases h5 : rdS rInt 0 s4 with ⟨x5, s5⟩; simp only [h5] at h
  rcases h6 : rdS rInt 0 s5 with ⟨x6, s6⟩; simp only [h6] at h
  split at h
  · rename_i hs
    subst hs
    simp only [Option.some.injEq] at h
    subst h
    obtain ⟨rfl, i6⟩ := int_i h6
    obtain ⟨rfl, i5⟩ := int_i h5
    obtain ⟨rfl, i4⟩ := text_i h4
    obtain ⟨rfl, i3⟩ := text_i h3
    obtain ⟨rfl, i2⟩ := text_i h2
    obtain ⟨e, i1⟩ := int_i h1
    cases e
    refine ⟨by simp only [Opx.bytes, List.append_assoc, List.append_nil], ⟨i1, i5, i6, Nat.le_trans i2 (by omega), Nat.le_trans i3 (by omega), Nat.le_trans i4 (by omega)⟩, ?_⟩
    simp only [Opx.ok, decide_eq_true_eq]; exact ⟨i2, i3, i4⟩
  · cases h
/-! Names, results. -/
theorem rdN_bytes : ∀ (l : List (List UInt8)) (r : List UInt8), (∀ S ∈ l, S.length ≤ 1100) → rdN l.length (some (l.flatMap wText ++ r)) = (l, some r)
  | [], r, _ => rfl
  | S :: l, r, h => by
    have ih := rdN_bytes l r (fun S hS => h S (by simp [hS]))
    simp only [List.length_cons, rdN, List.flatMap_cons, List.append_assoc, text_w (h S (by simp)) (by omega), ih]
theorem rdN_inv : ∀ (n : Nat) (s : St) (l : List (List UInt8)) (r : List UInt8), rdN n s = (l, some r) → s = some (l.flatMap wText ++ r) ∧ l.length = n ∧ ∀ S ∈ l, S.length ≤ 1100
  | 0, s, l, r, h => by
    simp only [rdN, Prod.mk.injEq] at h
    obtain ⟨rfl, rfl⟩ := h
    exact ⟨rfl, rfl, by simp⟩
  | n + 1, s, l, r, h => by
    simp only [rdN] at h
    rcases h1 : rdS (rText 1100) [] s with ⟨x1, s1⟩; simp only [h1] at h
    rcases h2 : rdN n s1 with ⟨x2, s2⟩
    simp only [h2, Prod.mk.injEq] at h
    obtain ⟨rfl, rfl⟩ := h
    obtain ⟨rfl, hl, ha⟩ := rdN_inv n s1 x2 r h2
    obtain ⟨rfl, i1⟩ := text_i h1
    refine ⟨by simp only [List.flatMap_cons, List.append_assoc], by simp [hl], ?_⟩
    intro S hS
    rcases List.mem_cons.1 hS with rfl | hS
    · exact i1
    · exact ha S hS
theorem resok {r : Resx} (h : r.ok = true) : r.data.length ≤ 1100 ∧ (∀ S ∈ r.names, S.length ≤ 1100) ∧ r.names.length ≤ 512 := by simpa [Resx.ok] using h
theorem resOf_bytes {r : Resx} (hw : r.wf) (hok : r.ok = true) : resOf r.bytes = some r := by
  obtain ⟨h1, h2, h3⟩ := resok hok
  have e : r.bytes = wInt r.code ++ (wFlag r.dir ++ (wInt r.size ++ (wText r.data ++ (numW r.names.length ++ (r.names.flatMap wText ++ []))))) := by simp [Resx.bytes, List.append_assoc]
  rw [e]
  simp only [resOf, int_w hw.code, flag_w, int_w hw.size, text_w h1 (by omega), num_w (show r.names.length < 2 ^ 64 by omega), rdN_bytes _ _ h2]
  rw [if_pos ⟨h3, trivial⟩]
theorem resOf_inv {L : List UInt8} {r : Resx} (h : resOf L = some r) : r.bytes = L ∧ r.wf ∧ r.ok = true := by
  simp only [resOf] at h
  rcases h1 : rdS rInt 0 (some L) with ⟨x1, s1⟩; simp only [h1] at h
  rcases h2 : rdS rFlag false s1 with ⟨x2, s2⟩; simp only [h2] at h
  rcases h3 : rdS rInt 0 s2 with ⟨x3, s3⟩; simp only [h3] at h
  rcases h4 : rdS (rText 1100) [] s3 with ⟨x4, s4⟩; simp only [h4] at h
  rcases h5 : rdS rNum 0 s4 with ⟨x5, s5⟩; simp only [h5] at h
  rcases h6 : rdN x5 s5 with ⟨x6, s6⟩; simp only [h6] at h
  split at h
  · rename_i hs
    obtain ⟨h512, hs⟩ := hs
    subst hs
    simp only [Option.some.injEq] at h
    subst h
    obtain ⟨rfl, hl, ha⟩ := rdN_inv _ _ _ _ h6
    obtain ⟨rfl, i5⟩ := num_i h5
    obtain ⟨rfl, i4⟩ := text_i h4
    obtain ⟨rfl, i3⟩ := int_i h3
    obtain rfl := flag_i h2
    obtain ⟨e, i1⟩ := int_i h1
    cases e
    subst hl
    refine ⟨by simp only [Resx.bytes, List.append_assoc, List.append_nil], ⟨i1, i3, by simp only; omega⟩, ?_⟩
    simp only [Resx.ok, decide_eq_true_eq]; exact ⟨i4, ha, h512⟩
  · cases h
/-! Entries. -/
theorem rdE_bytes : ∀ (l : List Entx) (r : List UInt8), (∀ e ∈ l, e.wf ∧ e.op.ok = true) → rdE l.length (some (l.flatMap Entx.bytes ++ r)) = (some l, some r)
  | [], r, _ => rfl
  | e :: l, r, h => by
    obtain ⟨hw, hok⟩ := h e (by simp)
    have ih := rdE_bytes l r (fun e he => h e (by simp [he]))
    have hl := bytes_op_len hw.op hok
    have eq : (e :: l).flatMap Entx.bytes ++ r = wInt e.client ++ (wInt e.number ++ (wText e.op.bytes ++ (l.flatMap Entx.bytes ++ r))) := by simp [Entx.bytes, List.append_assoc]
    rw [eq, List.length_cons, rdE_some (int_w hw.client _) (int_w hw.number _) (text_w (Nat.le_trans hl (by omega)) (by omega) _) (opOf_bytes hw.op hok), ih]
    rfl
theorem rdE_inv : ∀ (n : Nat) (s : St) (l : List Entx) (r : List UInt8), rdE n s = (some l, some r) → s = some (l.flatMap Entx.bytes ++ r) ∧ l.length = n ∧ ∀ e ∈ l, e.wf ∧ e.op.ok = true
  | 0, s, l, r, h => by
    simp only [rdE, Prod.mk.injEq, Option.some.injEq] at h
    obtain ⟨rfl, rfl⟩ := h
    exact ⟨rfl, rfl, by simp⟩
  | n + 1, s, l, r, h => by
    rcases h1 : rdS rInt 0 s with ⟨x1, s1⟩
    rcases h2 : rdS rInt 0 s1 with ⟨x2, s2⟩
    rcases h3 : rdS (rText 262144) [] s2 with ⟨x3, s3⟩
    cases ho : opOf x3 with
    | none => rw [rdE_none h1 h2 h3 ho] at h; cases h
    | some o =>
      rw [rdE_some h1 h2 h3 ho] at h
      rcases h4 : rdE n s3 with ⟨x4, s4⟩
      rw [h4] at h
      simp only [Prod.mk.injEq, Option.map_eq_some_iff] at h
      obtain ⟨⟨l', rfl, rfl⟩, rfl⟩ := h
      obtain ⟨rfl, hl, ha⟩ := rdE_inv n s3 l' r h4
      obtain ⟨hb, hw, hok⟩ := opOf_inv ho
      subst hb
      obtain ⟨rfl, i3⟩ := text_i h3
      obtain ⟨rfl, i2⟩ := int_i h2
      obtain ⟨rfl, i1⟩ := int_i h1
      refine ⟨by simp only [List.flatMap_cons, Entx.bytes, List.append_assoc], by simp [hl], ?_⟩
      intro e he
      rcases List.mem_cons.1 he with rfl | he
      · exact ⟨⟨i1, i2, hw⟩, hok⟩
      · exact ha e he
/-! Messages. -/
theorem msgOf_bytes {m : Msgx} (hw : m.wf) (hok : m.ok = true) : msgOf m.bytes = some m := by
  obtain ⟨hr, hk1, hk2, hn, hd, he⟩ := ok_parts hok
  have hx : ∀ x ∈ [m.src, m.dst, m.view, m.normal, m.last, m.commit, m.behind], I64 x := hw.nums
  have x1 := hx m.src (by simp)
  have x2 := hx m.dst (by simp)
  have x3 := hx m.view (by simp)
  have x4 := hx m.normal (by simp)
  have x5 := hx m.last (by simp)
  have x6 := hx m.commit (by simp)
  have x7 := hx m.behind (by simp)
  have hrl := bytes_res_len hw.res hr
  have e : m.bytes = numW m.kind.toNat ++ (wInt m.src ++ (wInt m.dst ++ (wInt m.view ++ (wInt m.normal ++ (wInt m.last ++ (wInt m.commit ++ (wInt m.behind ++ (m.root ++ (numW m.entries.length ++ (m.entries.flatMap Entx.bytes ++ (wText m.data ++ (wText m.res.bytes ++ [])))))))))))) := by
    simp [Msgx.bytes, Msgx.nums, List.append_assoc]
  rw [e]
  have hH := hdOf_eq (num_w (d := 0) (show m.kind.toNat < 2 ^ 64 by omega) _) (int_w (d := 0) x1 _) (int_w (d := 0) x2 _) (int_w (d := 0) x3 _) (int_w (d := 0) x4 _) (int_w (d := 0) x5 _) (int_w (d := 0) x6 _) (int_w (d := 0) x7 _) (take_w (d := Z32) hw.root _) (num_w (d := 0) (show m.entries.length < 2 ^ 64 by omega) (m.entries.flatMap Entx.bytes ++ (wText m.data ++ (wText m.res.bytes ++ []))))
  have hE := rdE_bytes m.entries (wText m.data ++ (wText m.res.bytes ++ [])) (fun x hx => ⟨hw.entries x hx, he x hx⟩)
  have h := msgOf_some hH (l := m.entries) (by simp only; omega) (by simp only; omega) hn (by simp only; rw [hE]) (d := m.data) (s1 := some (wText m.res.bytes ++ [])) (by simp only; rw [hE]; exact text_w hd (by omega) _) (text_w (Nat.le_trans hrl (by omega)) (by omega) _) (resOf_bytes hw.res hr)
  rw [h]
  simp only [show ((m.kind.toNat : Nat) : Int) = m.kind by omega]
theorem msgOf_inv {L : List UInt8} {m : Msgx} (h : msgOf L = some m) : m.bytes = L ∧ m.wf ∧ m.ok = true := by
  simp only [msgOf, hdOf] at h
  rcases h1 : rdS rNum 0 (some L) with ⟨x1, s1⟩; simp only [h1] at h
  rcases h2 : rdS rInt 0 s1 with ⟨x2, s2⟩; simp only [h2] at h
  rcases h3 : rdS rInt 0 s2 with ⟨x3, s3⟩; simp only [h3] at h
  rcases h4 : rdS rInt 0 s3 with ⟨x4, s4⟩; simp only [h4] at h
  rcases h5 : rdS rInt 0 s4 with ⟨x5, s5⟩; simp only [h5] at h
  rcases h6 : rdS rInt 0 s5 with ⟨x6, s6⟩; simp only [h6] at h
  rcases h7 : rdS rInt 0 s6 with ⟨x7, s7⟩; simp only [h7] at h
  rcases h8 : rdS rInt 0 s7 with ⟨x8, s8⟩; simp only [h8] at h
  rcases h9 : rdS (rTake 32) Z32 s8 with ⟨x9, s9⟩; simp only [h9] at h
  rcases h10 : rdS rNum 0 s9 with ⟨n, s10⟩; simp only [h10] at h
  rcases h11 : rdE n s10 with ⟨es, s11⟩; simp only [h11] at h
  rcases h12 : rdS (rText 4096) [] s11 with ⟨d, s12⟩; simp only [h12] at h
  rcases h13 : rdS (rText 1048576) [] s12 with ⟨t, s13⟩; simp only [h13] at h
  split at h
  · rename_i hc
    simp only [Option.bind_eq_some_iff] at h
    obtain ⟨l, rfl, r, hr, h⟩ := h
    split at h
    · rename_i hs
      subst hs
      simp only [Option.some.injEq] at h
      subst h
      obtain ⟨rfl, i13⟩ := text_i h13
      obtain ⟨rfl, i12⟩ := text_i h12
      obtain ⟨rfl, hl, ha⟩ := rdE_inv _ _ _ _ h11
      obtain ⟨rfl, i10⟩ := num_i h10
      obtain ⟨rfl, i9⟩ := take_i h9
      obtain ⟨rfl, i8⟩ := int_i h8
      obtain ⟨rfl, i7⟩ := int_i h7
      obtain ⟨rfl, i6⟩ := int_i h6
      obtain ⟨rfl, i5⟩ := int_i h5
      obtain ⟨rfl, i4⟩ := int_i h4
      obtain ⟨rfl, i3⟩ := int_i h3
      obtain ⟨rfl, i2⟩ := int_i h2
      obtain ⟨e, i1⟩ := num_i h1
      cases e
      obtain ⟨hb, hw, hok⟩ := resOf_inv hr
      subst hb hl
      refine ⟨?_, ⟨⟨by simp only; omega, by simp only; omega⟩, ?_, i9, fun e he => (ha e he).1, by simp only; omega, by simp only; omega, hw⟩, ?_⟩
      · simp only [Msgx.bytes, Msgx.nums, List.flatMap_cons, List.flatMap_nil, List.append_assoc, List.append_nil, Int.toNat_natCast]
      · intro x hx
        simp only [Msgx.nums, List.mem_cons, List.not_mem_nil, or_false] at hx
        rcases hx with rfl | rfl | rfl | rfl | rfl | rfl | rfl <;> assumption
      · simp only [Msgx.ok, Bool.and_eq_true, decide_eq_true_eq, List.all_eq_true]
        exact ⟨⟨hok, by omega, by omega, by omega, by omega⟩, fun e he => (ha e he).2⟩
    · cases h
  · cases h
end Go.Proofs
