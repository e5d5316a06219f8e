/-
  That a run of the deterministic reading says what a closed call does in every world, for every tape. Condition: the tables agree with the program.
-/
import Derived.Test.YtkngpdmnpgoomaaGreatDoorDetA
import Derived.Laws.Externs
import Derived.RangeFuncIn
import Derived.RangeFuncNested
/-! DetO7 -/
/-! The operations: copy, clear, conversions. -/
namespace Go.Det
section
variable {E : Env} (EO : EnvOk E) {N0 : Nat} {ρ : Rho} {σ : AHeap} {w : World} (H : HRel N0 ρ σ w.heap)
 include EO H
theorem copyA_sound {argTypes : Array TypeId} {ty : TypeId} {d x : AVal} {d' x' : Value} (hd : R ρ d d') (hx : R ρ x x') {v : AVal} {σ' : AHeap} (h : copyA E σ argTypes d x = some (v, σ')) :
    SGood N0 ρ σ E.P w v σ' (Builtin.copy_ argTypes ty #[d', x']) := by
  have e0 : (#[d', x'] : Array Value)[0]? = some d' := rfl
  have e1 : (#[d', x'] : Array Value)[1]? = some x' := rfl
  unfold copyA at h
  split at h
  · rename_i dt h0
    split at h
    · rename_i e n m hu hn hm
      have hn' := lenA_spec (w := w) hx hn E.P
      split at h
      · rename_i size hs
        split at h
        · rename_i xs hxs
          obtain ⟨xs', hxr, hxrun⟩ := firstA_spec H hx hxs
          split at h
          · cases hd
            simp only [lenA, Option.some.injEq] at hm
            subst hm
            simp only [Option.some.injEq, Prod.mk.injEq] at h
            obtain ⟨rfl, rfl⟩ := h
            refine sgood_pure H ?_ (.lit _)
            simp only [Builtin.copy_, h0, e0, e1, Sem.run_bind, run_und EO hu, Result.andThen_ok, hn', run_size EO hs, hxrun E.P w rfl, Sem.run_pure]
          · rename_i b i k lim s ex
            obtain ⟨p, off, C, rfl, hp, hml, hlC, hex, hoff, hb, hxx⟩ := R.sl_inv hd
            simp only [lenA, Option.some.injEq] at hm
            subst hm
            split at h
            · rename_i hc
              simp only [Bool.and_eq_true, decide_eq_true_eq] at hc
              obtain ⟨rfl, hc2⟩ := hc
              split at h
              · rename_i hz
                simp only [Option.some.injEq, Prod.mk.injEq] at h
                obtain ⟨rfl, rfl⟩ := h
                refine sgood_pure H ?_ (.lit (goInt 0))
                have hx0 : (Builtin.firstCells s 0 x').run E.P w = .ok #[] w := by
                  rw [hz] at hxs hxrun
                  have hl : xs = [] := by
                    unfold firstA at hxs
                    split at hxs
                    · split at hxs
                      · obtain ⟨cs, hg, hle, rfl⟩ := loadRow_spec hxs; simp
                      · cases hxs
                    · simpa using hxs.symm
                    · simpa using hxs.symm
                    · cases hxs
                  subst hl
                  cases hxr
                  exact hxrun E.P w rfl
                simp only [Builtin.copy_, h0, e0, e1, Sem.run_bind, run_und EO hu, Result.andThen_ok, hn', run_size EO hs, hz, hx0, Sem.run_pure, storeCells]
                rfl
              · rename_i hz
                split at h
                · rename_i σ1 hst
                  simp only [Option.some.injEq, Prod.mk.injEq] at h
                  obtain ⟨rfl, rfl⟩ := h
                  have : 0 < k := by
                    apply Nat.pos_of_ne_zero
                    intro h0; subst h0; simp at hz
                  obtain ⟨h', q1, q2, q3⟩ := row_store H hst hp hxr (P := E.P) (w := w) rfl
                  rw [← hoff (by omega)] at q1
                  refine ⟨ρ, goInt (Nat.min n k), { w with heap := h' }, ?_, Ext.refl _ _, .lit _, q2, ⟨q3, rfl, rfl⟩, Nat.le_of_eq (storeRow_next hst).symm⟩
                  simp only [Builtin.copy_, h0, e0, e1, Sem.run_bind, run_und EO hu, Result.andThen_ok, hn', run_size EO hs, hxrun E.P w rfl, q1, Sem.run_pure]
                · cases h
            · cases h
          · cases h
        · cases h
      · cases h
    · cases h
  · cases h
theorem clearA_sound {argTypes : Array TypeId} {ty : TypeId} {x : AVal} {x' : Value} (hx : R ρ x x') {σ' : AHeap} (h : clearA E σ argTypes x = some σ') :
    SGood N0 ρ σ E.P w (.lit (.tuple #[])) σ' (Builtin.clear_ argTypes ty #[x']) := by
  have e0 : (#[x'] : Array Value)[0]? = some x' := rfl
  unfold clearA at h
  split at h
  · rename_i t h0
    split at h
    · rename_i e b i n lim s ex hu
      obtain ⟨p, off, C, rfl, hp, hml, hlC, hex, hoff, hb, hxx⟩ := R.sl_inv hx
      split at h
      · rename_i hn
        simp only [Option.some.injEq] at h
        subst h hn
        refine sgood_pure H ?_ (.lit _)
        simp only [Builtin.clear_, h0, e0, Sem.run_bind, run_und EO hu, Result.andThen_ok, Sem.run_pure]
      · rename_i hn
        split at h
        · rename_i z hz
          split at h
          · rename_i hzl
            obtain ⟨z', hz1, rfl⟩ := run_zeroA EO hz w
            obtain ⟨k, rfl⟩ : ∃ k, n = k + 1 := ⟨n - 1, by omega⟩
            have hr : Rs ρ (rep (k + 1) (z'.cells.toList.map .lit)) (Builtin.zeroCells z'.cells (k + 1)).toList := by
              rw [rep_cells]; exact Rs.of_lits _
            obtain ⟨h', q1, q2, q3⟩ := row_store H h hp hr (P := E.P) (w := w) rfl
            rw [← hoff (by omega)] at q1
            refine ⟨ρ, .tuple #[], { w with heap := h' }, ?_, Ext.refl _ _, .lit _, q2, ⟨q3, rfl, rfl⟩, Nat.le_of_eq (storeRow_next h).symm⟩
            simp only [Builtin.clear_, h0, e0, Sem.run_bind, run_und EO hu, Result.andThen_ok, hz1, q1, Sem.run_pure]
          · cases h
        · cases h
    · rename_i e a b hu
      cases hx
      simp only [Option.some.injEq] at h
      subst h
      refine sgood_pure H ?_ (.lit _)
      simp only [Builtin.clear_, h0, e0, Sem.run_bind, run_und EO hu, Result.andThen_ok, Sem.run_pure]
    · cases h
  · cases h
 omit EO H in
theorem run_mark {P : Program} {w1 : World} {h : Array Obj} {c : Array Value} {e : TypeId} (hw : w1.heap = h.push (.cells c e)) :
    (markStringish ⟨h.size, 0, none⟩).run P w1 = .ok () { w1 with heap := h.push (.cells c e (c.size, c.size + 1)) } := by
  have h1 : w1.shape? h.size = some (e, c.size) := by simp [World.shape?, hw]
  simp only [markStringish, shape, Sem.run_bind, Sem.run, Result.andThen, h1, freeze, World.freeze]
  simp only [Nat.succ_ne_zero, if_false, hw]
  congr 2
  apply Array.ext_getElem?
  intro i
  rw [Array.getElem?_modify]
  by_cases hi : i = h.size
  · subst hi; simp
  · rw [if_neg (fun x => hi x.symm)]
    simp only [Array.getElem?_push, if_neg hi]
 omit EO H in
theorem bytesOf_run {P : Program} {f : Value → ByteArray → Sem (ForInStep ByteArray)} (hf : ∀ n s, f (.int .u8 n) s = pure (.yield (s.push (UInt8.ofNat n.toNat)))) :
    ∀ (l : List AVal) (l' : List Value) (bs : List UInt8) (s : ByteArray) (w : World), Rs ρ l l' → bytesOfA l = some bs → (forIn (m := Sem) l' s f).run P w = .ok ⟨⟨s.data.toList ++ bs⟩⟩ w
  | [], l', bs, s, w, h, hb => by
    cases h
    simp only [bytesOfA, Option.some.injEq] at hb
    subst hb
    simp
  | a :: l, l', bs, s, w, h, hb => by
    cases h with
    | @cons _ v _ l1 hv ht =>
    simp only [bytesOfA] at hb
    split at hb
    · rename_i b r h1 h2
      simp only [Option.some.injEq] at hb
      subst hb
      unfold byteOfA at h1
      split at h1
      · rename_i n
        cases hv
        simp only [Option.some.injEq] at h1
        subst h1
        simp only [List.forIn_cons, hf, Sem.run_bind, Sem.run_pure, Result.andThen_ok]
        rw [bytesOf_run hf l l1 r (s.push (UInt8.ofNat n.toNat)) w ht h2]
        simp [ByteArray.push]
      · cases h1
    · cases hb
theorem convA_sound {s d : TypeId} {x : AVal} {x' : Value} (hx : R ρ x x') {v : AVal} {σ' : AHeap} (h : convA E σ s d x = some (v, σ')) :
    SGood N0 ρ σ E.P w v σ' (convert s d x') := by
  unfold convA at h
  split at h
  · rename_i a k k' n ha hk
    cases hx
    simp only [Option.some.injEq, Prod.mk.injEq] at h
    obtain ⟨rfl, rfl⟩ := h
    refine sgood_pure H ?_ (.lit _)
    simp only [convert, Sem.run_bind, run_und EO ha, run_und EO hk, Result.andThen_ok]
    rw [wrapA_eq]
    rfl
  · rename_i a b ha hb
    cases hx
    simp only [Option.some.injEq, Prod.mk.injEq] at h
    obtain ⟨rfl, rfl⟩ := h
    refine sgood_pure H ?_ (.lit _)
    simp only [convert, Sem.run_bind, run_und EO ha, run_und EO hb, Result.andThen_ok]
    rfl
  · rename_i a e b ha he
    cases hx
    split at h
    · rename_i hee
      split at h
      · rename_i id σ1 hnew
        simp only [Option.some.injEq, Prod.mk.injEq] at h
        obtain ⟨rfl, rfl⟩ := h
        have hf : (Question.appendCap b.size 0 e).forced = false := rfl
        let cap := (Question.appendCap b.size 0 e).cut (w.tape w.drawn (Question.appendCap b.size 0 e))
        have hcap : b.size ≤ cap := by simp [cap, Question.cut]
        let c : Array Value := (b.data.map fun b => .int .u8 b.toNat) ++ Array.replicate (cap - b.size) (.int .u8 0)
        have hc : c.size = cap := by
          have : b.data.size = b.size := rfl
          simp [c]; omega
        have hr : Rs ρ ((strs b).map byteA) ((strs b).map fun b => .int .u8 b.toNat) := by
          have := Rs.of_lits (ρ := ρ) ((strs b).map fun b => Value.int .u8 b.toNat)
          rw [show byteA = fun x : UInt8 => AVal.lit (Value.int .u8 x.toNat) from rfl]
          simpa [Function.comp_def, strs] using this
        have hl : (strs b).length = b.size := by simp [strs]
        have no : ρ id = none := H.fresh (by have := AHeap.new_spec hnew; omega)
        have hb := brel_new (h := w.heap) (e := e) (c := c) (fz := (c.size, c.size + 1)) (hr.mono (ρ.le_upd ⟨w.heap.size, 0, c.size⟩ no)) (by
          simp only [List.length_map, hl, c, Array.toList_append, Array.toList_map]
          exact List.take_left' (by simp)) (fun i hi h => by have := h.1; simp only at this; omega) (by simp only [List.length_map, hl, hc]; exact hcap)
        obtain ⟨a1, a2, a3⟩ := H.alloc hnew hb
        refine ⟨_, .slice (some ⟨w.heap.size, 0, none⟩) b.size cap, { w with drawn := w.drawn + 1, heap := w.heap.push (.cells c e (c.size, c.size + 1)) }, ?_, a2, ?_, a1, ⟨a3, rfl, rfl⟩, by have := AHeap.new_spec hnew; omega⟩
        · simp only [convert, Sem.run_bind, run_und EO ha, run_und EO he, run_und EO hee, Result.andThen_ok, Conv.stringToBytes, run_choose, hf, Bool.false_eq_true, if_false, newRow, run_newObj, Sem.run_pure]
          have := run_mark (P := E.P) (w1 := { w with drawn := w.drawn + 1, heap := w.heap.push (.cells c e) }) (h := w.heap) (c := c) (e := e) rfl
          rw [this]
          rfl
        · rw [hl]
          exact R.sl (Rho.upd_same _ _ _) (Nat.le_refl _) hcap (fun h => by cases h) (fun _ => rfl) (Nat.le_refl _) (by simp only [hc]; omega)
      · cases h
    · cases h
  · rename_i e a b hs hd
    cases hx
    split at h
    · rename_i hee
      simp only [Option.some.injEq, Prod.mk.injEq] at h
      obtain ⟨rfl, rfl⟩ := h
      refine sgood_pure H ?_ (.lit _)
      simp only [convert, Sem.run_bind, run_und EO hs, run_und EO hd, run_und EO hee, Result.andThen_ok]
      rfl
    · cases h
  · rename_i e b i n lim sz ex hs hd
    obtain ⟨p, off, C, rfl, hp, hml, hlC, hex, hoff, hb, hxx⟩ := R.sl_inv hx
    split at h
    · rename_i hee
      split at h
      · rename_i hsz
        subst hsz
        cases hl : loadRow σ b i n with
        | none => simp [hl] at h
        | some l =>
          simp only [hl, Option.bind_some] at h
          cases hbs : bytesOfA l with
          | none => simp [hbs] at h
          | some bs =>
            simp only [hbs, Option.bind_some, Option.some.injEq, Prod.mk.injEq] at h
            obtain ⟨rfl, rfl⟩ := h
            refine sgood_pure H ?_ (.lit _)
            simp only [convert, Sem.run_bind, run_und EO hs, run_und EO hd, run_und EO hee, Result.andThen_ok, Conv.bytesToString]
            obtain ⟨l', q1, q2⟩ := row_load_all H hl hp
            have hld : (loadCells ⟨p.blk, off, none⟩ n).run E.P w = .ok ⟨l'⟩ w := by
              by_cases hn0 : n = 0
              · subst hn0
                obtain ⟨cs, hg, hle, rfl⟩ := loadRow_spec hl
                simp at q1
                cases q1
                simp [loadCells, loadCellsFrom]
              · rw [hoff (by omega)]; exact q2 E.P w rfl
            simp only [hld, Result.andThen_ok]
            rw [← Array.forIn_toList, bytesOf_run (fun n s => rfl) l l' bs .empty w q1 hbs]
            rfl
      · cases h
    · cases h
  · cases h
  · rename_i k n hd ha hn
    cases hx
    split at h
    · rename_i v hv
      simp only [Option.some.injEq, Prod.mk.injEq] at h
      obtain ⟨rfl, rfl⟩ := h
      refine sgood_pure H ?_ (.lit _)
      simp only [convert, Sem.run_bind, run_und EO ha, run_und EO hn, Result.andThen_ok]
      exact pv_spec hv w
    · cases h
  · cases h
end
end Go.Det

/-! DetO8 -/
/-! The operations: tuples, assertions, iterators. -/
namespace Go.Det
theorem nth_eq : ∀ (l : List AVal) (n : Nat), nth l n = l[n]?
  | [], _n => rfl
  | _a :: _l, 0 => rfl
  | _a :: l, n + 1 => nth_eq l n
section
variable {E : Env} (EO : EnvOk E) {N0 : Nat} {ρ : Rho} {σ : AHeap} {w : World} (H : HRel N0 ρ σ w.heap)
 include EO H
 omit EO in
theorem oExtract_sound {x : AVal} {x' : Value} (hx : R ρ x x') {i : Nat} {r : ORes} (h : oExtract σ x i = some r) :
    OGood N0 ρ σ w r ((do pure (Next.value (← Instr.extract x' i)) : Sem Next).run E.P w) := by
  unfold oExtract at h
  split at h
  · rename_i vs
    obtain ⟨v, hv, rfl⟩ := valO_spec h
    cases hx with
    | tuple hs =>
      rw [nth_eq] at hv
      obtain ⟨y, hy, hr⟩ := hs.get hv
      refine good_of H hr ?_
      simp only [Instr.extract, List.getElem?_toArray, hy, Sem.run_pure]
  · rename_i vs
    obtain ⟨v, hv, rfl⟩ := valO_spec h
    cases hx
    cases hi : vs[i]? with
    | none => simp [hi] at hv
    | some y =>
      simp only [hi, Option.map_some, Option.some.injEq] at hv
      subst hv
      refine good_of H (.lit _) ?_
      simp only [Instr.extract, hi, Sem.run_pure]
  · cases h
theorem oAssert_sound {x : AVal} {x' : Value} (hx : R ρ x x') {xt t : TypeId} {ok : Bool} {r : ORes} (h : oAssert E σ x t ok = some r) :
    OGood N0 ρ σ w r ((do pure (Next.value (← Instr.typeAssert x' xt t ok)) : Sem Next).run E.P w) := by
  unfold oAssert at h
  split at h
  · cases h
  · rename_i d t' v hni hu
    cases hx with
    | iface hv =>
    rename_i v'
    split at h
    · rename_i heq
      simp only [Option.some.injEq] at h
      subst h heq
      have hrun : (Instr.typeAssert (.iface t' v') xt t' ok).run E.P w = .ok (if ok then .tuple #[v', .bool true] else v') w := by
        simp only [Instr.typeAssert, Sem.run_bind, run_und EO hu, Result.andThen_ok]
        cases d <;> first | (exact absurd rfl (hni _)) | (simp only [if_true, Sem.run_pure])
      cases ok
      · exact good_of H hv hrun
      · exact good_of H (.tuple (.cons hv (.cons (.lit _) .nil))) hrun
    · cases h
  · cases h
 omit EO H in
theorem run_getMap {P : Program} {b : Nat} {es : Array MapEntry} {c : Nat} (h : w.heap[b]? = some (.map es c)) : (getObj b).run P w = .ok (.map es c) w := by
  simp [getObj, Sem.run, h]
 omit EO H in
theorem run_getIter {P : Program} {b : Nat} {m : Option Nat} {s c : Nat} {seen : Array Nat} (h : w.heap[b]? = some (.mapIter m s seen c)) : (getObj b).run P w = .ok (.mapIter m s seen c) w := by
  simp [getObj, Sem.run, h]
theorem oRange_sound {t : TypeId} {x : AVal} {x' : Value} (hx : R ρ x x') {r : ORes} (h : oRange E σ t x = some r) :
    OGood N0 ρ σ w r ((do pure (Next.value (← Instr.range t x')) : Sem Next).run E.P w) := by
  unfold oRange at h
  split at h
  · rename_i hu
    cases hx
    refine good_new H h (o := .mapIter none 0 #[] 0) (ext := 0) (mk' := fun b => .pointer (some ⟨b, 0, none⟩)) (fun ρ' _ => ⟨rfl, none, by simp, rfl⟩) (fun ρ' b _ hb => R.ptr hb) (w1 := { w with heap := w.heap.push (.mapIter none 0 #[] 0) }) rfl ?_
    simp only [Instr.range, Sem.run_bind, run_und EO hu, Result.andThen_ok, Sem.run_pure, run_newObj]
  · rename_i b hu
    cases hx with
    | map hp =>
    rename_i p
    split at h
    · rename_i es clock hg
      obtain ⟨es', h1, h2⟩ := H.blk b p _ hp hg
      refine good_new H h (o := .mapIter (some p.blk) clock #[] clock) (ext := 0) (mk' := fun b => .pointer (some ⟨b, 0, none⟩)) (fun ρ' hle => ⟨rfl, some p.blk, by simp, p, hle _ _ hp, rfl⟩) (fun ρ' b _ hb => R.ptr hb)
        (w1 := { w with heap := w.heap.push (.mapIter (some p.blk) clock #[] clock) }) rfl ?_
      simp only [Instr.range, Sem.run_bind, run_und EO hu, Result.andThen_ok, Sem.run_pure, run_newObj, run_getMap h1]
    · cases h
  · cases h
 omit EO H in
theorem Es.get {a : List (AVal × AVal × Nat)} {l : List MapEntry} (h : Es ρ a l) {i : Nat} {e : AVal × AVal × Nat} (he : a[i]? = some e) : ∃ e', l[i]? = some e' ∧ R ρ e.1 e'.key ∧ R ρ e.2.1 e'.val ∧ e.2.2 = e'.born := by
  induction h generalizing i with
  | nil => simp at he
  | cons hk hv hn t ih =>
    cases i with
    | zero => simp at he; subst he; exact ⟨_, rfl, hk, hv, hn⟩
    | succ i => simp at he; obtain ⟨e', h1, h2⟩ := ih he; exact ⟨e', by simpa using h1, h2⟩
 omit EO H in
theorem Es.find {a : List (AVal × AVal × Nat)} {l : List MapEntry} (h : Es ρ a l) {s : Nat} {e : AVal × AVal × Nat} (he : a.find? (fun e => e.2.2 == s) = some e) :
    ∃ e', l.find? (·.born == s) = some e' ∧ R ρ e.1 e'.key ∧ R ρ e.2.1 e'.val := by
  induction h with
  | nil => simp at he
  | @cons k v n e0 l l' hk hv hn t ih =>
    subst hn
    simp only [List.find?_cons] at he ⊢
    cases hb : (e0.born == s) with
    | true => simp only [hb, Option.some.injEq] at he; subst he; exact ⟨_, rfl, hk, hv⟩
    | false => simp only [hb] at he; exact ih he
 omit EO in
theorem oEntry_sound {x : AVal} {x' : Value} (hx : R ρ x x') {r : ORes} (h : oEntry σ x = some r) :
    OGood N0 ρ σ w r ((do pure (Next.value (← Instr.entry x')) : Sem Next).run E.P w) := by
  unfold oEntry at h
  split at h
  · rename_i b
    cases hx with
    | ptr hp =>
    rename_i p
    split at h
    · rename_i m c0 seen stepped hg
      obtain ⟨h0, m', h1, q, hq, rfl⟩ := H.blk b p _ hp hg
      split at h
      · rename_i es clock stamp hm hl
        split at h
        · cases h
        · rename_i hst
          split at h
          · rename_i e he
            simp only [Option.some.injEq] at h
            subst h
            obtain ⟨es', k1, k2⟩ := H.blk m q _ hq hm
            obtain ⟨e', f1, f2, f3⟩ := k2.find he
            refine good_of H (v' := .tuple #[e'.key, e'.val]) (.tuple (.cons f2 (.cons f3 .nil))) ?_
            have hb : (⟨seen⟩ : Array Nat).back? = some stamp := by simpa using hl
            simp only [Nat.add_zero, h0, Instr.entry, Sem.run_bind, run_getIter h1, Result.andThen_ok, hb, run_getMap k1, hst]
            rw [← Array.find?_toList, f1]
            simp
          · cases h
      · cases h
    · cases h
  · cases h
 omit EO H in
theorem Es.filter {a : List (AVal × AVal × Nat)} {l : List MapEntry} (h : Es ρ a l) (f : Nat → Bool) : Es ρ (a.filter fun e => f e.2.2) (l.filter fun e => f e.born) := by
  induction h with
  | nil => exact .nil
  | @cons k v n e0 l l' hk hv hn t ih =>
    subst hn
    simp only [List.filter_cons]
    cases f e0.born
    · simpa using ih
    · simpa using Es.cons hk hv rfl ih
 omit EO H in
theorem Es.all {a : List (AVal × AVal × Nat)} {l : List MapEntry} (h : Es ρ a l) (f : Nat → Bool) : (a.all fun e => f e.2.2) = (l.all fun e => f e.born) := by
  induction h with
  | nil => rfl
  | @cons k v n e0 l l' hk hv hn t ih => subst hn; simp only [List.all_cons, ih]
 omit EO in
theorem oNext_sound {x : AVal} {x' : Value} (hx : R ρ x x') {b : Bool} {ty : TypeId} {r : ORes} (h : oNext σ x b = some r) :
    OGood N0 ρ σ w r ((do pure (Next.value (← Instr.next x' b ty)) : Sem Next).run E.P w) := by
  unfold oNext at h
  split at h
  · rename_i b
    cases hx with
    | ptr hp =>
    rename_i p
    split at h
    · rename_i s0 seen last hg
      obtain ⟨h0, m', h1, rfl⟩ := H.blk b p _ hp hg
      simp only [Option.some.injEq] at h
      subst h
      refine good_of H (.lit _) ?_
      simp only [Nat.add_zero, h0, Instr.next, Sem.run_bind, run_getIter h1, Result.andThen_ok, Sem.run_pure]
    · rename_i m since seen last hg
      obtain ⟨h0, m', h1, q, hq, rfl⟩ := H.blk b p _ hp hg
      split at h
      · rename_i es clock hm
        obtain ⟨es', k1, k2⟩ := H.blk m q _ hq hm
        split at h
        · cases h
        · rename_i hno
          have hno' : ¬ ((!(⟨seen⟩ : Array Nat).isEmpty && !es'.isEmpty && es'.all (fun e => decide (e.born ≥ last))) = true) := by
            have e1 := k2.all (fun n => decide (last ≤ n))
            have e2 : es.isEmpty = es'.isEmpty := by
              have := k2.length
              rw [← Array.isEmpty_toList]
              generalize es'.toList = L at this
              cases es <;> cases L <;> simp at this ⊢
            have e3 : (⟨seen⟩ : Array Nat).isEmpty = seen.isEmpty := by simp
            rw [← e2, e3, ← Array.all_toList]
            rw [e1] at hno
            exact hno
          have kf := k2.filter (fun n => !seen.contains n)
          have hfl : (es'.filter fun e => !(⟨seen⟩ : Array Nat).contains e.born).toList = es'.toList.filter fun e => !seen.contains e.born := by
            rw [Array.toList_filter]; simp
          split at h
          · rename_i hleft
            simp only [Option.some.injEq] at h
            subst h
            rw [hleft] at kf
            have kf' : (es'.filter fun e => !(⟨seen⟩ : Array Nat).contains e.born) = #[] := by
              apply Array.toList_inj.1; rw [hfl]
              generalize es'.toList.filter (fun e => !seen.contains e.born) = L at kf
              cases kf; rfl
            refine good_of H (.lit _) ?_
            simp only [Nat.add_zero, h0, Instr.next, Sem.run_bind, run_getIter h1, Result.andThen_ok, run_getMap k1, if_neg hno', kf']
            simp [choose, Sem.run, Question.forced]
          · rename_i e hleft
            split at h
            · rename_i hlt
              simp only [Option.some.injEq] at h
              subst h
              rw [hleft] at kf
              obtain ⟨e', kf', kk, kv, kb⟩ : ∃ e', (es'.filter fun e => !(⟨seen⟩ : Array Nat).contains e.born) = #[e'] ∧ R ρ e.1 e'.key ∧ R ρ e.2.1 e'.val ∧ e.2.2 = e'.born := by
                generalize hL : es'.toList.filter (fun e => !seen.contains e.born) = L at kf
                rw [hL] at hfl
                cases kf with
                | cons a1 a2 a3 t => cases t; exact ⟨_, Array.toList_inj.1 hfl, a1, a2, a3⟩
              have hlt' : e'.born < since := by rw [← kb]; exact hlt
              have hput := H.put hp hg (k := .iter (some m) since (seen ++ [e.2.2]) clock) (h' := w.heap.setIfInBounds p.blk (.mapIter (some q.blk) since ⟨seen ++ [e.2.2]⟩ clock)) (by simp)
                (fun x hx => by rw [Array.getElem?_setIfInBounds_ne (fun e => hx e.symm)]) ⟨h0, some q.blk, by simp [(H.low _ _ hp).2], q, hq, rfl⟩
              refine ⟨ρ, .tuple #[.bool true, e'.key, e'.val], { w with heap := w.heap.setIfInBounds p.blk (.mapIter (some q.blk) since ⟨seen ++ [e.2.2]⟩ clock) }, .inl ?_, Ext.refl _ _, .tuple (.cons (.lit _) (.cons kk (.cons kv .nil))), hput, ⟨fun B hB => ?_, rfl, rfl⟩, by rw [AHeap.put_next]; omega⟩
              · simp only [Nat.add_zero, h0, Instr.next, Sem.run_bind, run_getIter h1, Result.andThen_ok, run_getMap k1, if_neg hno', kf']
                have e1 : (#[e'] : Array MapEntry).filter (fun x => decide (x.born < since)) = #[e'] := by simp [hlt']
                have e2 : (#[e'] : Array MapEntry).filter (fun x => decide (x.born ≥ since)) = #[] := by simp; omega
                simp only [e1, e2]
                simp [choose, Sem.run, Question.forced, setObj, h1, kb]
              · have := (H.low _ _ hp).1
                simp only
                rw [Array.getElem?_setIfInBounds_ne (by omega)]
            · cases h
          · cases h
      · cases h
    · cases h
  · cases h
end
end Go.Det

/-! DetO9 -/
/-! The operations: maps. -/
namespace Go.Det
section
variable {E : Env} (EO : EnvOk E) {N0 : Nat} {ρ : Rho} {σ : AHeap} {w : World} (H : HRel N0 ρ σ w.heap)
theorem ba_beq (a b : ByteArray) : (a == b) = eqBytes (strs a) (strs b) := by
  rw [eqBytes_eq]
  show (a.data == b.data) = (a.data.toList == b.data.toList)
  rw [Bool.eq_iff_iff]; simp
theorem ba_eq {a b : ByteArray} (h : eqBytes (strs a) (strs b) = true) : a = b := by
  rw [eqBytes_eq, beq_iff_eq] at h
  exact ByteArray.ext (Array.toList_inj.1 h)
theorem findS_spec {s : ByteArray} : ∀ {es : List (AVal × AVal × Nat)} {es' : List MapEntry}, Es ρ es es' → ∀ {i : Nat} {r : Option (Nat × AVal)}, findS s es i = some r →
    ∃ r' : Option (Nat × Value), Instr.findNow .string (.string s) es' i = some r' ∧
      (match r, r' with
        | none, none => True
        | some (j, v), some (j', v') => j = j' ∧ R ρ v v' ∧ i ≤ j ∧ ∃ e, es'[j - i]? = some e ∧ e.key = .string s
        | _, _ => False)
  | _, _, .nil, i, r, h => by
    simp only [findS, Option.some.injEq] at h
    subst h
    exact ⟨none, rfl, trivial⟩
  | _, _, @Es.cons _ k v n e l l' hk hv hn t, i, r, h => by
    simp only [findS] at h
    split at h
    · rename_i a
      have hk' : e.key = .string a := by cases hk' : e.key <;> rw [hk'] at hk <;> cases hk; rfl
      simp only [Instr.findNow, hk', Instr.sameNow, ba_beq]
      cases hb : eqBytes (strs s) (strs a) with
      | true =>
        simp only [hb, cond_true, Option.some.injEq] at h
        subst h
        refine ⟨_, rfl, rfl, hv, Nat.le_refl _, e, by simp, ?_⟩
        rw [hk', ba_eq hb]
      | false =>
        simp only [hb, cond_false] at h
        obtain ⟨r', h1, h2⟩ := findS_spec t h
        refine ⟨r', h1, ?_⟩
        cases r with
        | none => cases r' <;> exact h2
        | some x =>
          obtain ⟨j, v0⟩ := x
          cases r' with
          | none => exact h2
          | some y =>
            obtain ⟨j', v'⟩ := y
            obtain ⟨a1, a2, a3, e', a4, a5⟩ := h2
            refine ⟨a1, a2, by omega, e', ?_, a5⟩
            rw [show j - i = (j - (i + 1)) + 1 by omega]
            simpa using a4
    · cases h
 include EO in
theorem findKey_str {kt : TypeId} (hk : und E kt = some .string) {s : ByteArray} {es : List (AVal × AVal × Nat)} {es' : Array MapEntry} (he : Es ρ es es'.toList) {r : Option (Nat × AVal)} (h : findS s es 0 = some r) :
    ∃ r' : Option (Nat × Value), (∀ w : World, (Instr.findKey kt (.string s) es'.toList).run E.P w = .ok r' w) ∧ (∀ (b : Bool) (w : World), (Instr.checkKey b 10000 kt (.string s)).run E.P w = .ok () w) ∧
      (match r, r' with
        | none, none => True
        | some (j, v), some (j', v') => j = j' ∧ R ρ v v' ∧ ∃ e, es'[j]? = some e ∧ e.key = .string s
        | _, _ => False) := by
  obtain ⟨r', h1, h2⟩ := findS_spec he h
  refine ⟨r', fun w => ?_, fun b w => ?_, ?_⟩
  · simp only [Instr.findKey, Sem.run_bind, run_und EO hk, Result.andThen_ok, h1, Sem.run_pure]
  · rw [show (10000 : Nat) = 9999 + 1 from rfl, Instr.checkKey]
    simp only [Sem.run_bind, run_und EO hk, Result.andThen_ok, Sem.run_pure]
  · cases r with
    | none => cases r' <;> exact h2
    | some x => cases r' with
      | none => exact h2
      | some y => obtain ⟨a1, a2, a3, e, a4, a5⟩ := h2; exact ⟨a1, a2, e, by simpa using a4, a5⟩
 omit w in
theorem checkInts {P : Program} {e : TypeId} {k : IntKind} (he : ∀ w : World, (underlying e).run P w = .ok (.int k) w) (hs : ∀ w : World, (sizeOf e).run P w = .ok 1 w) (ha : ∀ w : World, (isAgg e).run P w = .ok false w) (cs : Array Value) (b : Bool) (m : Nat) (w : World) :
    ∀ (l : List Nat), (∀ i ∈ l, i < cs.size) → (forIn (m := Sem) l () fun i _ => (do
      Instr.checkKey b (m + 1) e (← part e cs (i * (← sizeOf e)))
      pure (.yield ()) : Sem (ForInStep Unit))).run P w = .ok () w
  | [], _ => rfl
  | i :: l, h => by
    have hi : i < cs.size := h i (by simp)
    have hp : (part e cs i).run P w = .ok cs[i] w := by simp [part, ha, hi]
    have hc : (Instr.checkKey b (m + 1) e cs[i]).run P w = .ok () w := by
      rw [Instr.checkKey]
      simp only [Sem.run_bind, he, Result.andThen_ok]
      rfl
    simp only [List.forIn_cons, Sem.run_bind, hs, Result.andThen_ok, Nat.mul_one, hp, hc, Sem.run_pure]
    exact checkInts he hs ha cs b m w l fun j hj => h j (by simp [hj])
 include EO in
theorem findKey_none {kt : TypeId} {kv : Value} {es : List (AVal × AVal × Nat)} {es' : Array MapEntry} (he : Es ρ es es'.toList) {r : Option (Nat × AVal)} (h : findK E kt kv es = some r) :
    ∃ r' : Option (Nat × Value), (∀ w : World, (Instr.findKey kt kv es'.toList).run E.P w = .ok r' w) ∧ (∀ (b : Bool) (w : World), (Instr.checkKey b 10000 kt kv).run E.P w = .ok () w) ∧
      (match r, r' with
        | none, none => True
        | some (_, v), some (_, v') => R ρ v v'
        | _, _ => False) := by
  unfold findK at h
  split at h
  · rename_i hk _
    obtain ⟨r', h1, h2, h3⟩ := findKey_str EO hk he h
    refine ⟨r', h1, h2, ?_⟩
    cases r with
    | none => cases r' <;> exact h3
    | some x => cases r' with
      | none => exact h3
      | some y => exact h3.2.1
  · rename_i n e cs hk _
    split at h
    · rename_i k hk1 hk2 _
      cases hn : Nat.beq cs.size n with
      | false => simp [hn] at h
      | true =>
        simp only [hn, cond_true, Option.some.injEq] at h
        subst h
        have hn' := Nat.eq_of_beq_eq_true hn
        subst hn'
        have hes : es'.toList = [] := by generalize es'.toList = L at he; cases he; rfl
        refine ⟨none, fun w => ?_, fun b w => ?_, trivial⟩
        · simp only [Instr.findKey, Sem.run_bind, run_und EO hk, Result.andThen_ok, hes, Instr.findNow, Sem.run_pure]
        · rw [show (10000 : Nat) = 9998 + 1 + 1 from rfl, Instr.checkKey]
          have hag : ∀ w, (isAgg e).run E.P w = .ok false w := fun w => by
            simp only [isAgg, Sem.run_bind, run_und EO hk1, Result.andThen_ok]; rfl
          simp only [Sem.run_bind, run_und EO hk, Result.andThen_ok]
          have := checkInts (P := E.P) (fun w => run_und EO hk1 w) (fun w => run_size EO hk2 w) hag cs b 9998 w (List.range' 0 cs.size) (by simp)
          rw [Std.Legacy.Range.forIn_eq_forIn_range']
          simp only [Std.Legacy.Range.size, Nat.sub_zero, Nat.add_sub_cancel, Nat.div_one]
          rw [this]
          rfl
    · cases h
  · cases h
 include EO in
theorem run_zeroV {t : TypeId} {z : AVal} (h : zeroV E t = some z) : ∃ v, z = .lit v ∧ ∀ w : World, (zeroValue t).run E.P w = .ok v w := by
  unfold zeroV at h
  split at h
  · rename_i i hi
    split at h
    · rename_i v hv
      exact ⟨v, by simpa using h.symm, fun w => run_zero EO hi hv w⟩
    · cases h
  · cases h
 include H in
theorem entriesA_spec {x : AVal} {x' : Value} (hx : R ρ x x') {es : List (AVal × AVal × Nat)} (h : entriesA σ x = some es) (_P : Program) :
    (x' = .map none ∧ es = []) ∨ ∃ (b : Nat) (es' : Array MapEntry) (c : Nat), x' = .map (some b) ∧ w.heap[b]? = some (.map es' c) ∧ Es ρ es es'.toList := by
  unfold entriesA at h
  split at h
  · cases hx; exact .inl ⟨rfl, by simpa using h.symm⟩
  · cases hx with
    | map hp =>
    rename_i p
    split at h
    · rename_i l c hg
      simp only [Option.some.injEq] at h
      subst h
      obtain ⟨es', h1, h2⟩ := H.blk _ p _ hp hg
      exact .inr ⟨p.blk, es', c, rfl, h1, h2⟩
    · cases h
  · cases h
 include EO H in
theorem oLookup_sound {t : TypeId} {x k : AVal} {x' k' : Value} (hx : R ρ x x') (hk : R ρ k k') {ok : Bool} {r : ORes} (h : oLookup E σ t x k ok = some r) :
    OGood N0 ρ σ w r ((do pure (Next.value (← Instr.lookup t x' k' ok)) : Sem Next).run E.P w) := by
  unfold oLookup at h
  split at h
  · rename_i kt e kv es hu hkv hes
    have := litOf_spec hkv hk
    subst this
    have main : ∀ (es' : Array MapEntry), Es ρ es es'.toList → (Instr.lookup t x' k' ok).run E.P w = ((do
          Instr.checkKey es'.isEmpty 10000 kt k'
          let (v, ok') ← match ← Instr.findKey kt k' es'.toList with
            | some (_, v) => pure (v, true)
            | none => pure (← zeroValue e, false)
          pure (if ok then .tuple #[v, .bool ok'] else v) : Sem Value).run E.P w) → OGood N0 ρ σ w r ((do pure (Next.value (← Instr.lookup t x' k' ok)) : Sem Next).run E.P w) := by
      intro es' he hrun
      split at h
      · rename_i j v hf
        simp only [Option.some.injEq] at h
        subst h
        obtain ⟨r', h1, h2, h3⟩ := findKey_none EO he hf
        cases r' with
        | none => exact h3.elim
        | some y =>
          obtain ⟨j', v'⟩ := y
          have : (Instr.lookup t x' k' ok).run E.P w = .ok (if ok then .tuple #[v', .bool true] else v') w := by
            rw [hrun]; simp only [Sem.run_bind, h2, h1, Result.andThen_ok, Sem.run_pure]
          cases ok
          · exact good_of H h3 this
          · exact good_of H (.tuple (.cons h3 (.cons (.lit _) .nil))) this
      · rename_i hf
        obtain ⟨r', h1, h2, h3⟩ := findKey_none EO he hf
        cases r' with
        | some y => exact h3.elim
        | none =>
          cases hz : zeroV E e with
          | none => simp [hz] at h
          | some z =>
            simp only [hz, Option.bind_some, Option.some.injEq] at h
            subst h
            obtain ⟨v, rfl, hv⟩ := run_zeroV EO hz
            have : (Instr.lookup t x' k' ok).run E.P w = .ok (if ok then .tuple #[v, .bool false] else v) w := by
              rw [hrun]; simp only [Sem.run_bind, h2, h1, Result.andThen_ok, Sem.run_pure, hv]
            cases ok
            · exact good_of H (.lit _) this
            · exact good_of H (.tuple (.cons (.lit _) (.cons (.lit _) .nil))) this
      · cases h
    rcases entriesA_spec (w := w) H hx hes E.P with ⟨rfl, rfl⟩ | ⟨b, es', c, rfl, hb, he⟩
    · refine main #[] .nil ?_
      simp only [Instr.lookup, Sem.run_bind, run_und EO hu, Result.andThen_ok, Sem.run_pure]
      rfl
    · refine main es' he ?_
      simp only [Instr.lookup, Sem.run_bind, run_und EO hu, Result.andThen_ok, Sem.run_pure, run_getMap hb]
      rfl
  · cases h
 omit w H in
theorem Es.modify {a : List (AVal × AVal × Nat)} {l : List MapEntry} (h : Es ρ a l) (i : Nat) {k v : AVal} {k' v' : Value} (hk : R ρ k k') (hv : R ρ v v') :
    Es ρ (a.modify i fun e => (k, v, e.2.2)) (l.modify i fun e => { e with key := k', val := v' }) := by
  induction h generalizing i with
  | nil => simp; exact .nil
  | @cons k0 v0 n e0 l l' hk0 hv0 hn t ih =>
    subst hn
    cases i with
    | zero => simp only [List.modify_zero_cons]; exact .cons hk hv rfl t
    | succ i => simp only [List.modify_succ_cons]; exact .cons hk0 hv0 rfl (ih i)
 omit w H in
theorem Es.append {a b : List (AVal × AVal × Nat)} {l m : List MapEntry} (h : Es ρ a l) (k : Es ρ b m) : Es ρ (a ++ b) (l ++ m) := by
  induction h with
  | nil => simpa using k
  | cons h1 h2 h3 t ih => exact .cons h1 h2 h3 ih
theorem run_setMap {P : Program} {b : Nat} {es : Array MapEntry} {c : Nat} (h : w.heap[b]? = some (.map es c)) (es' : Array MapEntry) (c' : Nat) :
    (setObj b (.map es' c')).run P w = .ok () { w with heap := w.heap.setIfInBounds b (.map es' c') } := by
  simp [setObj, Sem.run, h]
 include EO H in
theorem oUpdate_sound {t : TypeId} {m k x : AVal} {m' k' x' : Value} (hm : R ρ m m') (hk : R ρ k k') (hx : R ρ x x') {r : ORes} (h : oUpdate E σ t m k x = some r) :
    OGood N0 ρ σ w r ((do Instr.mapUpdate t m' k' x'; pure .skip : Sem Next).run E.P w) := by
  unfold oUpdate at h
  split at h
  · rename_i kt e b s hu hkv
    have := litOf_spec hkv hk
    subst this
    cases hm with
    | map hp =>
    rename_i p
    split at h
    · rename_i es clock hkt hg
      obtain ⟨es', h1, h2⟩ := H.blk b p _ hp hg
      have hlow := (H.low _ _ hp).1
      have hlt := (H.low _ _ hp).2
      split at h
      · rename_i i v hf
        simp only [Option.some.injEq] at h
        subst h
        obtain ⟨r', f1, f2, f3⟩ := findKey_str EO hkt h2 hf
        cases r' with
        | none => exact f3.elim
        | some y =>
          obtain ⟨j, v'⟩ := y
          obtain ⟨rfl, hv, e0, he0, hek⟩ := f3
          have hput := H.put hp hg (k := .map (es.modify i fun e => (.lit (.string s), x, e.2.2)) clock) (h' := w.heap.setIfInBounds p.blk (.map (es'.modify i fun e => { e with key := .string s, val := x' }) clock)) (by simp)
            (fun y hy => by rw [Array.getElem?_setIfInBounds_ne (fun e => hy e.symm)]) ⟨es'.modify i fun e => { e with key := .string s, val := x' }, by simp [hlt], by
              rw [Array.toList_modify]; exact h2.modify i (.lit _) hx⟩
          refine ⟨ρ, Go.undef, { w with heap := w.heap.setIfInBounds p.blk (.map (es'.modify i fun e => { e with key := .string s, val := x' }) clock) }, .inr ⟨?_, rfl⟩, Ext.refl _ _, R.undef, hput, ⟨fun B hB => ?_, rfl, rfl⟩, by rw [AHeap.put_next]; omega⟩
          · have hstay : (Instr.keyThatStays (((es'[i]?).map (·.key)).getD (.string s)) (.string s)).run E.P w = .ok (.string s) w := by
              rw [he0]
              simp only [Option.map_some, Option.getD_some, hek, Instr.keyThatStays]
              have hss : Instr.sameBits (9999 + 1) (.string s) (.string s) = true := by
                unfold Instr.sameBits
                rw [ba_beq, eqBytes_eq]; simp
              rw [if_pos hss]
              rfl
            simp only [Instr.mapUpdate, Sem.run_bind, run_und EO hu, Result.andThen_ok, run_getMap h1, f2, f1, hstay, run_setMap h1, Sem.run_pure]
          · rw [Array.getElem?_setIfInBounds_ne (by omega)]
      · rename_i hf
        simp only [Option.some.injEq] at h
        subst h
        obtain ⟨r', f1, f2, f3⟩ := findKey_str EO hkt h2 hf
        cases r' with
        | some y => exact f3.elim
        | none =>
          have hput := H.put hp hg (k := .map (es ++ [(.lit (.string s), x, clock)]) (clock + 1)) (h' := w.heap.setIfInBounds p.blk (.map (es'.push { key := .string s, val := x', born := clock }) (clock + 1))) (by simp)
            (fun y hy => by rw [Array.getElem?_setIfInBounds_ne (fun e => hy e.symm)]) ⟨es'.push { key := .string s, val := x', born := clock }, by simp [hlt], by
              rw [Array.toList_push]; exact h2.append (.cons (.lit _) hx rfl .nil)⟩
          refine ⟨ρ, Go.undef, { w with heap := w.heap.setIfInBounds p.blk (.map (es'.push { key := .string s, val := x', born := clock }) (clock + 1)) }, .inr ⟨?_, rfl⟩, Ext.refl _ _, R.undef, hput, ⟨fun B hB => ?_, rfl, rfl⟩, by rw [AHeap.put_next]; omega⟩
          · simp only [Instr.mapUpdate, Sem.run_bind, run_und EO hu, Result.andThen_ok, run_getMap h1, f2, f1, run_setMap h1, Sem.run_pure]
          · rw [Array.getElem?_setIfInBounds_ne (by omega)]
      · cases h
    · cases h
  · cases h
end
end Go.Det

/-! DetO10 -/
/-! The operations: calls; and all of them. -/
namespace Go.Det
theorem find_clone {fn : Func} (h : fn.name = "maps.clone") : Extern.find fn = some Extern.MapsClone.clone := by
  unfold Extern.find
  rw [h]
  have h1 : Extern.allGenericRows.lookup "maps.clone" = none := by kernel_rfl
  have h2 : Extern.allTypedRows.lookup "maps.clone" = none := by kernel_rfl
  have h3 : Extern.allRows.lookup "maps.clone" = some Extern.MapsClone.clone := by kernel_rfl
  simp only [h1, h2, h3]
  rfl
theorem run_callFunc_in {P : Program} {f : FuncId} {fn : Func} {c : Code} (hf : P.funcs[f]? = some fn) (hname : (fn.name == "runtime.NumGoroutine") = false) (hb : fn.body = some c) (args : Array Value) (w : World) :
    (callFunc f args).run P w = .ok (.enter f args) w := by
  have h1 : fn.name ≠ "runtime.NumGoroutine" := by simpa using hname
  simp [callFunc, hf, h1, hb]
section
variable {ρ : Rho}
theorem evs_spec {T : Tm} {e : Operand → Value} : ∀ {xs : List Operand}, (∀ x ∈ xs, R ρ (ev T x) (e x)) → Rs ρ (evs T xs) (xs.map e)
  | [], _ => .nil
  | x :: l, h => .cons (h x (by simp)) (evs_spec fun y hy => h y (by simp [hy]))
theorem setAll_spec : ∀ (l : List Tmp) (vs : List AVal) (vs' : List Value) (A : Tm) (c : Array Value), TRel ρ A c → Rs ρ vs vs' →
    TRel ρ (setAll c.size A (l.zip vs)) ((l.zip vs').foldl (fun (tmps : Array Value) (x : Tmp × Value) => tmps.setIfInBounds x.1 x.2) c) ∧ ((l.zip vs').foldl (fun (tmps : Array Value) (x : Tmp × Value) => tmps.setIfInBounds x.1 x.2) c).size = c.size
  | [], vs, vs', A, c, h, hv => by simp [setAll, h]
  | t :: l, vs, vs', A, c, h, hv => by
    cases hv with
    | nil => simp [setAll, h]
    | @cons v v' m m' hv ht =>
      simp only [List.zip_cons_cons, setAll, List.foldl_cons]
      have := setAll_spec l m m' (tsetN c.size A t v) (c.setIfInBounds t v') (h.set hv t) ht
      simpa using this
end
section
variable {E : Env} (EO : EnvOk E) {N0 : Nat} {ρ : Rho} {σ : AHeap} {w : World} (H : HRel N0 ρ σ w.heap)
 include EO H
theorem callF_sound {f : FuncId} {args : List AVal} {args' : List Value} (ha : Rs ρ args args') {r : ORes} (h : callF E σ f args = some r) : OGood N0 ρ σ w r ((callFunc f ⟨args'⟩).run E.P w) := by
  unfold callF at h
  split at h
  · cases h
  · rename_i fn hfn
    have hP := EO.fn _ _ hfn
    split at h
    · rename_i c hb
      simp only [Option.some.injEq] at h
      subst h
      exact ⟨args', run_callFunc_in hP (EO.name f fn hP (by simp [hb])) hb _ w, ha⟩
    · rename_i hb
      have hname := EO.ext f fn hP hb
      have hb' : fn.body.isNone = true := by simp [hb]
      split at h
      · cases h
      · rename_i hnx
        have hnx' : Extern.findNext fn = none := by simpa using hnx
        split at h
        · rename_i hcl
          have hcl' : fn.name = "maps.clone" := by simpa using hcl
          split at h
          · rename_i t r0
            cases ha with
            | @cons _ v' _ l' hv ht =>
            cases ht
            cases hv with
            | iface hv =>
            cases hv with
            | map hp =>
            rename_i p
            split at h
            · rename_i es clock hg
              obtain ⟨es', h1, h2⟩ := H.blk r0 p _ hp hg
              split at h
              · rename_i b σ1 hn
                simp only [Option.some.injEq] at h
                subst h
                have := good_new (k := .map es clock) (mk := fun b => .iface t (.map b)) (r := .val (.iface t (.map b)) σ1) H (by simp [newO, hn]) (o := .map es' clock) (ext := 0) (mk' := fun b => .iface t (.map (some b)))
                  (fun ρ' hle => ⟨es', by simp, h2.mono hle⟩) (fun ρ' b _ hb => .iface (.map hb)) (w1 := { w with heap := w.heap.push (.map es' clock) }) (q := (callFunc f #[.iface t (.map (some p.blk))]).run E.P w) rfl
                  (by
                    rw [run_callFunc_extern hP hname hb' hnx' (find_clone hcl')]
                    have e0 : Extern.MapsClone.clone #[.iface t (.map (some p.blk))] = (getObj p.blk >>= fun o => match o with
                      | .map entries clock => (newObj (.map entries clock) >>= fun n => pure (.iface t (.map (some n))))
                      | _ => stuck "maps.clone: a map expected") := rfl
                    rw [e0]
                    simp only [Sem.run_bind, run_getMap h1, Result.andThen_ok, run_newObj, Sem.run_pure])
                exact this
              · cases h
            · cases h
          · cases h
        · split at h
          · rename_i e l hfe hl
            split at h
            · rename_i v hv
              simp only [Option.some.injEq] at h
              subst h
              have := lits_spec hl ha
              subst this
              refine good_pure H (.lit v) ?_
              rw [run_callFunc_extern hP hname hb' hnx' hfe, pv_spec hv w]
              rfl
            · cases h
          · cases h
theorem callV_sound {f : AVal} {f' : Value} (hf : R ρ f f') {args : List AVal} {args' : List Value} (ha : Rs ρ args args') {r : ORes} (h : callV E σ f args = some r) :
    OGood N0 ρ σ w r ((do let d ← Deferred.ofValue f' ⟨args'⟩; invoke d.target d.args : Sem Next).run E.P w) := by
  unfold callV at h
  split at h
  · rename_i g first captured
    cases hf
    have := callF_sound EO H (((Rs.of_lits (ρ := ρ) first.toList).append ha).append (Rs.of_lits captured.toList)) h
    simp only [Deferred.ofValue, pure_bind, invoke]
    have e : (first ++ (⟨args'⟩ : Array Value) ++ captured) = ⟨first.toList ++ args' ++ captured.toList⟩ := by
      apply Array.ext'; simp
    rw [e]; exact this
  · rename_i g first captured
    cases hf with
    | @fn _ _ _ a' c' hfi hca =>
    have := callF_sound EO H ((hfi.append ha).append hca) h
    simp only [Deferred.ofValue, pure_bind, invoke]
    have e : ((⟨a'⟩ : Array Value) ++ (⟨args'⟩ : Array Value) ++ ⟨c'⟩) = ⟨a' ++ args' ++ c'⟩ := by
      apply Array.ext'; simp
    rw [e]; exact this
  · rename_i l
    cases hf with
    | yield hp =>
    rename_i p
    split at h
    · rename_i st pend fn n tmps params assign body d hg
      split at h
      · rename_i hlen
        simp only [Option.some.injEq] at h
        subst h
        obtain ⟨c, q, h1, h2, h3, h4⟩ := H.blk l p _ hp hg
        subst h3
        have hl := ha.length
        obtain ⟨s1, s2⟩ := setAll_spec params.toList args args' tmps c h2 ha
        have hfold : (params.zip (⟨args'⟩ : Array Value)).foldl (fun tmps (t, a) => tmps.setIfInBounds t a) c = (params.toList.zip args').foldl (fun (tmps : Array Value) (x : Tmp × Value) => tmps.setIfInBounds x.1 x.2) c := by
          rw [← Array.foldl_toList]; simp
        refine ⟨p, _, hp, ?_, s1, s2⟩
        have hgl : (Instr.getLoop p.blk).run E.P w = .ok ⟨st, pend, fn, c, params, assign, body, q.blk⟩ w := by
          simp [Instr.getLoop, getObj, Sem.run, h1]
        simp only [Deferred.ofValue, pure_bind, invoke, Instr.yield, Array.empty_append]
        rw [Sem.run_bind, hgl]
        simp only [Result.andThen_ok]
        rw [if_neg (by simp; omega)]
        simp only [hfold]
        rfl
      · cases h
    · cases h
  · cases h
theorem builtinA_sound {b : Builtin} {argTypes : Array TypeId} {ty : TypeId} {cs : Array Bool} {args : List AVal} {args' : List Value} (ha : Rs ρ args args') {r : ORes} (h : builtinA E σ b argTypes args = some r) :
    OGood N0 ρ σ w r ((builtin b argTypes ty cs ⟨args'⟩).run E.P w) := by
  unfold builtinA at h
  split at h
  · rename_i s x
    cases ha with | cons hs ht =>
    cases ht with | cons hx ht =>
    cases ht
    split at h
    · rename_i v σ1 hap
      simp only [Option.some.injEq] at h
      subst h
      exact (appendA_sound EO H (ty := ty) hs hx hap).good
    · cases h
  · rename_i s x
    cases ha with | cons hs ht =>
    cases ht with | cons hx ht =>
    cases ht
    split at h
    · rename_i v σ1 hap
      simp only [Option.some.injEq] at h
      subst h
      exact (copyA_sound EO H (ty := ty) hs hx hap).good
    · cases h
  · rename_i x
    cases ha with | cons hx ht =>
    cases ht
    split at h
    · rename_i σ1 hap
      simp only [Option.some.injEq] at h
      subst h
      exact (clearA_sound EO H (ty := ty) hx hap).good
    · cases h
  · rename_i x
    cases ha with | @cons _ x' _ _ hx ht =>
    cases ht
    have e1 : (#[x'] : Array Value)[0]? = some x' := rfl
    split at h
    · rename_i t ht
      have good : ∀ n : Int, r = .val (.lit (goInt n)) σ → (Builtin.len_ argTypes ty #[x']).run E.P w = .ok (goInt n) w → OGood N0 ρ σ w r ((builtin .len argTypes ty cs #[x']).run E.P w) := by
        intro n hr hrun
        subst hr
        exact good_of H (.lit _) hrun
      split at h
      · rename_i s hu
        cases hx
        simp only [Option.some.injEq] at h
        refine good _ h.symm ?_
        simp only [Builtin.len_, ht, e1, Sem.run_bind, run_und EO hu, Result.andThen_ok, Sem.run_pure]
        rfl
      · rename_i n e hu
        simp only [Option.some.injEq] at h
        refine good _ h.symm ?_
        simp only [Builtin.len_, ht, e1, Sem.run_bind, run_und EO hu, Result.andThen_ok, Sem.run_pure]
      · rename_i hu
        cases hx
        simp only [Option.some.injEq] at h
        refine good _ h.symm ?_
        simp only [Builtin.len_, ht, e1, Sem.run_bind, run_und EO hu, Result.andThen_ok, Sem.run_pure]
      · rename_i hu
        obtain ⟨p, off, C, rfl, hp, hml, hlC, hex, hoff, hb, hxx⟩ := R.sl_inv hx
        simp only [Option.some.injEq] at h
        refine good _ h.symm ?_
        simp only [Builtin.len_, ht, e1, Sem.run_bind, run_und EO hu, Result.andThen_ok, Sem.run_pure]
      · rename_i hu
        cases hx
        simp only [Option.some.injEq] at h
        refine good _ h.symm ?_
        simp only [Builtin.len_, ht, e1, Sem.run_bind, run_und EO hu, Result.andThen_ok, Sem.run_pure]
      · rename_i hu
        cases hx with | map hp =>
        rename_i p
        split at h
        · rename_i es c hg
          obtain ⟨es', h1, h2⟩ := H.blk _ p _ hp hg
          simp only [Option.some.injEq] at h
          refine good _ h.symm ?_
          simp only [Builtin.len_, ht, e1, Sem.run_bind, run_und EO hu, Result.andThen_ok, Sem.run_pure, run_getMap h1, h2.length, Array.length_toList]
        · cases h
      · cases h
    · cases h
  · cases hl : lits args with
    | none => simp [hl] at h
    | some l =>
      simp only [hl, Option.bind_some] at h
      have := lits_spec hl ha
      subst this
      cases hv : pv E.P (Builtin.max_ argTypes 0 ⟨args'⟩) with
      | none => simp [hv] at h
      | some v =>
        simp only [hv, Option.bind_some, Option.some.injEq] at h
        subst h
        exact good_of H (.lit _) (pv_spec hv w)
  · cases hl : lits args with
    | none => simp [hl] at h
    | some l =>
      simp only [hl, Option.bind_some] at h
      have := lits_spec hl ha
      subst this
      cases hv : pv E.P (Builtin.min_ argTypes 0 ⟨args'⟩) with
      | none => simp [hv] at h
      | some v =>
        simp only [hv, Option.bind_some, Option.some.injEq] at h
        subst h
        exact good_of H (.lit _) (pv_spec hv w)
  · simp only [Option.some.injEq] at h
    subst h
    rfl
  · cases h
theorem oCall_sound {T : Tm} {e : Operand → Value} {c : Call} {ty : TypeId} (he : ∀ x ∈ c.operands, R ρ (ev T x) (e x)) {r : ORes} (h : oCall E T σ c = some r) :
    OGood N0 ρ σ w r ((do let d ← resolve e c ty; invoke d.target d.args : Sem Next).run E.P w) := by
  unfold oCall at h
  have hargs : Rs ρ (evs T c.args.toList) (c.args.toList.map e) := evs_spec fun x hx => he x (by simp [Call.operands]; right; simpa using hx)
  have hm : c.args.map e = ⟨c.args.toList.map e⟩ := by apply Array.ext'; simp
  split at h
  · rename_i f hf
    have := callV_sound EO H (he f (by simp [Call.operands, hf])) hargs h
    simp only [resolve, hf, hm]
    exact this
  · rename_i b hf
    have := builtinA_sound EO H (ty := ty) (cs := c.args.map fun | .const _ => true | _ => false) hargs h
    simp only [resolve, hf, hm, pure_bind, invoke]
    exact this
  · cases h
 omit EO H in
theorem oDefer_sound {T : Tm} {e : Operand → Value} {c : Call} {ty : TypeId} (he : ∀ x ∈ c.operands, R ρ (ev T x) (e x)) {r : ORes} (h : oDefer T c = some r) :
    OGood N0 ρ σ w r ((do pure (Next.defer (← resolve e c ty)) : Sem Next).run E.P w) := by
  unfold oDefer at h
  have hargs : Rs ρ (evs T c.args.toList) (c.args.toList.map e) := evs_spec fun x hx => he x (by simp [Call.operands]; right; simpa using hx)
  have hm : c.args.map e = ⟨c.args.toList.map e⟩ := by apply Array.ext'; simp
  split at h
  · rename_i f hf
    have hfr := he f (by simp [Call.operands, hf])
    split at h
    · rename_i fn first captured hv
      rw [hv] at hfr
      simp only [Option.some.injEq] at h
      subst h
      generalize hef : e f = v at hfr
      cases hfr
      refine ⟨{ target := .fn fn ⟨captured.toList⟩, args := ⟨first.toList ++ c.args.toList.map e⟩ }, ?_, .call (Rs.of_lits _) ((Rs.of_lits _).append hargs)⟩
      have e0 : (first ++ (⟨c.args.toList.map e⟩ : Array Value)) = ⟨first.toList ++ c.args.toList.map e⟩ := by apply Array.ext'; simp
      simp only [resolve, hf, hef, hm, Deferred.ofValue, pure_bind, Sem.run_pure, e0]
    · rename_i fn first captured hv
      rw [hv] at hfr
      simp only [Option.some.injEq] at h
      subst h
      generalize hef : e f = v at hfr
      cases hfr with
      | @fn _ _ _ a' c' hfi hca =>
      refine ⟨{ target := .fn fn ⟨c'⟩, args := ⟨a' ++ c.args.toList.map e⟩ }, ?_, .call hca (hfi.append hargs)⟩
      have e0 : ((⟨a'⟩ : Array Value) ++ (⟨c.args.toList.map e⟩ : Array Value)) = ⟨a' ++ c.args.toList.map e⟩ := by apply Array.ext'; simp
      simp only [resolve, hf, hef, hm, Deferred.ofValue, pure_bind, Sem.run_pure, e0]
    · cases h
  · cases h
end
end Go.Det

/-! DetO11 -/
/-! All operations. -/
namespace Go.Det
section
variable {E : Env} (EO : EnvOk E) {N0 : Nat} {ρ : Rho} {σ : AHeap} {w : World} (H : HRel N0 ρ σ w.heap)
 omit EO H in
theorem optR {T : Tm} {e : Operand → Value} {x : Option Operand} (h : ∀ y, x = some y → R ρ (ev T y) (e y)) : OptR ρ (optev T x) (x.map e) := by
  cases x with
  | none => exact trivial
  | some y => exact h y rfl
 include EO H in
theorem dop_sound {T : Tm} {e : Operand → Value} {o : Oper} (he : ∀ x ∈ o.op.operands, R ρ (ev T x) (e x)) {r : ORes} (h : dop E T o σ = some r) : OGood N0 ρ σ w r ((execOp e o).run E.P w) := by
  obtain ⟨dst, op, ty, pos, after, guard⟩ := o
  cases op with
  | move x =>
    have h : some (ORes.val (ev T x) σ) = some r := h
    simp only [Option.some.injEq] at h
    subst h
    exact good_pure H (he x (by simp [Op.operands])) rfl
  | assign x =>
    have h : some (ORes.val (ev T x) σ) = some r := h
    simp only [Option.some.injEq] at h
    subst h
    exact good_pure H (he x (by simp [Op.operands])) rfl
  | pick c a b => exact oPick_sound H (he c (by simp [Op.operands])) (he a (by simp [Op.operands])) (he b (by simp [Op.operands])) h
  | alloc t => exact oAlloc_sound EO H h
  | box t x => exact oBox_sound H (he x (by simp [Op.operands])) h
  | build t parts =>
    obtain ⟨v, hv, rfl⟩ := valO_spec h
    have hpr : ∀ l : List (Nat × Operand), (∀ p ∈ l, R ρ (ev T p.2) (e p.2)) → (partsA T l).map (·.1) = (l.map fun (i, x) => (i, e x)).map (·.1) ∧ Rs ρ ((partsA T l).map (·.2)) ((l.map fun (i, x) => (i, e x)).map (·.2)) := by
      intro l
      induction l with
      | nil => intro _; exact ⟨rfl, .nil⟩
      | cons p l ih =>
        intro hl
        obtain ⟨h1, h2⟩ := ih fun q hq => hl q (by simp [hq])
        refine ⟨by simp only [partsA, List.map_cons]; rw [h1], .cons (hl p (by simp)) h2⟩
    obtain ⟨h1, h2⟩ := hpr parts.toList fun p hp => he p.2 (by simp [Op.operands]; exact ⟨p.1, by simpa using hp⟩)
    obtain ⟨v', h3, h4⟩ := buildA_sound EO (parts' := parts.map fun (i, x) => (i, e x)) (by rw [Array.toList_map]; exact h1) (by rw [Array.toList_map]; exact h2) hv
    exact good_of H h4 h3
  | buildSlice t n parts =>
    have h : oBslice E T σ t n parts = some r := h
    unfold oBslice at h
    cases hs : sliceLit E T t n parts.toList with
    | none => simp [hs] at h
    | some y =>
      obtain ⟨cs, s⟩ := y
      simp only [hs, Option.bind_some] at h
      have h1 : parts.toList.map (·.1) = (parts.map fun (i, x) => (i, e x)).toList.map (·.1) := by simp
      have h2 : Rs ρ (parts.toList.map fun p => ev T p.2) ((parts.map fun (i, x) => (i, e x)).toList.map (·.2)) := by
        have hpr : ∀ l : List (Nat × Operand), (∀ p ∈ l, R ρ (ev T p.2) (e p.2)) → Rs ρ (l.map fun p => ev T p.2) ((l.map fun (i, x) => (i, e x)).map (·.2)) := by
          intro l
          induction l with
          | nil => intro _; exact .nil
          | cons p l ih => intro hl; exact .cons (hl p (by simp)) (ih fun q hq => hl q (by simp [hq]))
        rw [Array.toList_map]
        exact hpr _ fun p hp => he p.2 (by simp [Op.operands]; exact ⟨p.1, by simpa using hp⟩)
      obtain ⟨c, el, k1, k2, k3⟩ := sliceLit_sound (w := w) EO h1 h2 hs
      exact good_slit H (by
        show ((do pure (Next.value (← Instr.buildSlice t n (parts.map fun (i, x) => (i, e x)))) : Sem Next)).run E.P w = _
        rw [Sem.run_bind, k1]; rfl) k2 k3 h
  | insert t m k x => exact oUpdate_sound EO H (he m (by simp [Op.operands])) (he k (by simp [Op.operands])) (he x (by simp [Op.operands])) h
  | load t a =>
    obtain ⟨v, hv, rfl⟩ := valO_spec h
    obtain ⟨v', h1, h2⟩ := loadA_sound EO H (he a (by simp [Op.operands])) hv
    exact good_of H h2 h1
  | store t a x => exact oStore_sound EO H (he a (by simp [Op.operands])) (he x (by simp [Op.operands])) h
  | ready g => cases h
  | waits g => cases h
  | nilCheck x => exact oNil_sound H (he x (by simp [Op.operands])) h rfl rfl
  | binOp op t x y l =>
    obtain ⟨v, hv, rfl⟩ := valO_spec h
    obtain ⟨v', h1, h2⟩ := binA_sound EO (he x (by simp [Op.operands])) (he y (by simp [Op.operands])) hv
    exact good_of H h2 h1
  | unOp op t x => exact oUn_sound H (he x (by simp [Op.operands])) h
  | convert s d x =>
    have h : oConv E σ s d (ev T x) = some r := h
    unfold oConv at h
    cases hc : convA E σ s d (ev T x) with
    | none => simp [hc] at h
    | some y =>
      obtain ⟨v, σ'⟩ := y
      simp only [hc, Option.bind_some, Option.some.injEq] at h
      subst h
      exact (convA_sound EO H (he x (by simp [Op.operands])) hc).good
  | sliceToArrayPointer t x => cases h
  | makeInterface t x => exact oIface_sound EO H (he x (by simp [Op.operands])) h
  | makeFunc f first captured =>
    have h : some (ORes.val (.fn f (evs T first.toList) (evs T captured.toList)) σ) = some r := h
    simp only [Option.some.injEq] at h
    subst h
    have h1 : Rs ρ (evs T first.toList) (first.toList.map e) := evs_spec fun x hx => he x (by simp [Op.operands]; left; simpa using hx)
    have h2 : Rs ρ (evs T captured.toList) (captured.toList.map e) := evs_spec fun x hx => he x (by simp [Op.operands]; right; simpa using hx)
    refine good_pure H (.fn h1 h2) ?_
    have e1 : ∀ a : Array Operand, a.map e = ⟨a.toList.map e⟩ := fun a => by apply Array.ext'; simp
    simp [execOp, Instr.makeFunc, e1]
  | makeMap t x =>
    refine oMap_sound EO H (x' := x.map e) ?_ h
    have := optR (x := x) (T := T) (e := e) fun y hy => he y (by simp [Op.operands, hy])
    cases x <;> exact this
  | makeChan t x => cases h
  | makeSlice t l c => exact oMake_sound EO H (he l (by simp [Op.operands])) (he c (by simp [Op.operands])) h
  | slice t x lo hi mx =>
    exact oSlice_sound EO H (he x (by simp [Op.operands])) (optR fun y hy => he y (by simp [Op.operands, hy])) (optR fun y hy => he y (by simp [Op.operands, hy])) (optR fun y hy => he y (by simp [Op.operands, hy])) h
  | fieldAddr t x f => exact oFaddr_sound EO H (he x (by simp [Op.operands])) h
  | field t x f => exact oField_sound EO H (he x (by simp [Op.operands])) h
  | indexAddr t x i => exact oIaddr_sound EO H (he x (by simp [Op.operands])) (he i (by simp [Op.operands])) h
  | index t x i => exact oIndex_sound EO H (he x (by simp [Op.operands])) (he i (by simp [Op.operands])) h
  | lookup t x k ok => exact oLookup_sound EO H (he x (by simp [Op.operands])) (he k (by simp [Op.operands])) h
  | mapUpdate t m k x => exact oUpdate_sound EO H (he m (by simp [Op.operands])) (he k (by simp [Op.operands])) (he x (by simp [Op.operands])) h
  | mapEntry t m k => cases h
  | entryStore t m k x => cases h
  | range t x => exact oRange_sound EO H (he x (by simp [Op.operands])) h
  | next it s => exact oNext_sound H (he it (by simp [Op.operands])) h
  | entry it => exact oEntry_sound H (he it (by simp [Op.operands])) h
  | typeAssert x xt t ok => exact oAssert_sound EO H (he x (by simp [Op.operands])) h
  | extract x i => exact oExtract_sound H (he x (by simp [Op.operands])) h
  | call c => exact oCall_sound EO H he h
  | go c => cases h
  | defer c => exact oDefer_sound he h
  | panic x => cases h
  | send a b => cases h
  | recv a b c => cases h
  | select a b => cases h
end
end Go.Det

/-! DetS1 -/
/-! Orders: bits, what lies ahead, schedules. -/
namespace Go.Det
theorem getD_none' (l : List Nat) {n : Nat} (h : l.length ≤ n) : l.getD n 0 = 0 := by simp [List.getD_eq_getElem?_getD, List.getElem?_eq_none h]
theorem hasBit_tb (m i : Nat) : hasBit m i = m.testBit i := by
  have e : hasBit m i = Nat.beq ((m >>> i) % 2) 1 := by
    show Nat.beq ((m >>> i) &&& 1) 1 = _
    rw [Nat.and_one_is_mod]
  rw [e, Nat.testBit_eq_decide_div_mod_eq, Nat.shiftRight_eq_div_pow]
  rw [Bool.eq_iff_iff]
  simp
theorem hasBit_or (a b i : Nat) : hasBit (a ||| b) i = (hasBit a i || hasBit b i) := by simp [hasBit_tb]
theorem hasBit_lor (a b i : Nat) : hasBit (Nat.lor a b) i = (hasBit a i || hasBit b i) := hasBit_or a b i
theorem hasBit_bit (i j : Nat) : hasBit (bit i) j = decide (i = j) := by
  rw [hasBit_tb]
  show (1 <<< i).testBit j = _
  simp [Nat.one_shiftLeft, Nat.testBit_two_pow]
theorem hasBit_zero (i : Nat) : hasBit 0 i = false := by simp [hasBit_tb]
theorem within_spec {m done : Nat} (h : within m done = true) (i : Nat) (hi : hasBit m i = true) : hasBit done i = true := by
  have h : m &&& done = m := Nat.eq_of_beq_eq_true h
  rw [hasBit_tb] at *
  rw [← h, Nat.testBit_and] at hi
  simp at hi
  exact hi.2
theorem within_of {m done : Nat} (h : ∀ i, hasBit m i = true → hasBit done i = true) : within m done = true := by
  show Nat.beq (m &&& done) m = true
  rw [beq_if]
  apply Nat.eq_of_testBit_eq
  intro i
  rw [Nat.testBit_and]
  simp only [hasBit_tb] at h
  cases hm : m.testBit i with
  | false => rfl
  | true => rw [h i hm]; rfl
theorem depMask_mem : ∀ {l : List Edge} {e : Edge}, e ∈ l → Region.binds .any e = true → hasBit (depMask l) e.on = true
  | a :: l, e, h, hb => by
    simp only [depMask]
    cases h with
    | head => simp only [hb, if_true, hasBit_lor, hasBit_bit]; simp
    | tail _ h =>
      have ih := depMask_mem h hb
      split
      · rw [hasBit_lor, ih]; simp
      · exact ih
theorem depMask_of : ∀ {l : List Edge} {j : Nat}, hasBit (depMask l) j = true → ∃ e ∈ l, Region.binds .any e = true ∧ e.on = j
  | [], j, h => by simp [depMask, hasBit_zero] at h
  | a :: l, j, h => by
    simp only [depMask] at h
    split at h
    · rename_i hb
      rw [hasBit_lor, Bool.or_eq_true, hasBit_bit] at h
      rcases h with h | h
      · exact ⟨a, by simp, hb, by simpa using h⟩
      · obtain ⟨e, he, h1, h2⟩ := depMask_of h; exact ⟨e, by simp [he], h1, h2⟩
    · obtain ⟨e, he, h1, h2⟩ := depMask_of h; exact ⟨e, by simp [he], h1, h2⟩

/-- What an operation waits for lies in X. -/
def Deps (X : Nat → Bool) (o : Oper) : Prop := ∀ e ∈ o.after, Region.binds .any e = true → X e.on = true
def Closed (ops : Array Oper) (X : Nat → Bool) : Prop := ∀ (i : Nat) (o : Oper), X i = true → ops[i]? = some o → Deps X o
def upX (X : Nat → Bool) (i : Nat) : Nat → Bool := fun j => if j = i then true else X j
theorem upX_same (X : Nat → Bool) (i : Nat) : upX X i i = true := by simp [upX]
theorem upX_le {X : Nat → Bool} {i j : Nat} (h : X j = true) : upX X i j = true := by simp only [upX]; split <;> simp [h]
theorem upX_ne {X : Nat → Bool} {i j : Nat} (h : j ≠ i) : upX X i j = X j := by simp [upX, h]
theorem upX_cases {X : Nat → Bool} {i j : Nat} (h : upX X i j = true) : j = i ∨ X j = true := by
  by_cases e : j = i
  · exact .inl e
  · rw [upX_ne e] at h; exact .inr h
theorem Deps.mono {X Y : Nat → Bool} (hle : ∀ j, X j = true → Y j = true) {o : Oper} (h : Deps X o) : Deps Y o := fun e he hb => hle _ (h e he hb)
theorem Closed.up {ops : Array Oper} {X : Nat → Bool} (h : Closed ops X) {i : Nat} (hd : ∀ o, ops[i]? = some o → Deps X o) : Closed ops (upX X i) := by
  intro j o hj ho
  refine Deps.mono (fun _ => upX_le) ?_
  rcases upX_cases hj with rfl | hj
  · exact hd o ho
  · exact h j o hj ho
/-- Its mask lists no more than what is in X. -/
def MaskOk (ops : Array Oper) (i m : Nat) : Prop := ∀ X, Closed ops X → (∀ o, ops[i]? = some o → Deps X o) → ∀ j, hasBit m j = true → X j = true
theorem closeMask_ok {ops : Array Oper} {acc : List Nat} (ha : ∀ k, k < acc.length → MaskOk ops k (acc.getD k 0)) {X : Nat → Bool} (hX : Closed ops X) :
    ∀ {l : List Edge}, (∀ e ∈ l, Region.binds .any e = true → X e.on = true) → ∀ j, hasBit (closeMask acc l) j = true → X j = true
  | [], _, j, h => by simp [closeMask, hasBit_zero] at h
  | e :: l, hl, j, h => by
    have ih := closeMask_ok ha hX (l := l) fun e he => hl e (by simp [he])
    simp only [closeMask] at h
    split at h
    · rename_i hb
      rw [hasBit_lor, hasBit_lor, Bool.or_eq_true, Bool.or_eq_true] at h
      rcases h with (h | h) | h
      · have : e.on = j := by simpa [hasBit_bit] using h
        subst this
        exact hl e (by simp) hb
      · by_cases hk : e.on < acc.length
        · exact ha e.on hk X hX (fun o ho => hX e.on o (hl e (by simp) hb) ho) j h
        · rw [getD_none' _ (by omega), hasBit_zero] at h; cases h
      · exact ih j h
    · exact ih j h
theorem befores_ok {ops : Array Oper} : ∀ (l : List Oper) (acc : List Nat) (p : List Oper), ops.toList = p ++ l → acc.length = p.length → (∀ k, k < acc.length → MaskOk ops k (acc.getD k 0)) →
    ∀ k, k < (befores l acc).length → MaskOk ops k ((befores l acc).getD k 0)
  | [], acc, p, _, _, ha, k, hk => ha k hk
  | o :: l, acc, p, hp, hl, ha, k, hk => by
    simp only [befores] at hk ⊢
    refine befores_ok l (acc ++ [closeMask acc o.after.toList]) (p ++ [o]) (by simp [hp]) (by simp [hl]) (fun k hk => ?_) k hk
    simp only [List.length_append, List.length_cons, List.length_nil] at hk
    by_cases hk' : k < acc.length
    · have : (acc ++ [closeMask acc o.after.toList]).getD k 0 = acc.getD k 0 := by
        simp [List.getD_eq_getElem?_getD, List.getElem?_append_left hk']
      rw [this]; exact ha k hk'
    · have hke : k = acc.length := by omega
      subst hke
      have : (acc ++ [closeMask acc o.after.toList]).getD acc.length 0 = closeMask acc o.after.toList := by
        simp [List.getD_eq_getElem?_getD]
      rw [this]
      intro X hX hd j hj
      have ho : ops[acc.length]? = some o := by
        rw [← Array.getElem?_toList, hp, hl, List.getElem?_append_right (Nat.le_refl _)]; simp
      exact closeMask_ok ha hX (fun e he hb => hd o ho e (by simpa using he) hb) j hj
theorem bs_ok {ops : Array Oper} (i : Nat) : MaskOk ops i ((befores ops.toList []).getD i 0) := by
  by_cases h : i < (befores ops.toList []).length
  · exact befores_ok ops.toList [] [] (by simp) rfl (fun k hk => by simp at hk) i h
  · intro X hX hd j hj
    rw [getD_none' _ (by omega), hasBit_zero] at hj; cases hj

theorem getO_eq {α : Type} (a : Array α) (i : Nat) : getO a i = a[i]? := by
  rw [← Array.getElem?_toList]
  unfold getO
  generalize a.toList = l
  induction l generalizing i with
  | nil => rfl
  | cons x l ih => cases i with
    | zero => rfl
    | succ i => rw [List.getElem?_cons_succ]; exact ih i
theorem firstReady_nil (done : Nat) (p : Oper → Bool) (i : Nat) : firstReady done p [] i = none := rfl
theorem firstReady_cons (done : Nat) (p : Oper → Bool) (o : Oper) (l : List Oper) (i : Nat) : firstReady done p (o :: l) i = if (!hasBit done i && within (depMask o.after.toList) done && p o) = true then some i else firstReady done p l (i + 1) := by
  show @Bool.rec (fun _ => Option Nat) (@Bool.rec (fun _ => Option Nat) (firstReady done p l (i + 1)) (@Bool.rec (fun _ => Option Nat) (firstReady done p l (i + 1)) (some i) (p o)) (within (depMask o.after.toList) done)) (firstReady done p l (i + 1)) (hasBit done i) = _
  cases hasBit done i <;> cases within (depMask o.after.toList) done <;> cases p o <;> rfl
theorem firstReady_some {done : Nat} {p : Oper → Bool} : ∀ {l : List Oper} {i j : Nat}, firstReady done p l i = some j →
    i ≤ j ∧ ∃ o, l[j - i]? = some o ∧ hasBit done j = false ∧ within (depMask o.after.toList) done = true ∧ p o = true
  | [], i, j, h => by rw [firstReady_nil] at h; cases h
  | o :: l, i, j, h => by
    rw [firstReady_cons] at h
    split at h
    · rename_i hc
      simp only [Option.some.injEq] at h
      subst h
      simp only [Bool.and_eq_true, Bool.not_eq_true'] at hc
      exact ⟨Nat.le_refl _, o, by simp, hc.1.1, hc.1.2, hc.2⟩
    · obtain ⟨h1, o', h2, h3⟩ := firstReady_some h
      refine ⟨by omega, o', ?_, h3⟩
      rw [show j - i = (j - (i + 1)) + 1 by omega]
      simpa using h2
theorem firstReady_none {done : Nat} {p : Oper → Bool} : ∀ {l : List Oper} {i : Nat}, firstReady done p l i = none →
    ∀ k o, l[k]? = some o → hasBit done (i + k) = true ∨ within (depMask o.after.toList) done = false ∨ p o = false
  | [], i, h, k, o, ho => by simp at ho
  | a :: l, i, h, k, o, ho => by
    rw [firstReady_cons] at h
    split at h
    · cases h
    · rename_i hc
      cases k with
      | zero =>
        simp at ho
        subst ho
        simp only [Bool.and_eq_true, Bool.not_eq_true', not_and, Bool.not_eq_true] at hc
        simp only [Nat.add_zero]
        cases h1 : hasBit done i with
        | true => exact .inl rfl
        | false =>
          cases h2 : within (depMask a.after.toList) done with
          | false => exact .inr (.inl rfl)
          | true => exact .inr (.inr (hc ⟨h1, h2⟩))
      | succ k =>
        have := firstReady_none h k o (by simpa using ho)
        rwa [show i + 1 + k = i + (k + 1) by omega] at this

/-- A schedule: what is left, each behind what it waits for; at the end all is there. -/
def Topo (ops : Array Oper) : (Nat → Bool) → List Nat → Prop
  | X, [] => ∀ i, i < ops.size → X i = true
  | X, i :: r => X i = false ∧ i < ops.size ∧ (∀ o, ops[i]? = some o → Deps X o) ∧ Topo ops (upX X i) r
theorem getD_ft {listed : Array Bool} {i : Nat} (h : i < listed.size) : listed.getD i true = listed.getD i false := by simp [h]
theorem all_listed {ops : Array Oper} (hform : ∀ (i : Nat) (o : Oper), ops[i]? = some o → ∀ e ∈ o.after, Region.binds .any e = true → e.on < i) {listed : Array Bool} (hs : listed.size = ops.size) (h : Region.ready .any ops listed = []) :
    ∀ i, i < ops.size → listed.getD i false = true := by
  intro i
  induction i using Nat.strongRecOn with
  | _ i ih =>
    intro hi
    cases hc : listed.getD i false with
    | true => rfl
    | false =>
      have : i ∈ Region.ready .any ops listed := by
        refine mem_ready.2 ⟨by rw [getD_ft (by omega)]; exact hc, ops[i], by simp [hi], fun e he hb => ?_⟩
        have hlt := hform i ops[i] (by simp [hi]) e he hb
        exact ih e.on hlt (by omega)
      rw [h] at this; cases this
theorem filter_drop {l : List Nat} {p q : Nat → Bool} {i : Nat} (hi : i ∈ l) (hp : p i = true) (hq : ∀ j, q j = (p j && j != i)) : (l.filter q).length < (l.filter p).length := by
  have e : l.filter q = (l.filter p).filter (fun j => j != i) := by
    rw [List.filter_filter]
    congr 1
    funext j
    rw [hq, Bool.and_comm]
  rw [e]
  refine List.length_filter_lt_length_iff_exists.2 ⟨i, List.mem_filter.2 ⟨hi, hp⟩, by simp⟩
/-- The machine's list of what is listed, as a set. -/
theorem topo_go {ops : Array Oper} (hform : ∀ (i : Nat) (o : Oper), ops[i]? = some o → ∀ e ∈ o.after, Region.binds .any e = true → e.on < i) :
    ∀ (fuel t : Nat) (listed : Array Bool), listed.size = ops.size → ((List.range ops.size).filter fun i => !listed.getD i true).length ≤ fuel →
      Topo ops (fun i => listed.getD i false) (Region.linearise.go .any ops fuel t listed [])
  | 0, t, listed, hs, hf => by
    intro i hi
    have h0 : ((List.range ops.size).filter fun i => !listed.getD i true) = [] := List.eq_nil_of_length_eq_zero (by omega)
    have := List.filter_eq_nil_iff.1 h0 i (by simpa using hi)
    rw [getD_ft (by omega)] at this
    simpa using this
  | fuel + 1, t, listed, hs, hf => by
    simp only [Region.linearise.go]
    change Topo ops _ (match (Region.ready .any ops listed)[t % (Region.ready .any ops listed).length]? with
      | some i => Region.linearise.go .any ops fuel (t / (Region.ready .any ops listed).length) (listed.setIfInBounds i true) [i]
      | none => [].reverse)
    cases hi : (Region.ready .any ops listed)[t % (Region.ready .any ops listed).length]? with
    | none =>
      have hnil : Region.ready .any ops listed = [] := by
        cases hr : Region.ready .any ops listed with
        | nil => rfl
        | cons x xs =>
          rw [hr] at hi
          have hlt : t % (x :: xs).length < (x :: xs).length := Nat.mod_lt _ (by simp)
          rw [List.getElem?_eq_none_iff] at hi
          omega
      exact all_listed hform hs hnil
    | some i =>
      simp only []
      rw [linearise_go_acc, List.reverse_singleton, List.singleton_append]
      have hm := List.mem_of_getElem? hi
      obtain ⟨h1, o, ho, h2⟩ := mem_ready.1 hm
      have hlt : i < ops.size := (Array.getElem?_eq_some_iff.1 ho).1
      have hset : (fun j => (listed.setIfInBounds i true).getD j false) = upX (fun j => listed.getD j false) i := by
        funext j
        by_cases hj : j = i
        · subst hj; rw [upX_same]; simp [hs, hlt]
        · rw [upX_ne hj, getD_set_ne false (fun e => hj e.symm)]
      refine ⟨by show listed.getD i false = false; rw [← getD_ft (by omega)]; exact h1, hlt, fun o' ho' e he hb => ?_, ?_⟩
      · rw [ho] at ho'; cases ho'; exact h2 e he hb
      · rw [← hset]
        refine topo_go hform fuel _ _ (by simpa using hs) ?_
        have := filter_drop (l := List.range ops.size) (p := fun i => !listed.getD i true) (q := fun j => !(listed.setIfInBounds i true).getD j true) (i := i) (by simpa using hlt) (by simp only [h1]; rfl) (fun j => by
          by_cases hj : j = i
          · subst hj; simp [hs, hlt]
          · rw [getD_set_ne true (fun e => hj e.symm)]; simp [hj])
        omega
theorem topo_schedule {ops : Array Oper} (hform : ∀ (i : Nat) (o : Oper), ops[i]? = some o → ∀ e ∈ o.after, Region.binds .any e = true → e.on < i) (t : Nat) :
    Topo ops (fun _ => false) (Region.schedule true ops t) := by
  have := topo_go hform ops.size t (Array.replicate ops.size false) (by simp) (by
    have := List.length_filter_le (fun i => !(Array.replicate ops.size false).getD i true) (List.range ops.size)
    simpa using this)
  have e : (fun i => (Array.replicate ops.size false).getD i false) = fun _ => false := by
    funext i
    simp only [Array.getD_eq_getD_getElem?, Array.getElem?_replicate]
    split <;> rfl
  rw [e] at this
  simpa [Region.schedule, Region.linearise] using this
end Go.Det

/-! DetS2 -/
/-! A drawn region: what our state says of the machine's. -/
namespace Go.Det
theorem eqI_of {a b : Int} (h : (a == b) = true) : a = b := by simpa using h
theorem eqV_eq : ∀ {a b : Value}, eqV a b = true → a = b := by
  intro a b h
  unfold eqV at h
  split at h
  · simp only [beq_iff_eq] at h; rw [h]
  · simp only [Bool.and_eq_true, decide_eq_true_eq, beq_iff_eq] at h; rw [h.1, h.2]
  · rw [ba_eq h]
  · rfl
  · simp only [Bool.and_eq_true, beq_iff_eq] at h; rw [h.1, h.2]
  · rfl
  · rfl
  · rfl
  · rename_i f a b f' a' b'
    simp only [Bool.and_eq_true, beq_iff_eq, Array.isEmpty_iff] at h
    obtain ⟨⟨⟨⟨h1, h2⟩, h3⟩, h4⟩, h5⟩ := h
    subst h1 h2 h3 h4 h5; rfl
  · simp only [Bool.and_eq_true, Array.isEmpty_iff] at h; rw [h.1, h.2]
  · cases h
theorem eqVs_eq : ∀ {a b : List Value}, eqVs a b = true → a = b
  | [], [], _ => rfl
  | x :: a, y :: b, h => by
    simp only [eqVs, Bool.and_eq_true] at h
    rw [eqV_eq h.1, eqVs_eq h.2]
  | [], _ :: _, h => by simp [eqVs] at h
  | _ :: _, [], h => by simp [eqVs] at h
theorem eqV1_eq {a b : Value} (h : eqV1 a b = true) : a = b := by
  unfold eqV1 at h
  split at h
  · rw [Array.toList_inj.1 (eqVs_eq h)]
  · rw [Array.toList_inj.1 (eqVs_eq h)]
  · exact eqV_eq h
mutual
theorem eqA_eq : ∀ (n : Nat) (a b : AVal), eqA n a b = true → a = b := by
  intro n a b h
  unfold eqA at h
  split at h
  · rw [eqV1_eq h]
  · simp only [Bool.and_eq_true, beq_iff_eq] at h; rw [h.1, h.2]
  · simp only [Bool.and_eq_true, beq_iff_eq] at h
    obtain ⟨⟨⟨⟨⟨h1, h2⟩, h3⟩, h4⟩, h5⟩, h6⟩ := h
    subst h1 h2 h3 h4 h5 h6; rfl
  · simp only [beq_iff_eq] at h; rw [h]
  · simp only [beq_iff_eq] at h; rw [h]
  · rename_i n f x y f' x' y'
    simp only [Bool.and_eq_true, beq_iff_eq] at h
    rw [h.1.1, eqAs_eq n _ _ h.1.2, eqAs_eq n _ _ h.2]
  · rename_i n t v t' v'
    simp only [Bool.and_eq_true, beq_iff_eq] at h
    rw [h.1, eqA_eq n _ _ h.2]
  · rename_i n _ _; rw [eqAs_eq n _ _ h]
  · rename_i n _ _; rw [eqAs_eq n _ _ h]
  · cases h
theorem eqAs_eq : ∀ (n : Nat) (a b : List AVal), eqAs n a b = true → a = b := by
  intro n a b h
  unfold eqAs at h
  split at h
  · rfl
  · cases h
  · rename_i n a l b l'
    simp only [Bool.and_eq_true] at h
    rw [eqA_eq n _ _ h.1, eqAs_eq n _ _ h.2]
  · cases h
end

def isBA : AVal → Option Bool | .lit (.bool b) => some b | _ => none
def isBV : Value → Option Bool | .bool b => some b | _ => none
theorem isB_eq {ρ : Rho} {a : AVal} {v : Value} (h : R ρ a v) : isBA a = isBV v := by
  cases h <;> first | rfl | (cases v <;> rfl)
theorem guardA_eq (ops : Array Oper) (T : Tm) (j : Nat) (want : Bool) : guardA ops T j want = match (ops[j]?).bind (·.dst) with | some d => isBA (tget T d) == some want | none => false := by
  unfold guardA
  rw [getO_eq]
  split
  · rename_i d hd
    rw [hd]
    show _ = (isBA (tget T d) == some want)
    rw [tget_eq]
    split
    · rename_i b hb; rw [hb]; simp [isBA]
    · rename_i h
      cases hT : T.get d with
      | none => rfl
      | some a =>
        have : isBA a = none := by
          unfold isBA
          split
          · rename_i b; exact absurd hT (by rintro e; exact h b (by rw [e]))
          · rfl
        simp [this]
  · rename_i hd; rw [hd]
theorem wanted_eq {ρ : Rho} {ops : Array Oper} {T : Tm} {tmps : Array Value} {o : Oper} (h : ∀ d ∈ o.looksAt ops, R ρ (tget T d) (tmps.getD d Go.undef)) :
    wantedA ops T o = Region.wanted o (yielded ops tmps) := by
  unfold wantedA Region.wanted
  cases hg : o.guard with
  | none => rfl
  | some g =>
    obtain ⟨j, want⟩ := g
    show guardA ops T j want = (yielded ops tmps j == some want)
    rw [guardA_eq]
    unfold yielded
    cases hd : (ops[j]?).bind (·.dst) with
    | none => rfl
    | some d =>
      have hr := h d (by simp [Oper.looksAt, hg, hd])
      have e := isB_eq hr
      simp only [Option.bind_some]
      rw [e, Array.getD_eq_getD_getElem?]
      cases ht : tmps[d]? with
      | none => rfl
      | some v => cases v <;> rfl

theorem memN_of {d : Nat} : ∀ {l : List Nat}, d ∈ l → memN d l = true
  | a :: l, h => by
    show @Bool.rec (fun _ => Bool) (memN d l) true (Nat.beq a d) = true
    rw [bool_if]
    cases h with
    | head => simp
    | tail _ h => split <;> first | rfl | exact memN_of h
section
variable {E : Env}
theorem namesOk_spec {bs : List Nat} {i : Nat} {names : List Tmp} {dst : Option Tmp} : ∀ {l : List Oper} {j0 : Nat}, namesOk E bs i names dst l j0 = true →
    ∀ (k : Nat) (p : Oper) (d : Tmp), l[k]? = some p → p.dst = some d → d ∈ names → hasBit (bs.getD i 0) (j0 + k) = true ∨ (loudOp E p = true)
  | [], j0, h, k, p, d, hk, _, _ => by simp at hk
  | a :: l, j0, h, k, p, d, hk, hd, hm => by
    simp only [namesOk, Bool.and_eq_true] at h
    cases k with
    | zero =>
      simp at hk
      subst hk
      have h1 := h.1
      rw [hd] at h1
      have hc : memN d names = true := memN_of hm
      simp only [hc, cond_true, Bool.and_eq_true, Bool.or_eq_true] at h1
      rcases h1 with h2 | h2
      · exact .inl h2
      · exact .inr h2.1
    | succ k =>
      have := namesOk_spec h.2 k p d (by simpa using hk) hd hm
      rwa [show j0 + 1 + k = j0 + (k + 1) by omega] at this
theorem formOk_spec {ops : Array Oper} {bs : List Nat} : ∀ {l : List Oper} {i0 : Nat}, formOk E ops bs l i0 = true → ∀ (k : Nat) (o : Oper), l[k]? = some o →
    (∀ e ∈ o.after, Region.binds .any e = true → e.on < i0 + k) ∧ (∀ cs b, o.op ≠ .select cs b) ∧ namesOk E bs (i0 + k) (o.looksAt ops) o.dst ops.toList 0 = true
  | [], i0, h, k, o, hk => by simp at hk
  | a :: l, i0, h, k, o, hk => by
    simp only [formOk, Bool.and_eq_true] at h
    cases k with
    | zero =>
      simp at hk
      subst hk
      refine ⟨fun e he hb => ?_, fun cs b hs => ?_, by simpa using h.1.2⟩
      · have h1 := List.all_eq_true.1 h.1.1.1 e (by simpa using he)
        simp only [hb, Bool.not_true, Bool.false_or] at h1
        rw [Nat.blt_eq] at h1
        simpa using h1
      · have h1 := h.1.1.2
        rw [hs] at h1; cases h1
    | succ k =>
      have := formOk_spec h.2 k o (by simpa using hk)
      rwa [show i0 + 1 + k = i0 + (k + 1) by omega] at this

structure DRel (E : Env) (ρ : Rho) (T : Tm) (tmps : Array Value) (ops : Array Oper) (bs : List Nat) (done settled : Nat) (early : List (Nat × Nat)) (X : Nat → Bool) (rest : List Nat) : Prop where
  hbs : bs = befores ops.toList []
  form : formOk E ops bs ops.toList 0 = true
  size : tmps.size ≤ 1000000
  sub : ∀ i, X i = true → hasBit done i = true
  set : ∀ i, hasBit settled i = true → X i = true
  closed : Closed ops X
  quiet : ∀ (i : Nat) (o : Oper), hasBit done i = true → X i = false → ops[i]? = some o → loudOp E o = false
  topo : Topo ops X rest
  out : ∀ t, tmps.size ≤ t → R ρ (tget T t) Go.undef
  tm : ∀ t, (∀ (i : Nat) (o : Oper), hasBit done i = true → X i = false → ops[i]? = some o → o.dst ≠ some t) → R ρ (tget T t) (tmps.getD t Go.undef)
  pend : ∀ p ∈ early, X p.1 = false → ρ p.2 = none
variable {ρ : Rho} {T : Tm} {tmps : Array Value} {ops : Array Oper} {bs : List Nat} {done settled : Nat} {early : List (Nat × Nat)} {X : Nat → Bool} {rest : List Nat}
/-- What an operation looks at is told alike, once what it waits for is done. -/
theorem DRel.names (D : DRel E ρ T tmps ops bs done settled early X rest) {i : Nat} {o : Oper} (ho : ops[i]? = some o) (hd : Deps X o) : ∀ d ∈ o.looksAt ops, R ρ (tget T d) (tmps.getD d Go.undef) := by
  intro d hm
  refine D.tm d fun j p hj hx hp hdst => ?_
  have h1 := (formOk_spec D.form i o (by simpa using ho)).2.2
  rcases namesOk_spec h1 j p d (by simpa using hp) hdst hm with h2 | h2
  · have := bs_ok (ops := ops) i X D.closed (fun o' ho' => by rw [ho] at ho'; cases ho'; exact hd) j (by rw [← D.hbs]; simpa using h2)
    rw [this] at hx; cases hx
  · rw [D.quiet j p hj hx hp] at h2; cases h2
theorem DRel.evals (D : DRel E ρ T tmps ops bs done settled early X rest) {i : Nat} {o : Oper} (ho : ops[i]? = some o) (hd : Deps X o) {ds : List Deferred} : ∀ x ∈ o.op.operands, R ρ (ev T x) ((⟨tmps, ds⟩ : Act).eval x) := by
  intro x hx
  cases x with
  | tmp t =>
    exact D.names ho hd t (List.mem_append_left _ (List.mem_filterMap.2 ⟨.tmp t, by simpa using hx, rfl⟩))
  | const v => exact .lit v
  | global g => exact .lit _
  | func f => exact .lit _
theorem DRel.wanted (D : DRel E ρ T tmps ops bs done settled early X rest) {i : Nat} {o : Oper} (ho : ops[i]? = some o) (hd : Deps X o) : wantedA ops T o = Region.wanted o (yielded ops tmps) :=
  wanted_eq (D.names ho hd)
end
end Go.Det

/-! DetS3 -/
/-! A drawn region: the machine catches up. -/
namespace Go.Det
section
variable {E : Env} (EO : EnvOk E) {N0 : Nat} {ρ : Rho} {σ : AHeap} {w : World} (H : HRel N0 ρ σ w.heap)
 include EO in
theorem fresh_sound {T : Tm} {e : Operand → Value} {o : Oper} (he : ∀ x ∈ o.op.operands, R ρ (ev T x) (e x)) {k : ABlk} {mk : Nat → AVal} (h : fresh E T o = some (k, mk)) :
    ∃ (obj : Obj) (ext : Nat) (mk' : Nat → Value) (w1 : World), (w1.heap = w.heap.push obj ∧ w1.os = w.os ∧ w1.output = w.output) ∧ (execOp e o).run E.P w = .ok (.value (mk' w.heap.size)) w1 ∧
      (∀ ρ', ρ.le ρ' → BRel ρ' k ⟨w.heap.size, 0, ext⟩ (w.heap.push obj)) ∧ (∀ ρ' b, ρ.le ρ' → ρ' b = some ⟨w.heap.size, 0, ext⟩ → R ρ' (mk b) (mk' w.heap.size)) := by
  obtain ⟨dst, op, ty, pos, after, guard⟩ := o
  unfold fresh at h
  split at h
  · rename_i elem hop
    simp only at hop
    subst hop
    cases hz : zeroA E elem with
    | none => simp [hz] at h
    | some z =>
      simp only [hz, Option.map_some, Option.some.injEq, Prod.mk.injEq] at h
      obtain ⟨rfl, rfl⟩ := h
      obtain ⟨v, hv, rfl⟩ := run_zeroA EO hz w
      refine ⟨.cells v.cells elem, v.cells.size, fun b => .pointer (some ⟨b, 0, none⟩), { w with heap := w.heap.push (.cells v.cells elem) }, ⟨rfl, rfl, rfl⟩, ?_, fun ρ' _ => brel_new' (Rs.of_lits _), fun ρ' b hle hb => ?_⟩
      · simp [execOp, Instr.alloc, hv, newVar, newRow]
      · have := R.ptr (ρ := ρ') (i := 0) hb; simpa using this
  · rename_i elem x hop
    simp only at hop
    subst hop
    simp only [Option.some.injEq, Prod.mk.injEq] at h
    obtain ⟨rfl, rfl⟩ := h
    refine ⟨.cells (e x).cells elem, (e x).cells.size, fun b => .pointer (some ⟨b, 0, none⟩), { w with heap := w.heap.push (.cells (e x).cells elem) }, ⟨rfl, rfl, rfl⟩, ?_, fun ρ' hle => brel_new' ((cellsOf_spec (he x (by simp [Op.operands]))).mono hle), fun ρ' b hle hb => ?_⟩
    · simp [execOp, Instr.box, newVar, newRow]
    · have := R.ptr (ρ := ρ') (i := 0) hb; simpa using this
  · rename_i t n parts hop
    simp only at hop
    subst hop
    cases hs : sliceLit E T t n parts.toList with
    | none => simp [hs] at h
    | some y =>
      obtain ⟨cs, s⟩ := y
      simp only [hs, Option.map_some, Option.some.injEq, Prod.mk.injEq] at h
      obtain ⟨rfl, rfl⟩ := h
      have h1 : parts.toList.map (·.1) = (parts.map fun (i, x) => (i, e x)).toList.map (·.1) := by simp
      have h2 : Rs ρ (parts.toList.map fun p => ev T p.2) ((parts.map fun (i, x) => (i, e x)).toList.map (·.2)) := by
        have hpr : ∀ l : List (Nat × Operand), (∀ p ∈ l, R ρ (ev T p.2) (e p.2)) → Rs ρ (l.map fun p => ev T p.2) ((l.map fun (i, x) => (i, e x)).map (·.2)) := by
          intro l
          induction l with
          | nil => intro _; exact .nil
          | cons p l ih => intro hl; exact .cons (hl p (by simp)) (ih fun q hq => hl q (by simp [hq]))
        rw [Array.toList_map]
        exact hpr _ fun p hp => he p.2 (by simp [Op.operands]; exact ⟨p.1, by simpa using hp⟩)
      obtain ⟨c, el, k1, k2, k3⟩ := sliceLit_sound (w := w) EO h1 h2 hs
      refine ⟨.cells c el, c.size, fun b => .slice (some ⟨b, 0, none⟩) n n, { w with heap := w.heap.push (.cells c el) }, ⟨rfl, rfl, rfl⟩, ?_, fun ρ' hle => brel_new' (k2.mono hle), fun ρ' b hle hb => ?_⟩
      · show ((do pure (Next.value (← Instr.buildSlice t n (parts.map fun (i, x) => (i, e x)))) : Sem Next)).run E.P w = _
        rw [Sem.run_bind, k1]; rfl
      · exact R.sl (off := 0) (C := n) hb (Nat.le_refl _) (Nat.le_refl _) (fun _ => rfl) (fun _ => rfl) (Nat.le_refl _) (by simp only [Nat.zero_add]; omega)
  · cases h
end
/-- Quiet operations leave our memory alone. -/
theorem quiet_same {E : Env} {T : Tm} {o : Oper} {σ σ' : AHeap} {v : AVal} (hq : quietOp E o.op = true) (h : dop E T o σ = some (.val v σ')) : σ' = σ := by
  obtain ⟨dst, op, ty, pos, after, guard⟩ := o
  have hval : ∀ {x : Option AVal}, valO σ x = some (.val v σ') → σ' = σ := by
    intro x hx
    obtain ⟨u, _, h2⟩ := valO_spec hx
    cases h2; rfl
  have hsome : ∀ {x : AVal}, some (ORes.val x σ) = some (.val v σ') → σ' = σ := by
    intro x hx
    cases hx; rfl
  cases op with
  | move x => exact hsome h
  | pick c a b =>
    have h : oPick (ev T c) (ev T a) (ev T b) σ = some (.val v σ') := h
    unfold oPick at h
    split at h
    · unfold pickV at h
      split at h
      · exact hsome h
      · cases h
    · cases h
  | build t p => exact hval h
  | load t x => exact hval h
  | nilCheck x =>
    have h : oNil (ev T x) σ = some (.val v σ') := h
    unfold oNil at h
    split at h
    · rename_i y hy
      cases hn : nilV y with
      | true => simp [hn] at h
      | false => simp only [hn, cond_false] at h; exact hsome h
    · split at h
      · cases h
      · exact hsome h
    · exact hsome h
  | binOp op t x y l => exact hval h
  | unOp op t x =>
    have h : oUn E op (ev T x) σ = some (.val v σ') := h
    unfold oUn at h
    split at h
    · rename_i y hy
      cases hp : pv E.P (Op.unary op y) with
      | none => simp [hp] at h
      | some u => simp only [hp, Option.bind_some] at h; exact hsome h
    · cases h
  | makeInterface t x =>
    have h : oIface E t (ev T x) σ = some (.val v σ') := h
    unfold oIface at h
    split at h
    · cases h
    · cases h
    · exact hsome h
  | makeFunc f a b => exact hsome h
  | slice t x lo hi mx =>
    have h : oSlice E σ t (ev T x) (optev T lo) (optev T hi) (optev T mx) = some (.val v σ') := h
    unfold oSlice at h
    split at h
    · split at h
      · rename_i hh _ _ _
        revert h
        generalize boundA _ 0 hh = q
        cases q with
        | none => intro h; cases h
        | some l => intro h; exact hsome h
      · cases h
    · split at h
      · split at h
        · cases h
        · exact hsome h
      · cases h
    · exact hval h
  | fieldAddr t x f =>
    have h : oFaddr E σ t (ev T x) f = some (.val v σ') := h
    unfold oFaddr at h
    split at h
    · split at h
      · exact hval h
      · cases h
    · cases h
  | field t x f =>
    have h : oField E σ t (ev T x) f = some (.val v σ') := h
    unfold oField at h
    split at h
    · split at h
      · revert h
        generalize aggOf _ = q
        cases q with
        | none => intro h; cases h
        | some l => intro h; exact hval h
      · cases h
    · cases h
  | indexAddr t x i =>
    have h : oIaddr E σ t (ev T x) (ev T i) = some (.val v σ') := h
    unfold oIaddr at h
    split at h
    · exact hval h
    · cases h
  | index t x i =>
    have h : oIndex E σ t (ev T x) (ev T i) = some (.val v σ') := h
    unfold oIndex at h
    split at h
    · split at h
      · exact hval h
      · cases h
    · rename_i n e k _ _
      revert h
      generalize aggOf _ = q
      cases q with
      | none => intro h; cases h
      | some l =>
        cases hs : szOf E e with
        | none => intro h; simp at h
        | some s =>
          simp only [Option.bind_some]
          intro h
          split at h
          · exact hval h
          · cases h
    · cases h
  | lookup t x k ok =>
    have h : oLookup E σ t (ev T x) (ev T k) ok = some (.val v σ') := h
    unfold oLookup at h
    split at h
    · split at h
      · exact hsome h
      · rename_i e _ _ _ _ _ _ _
        revert h
        generalize zeroV E _ = q
        cases q with
        | none => intro h; cases h
        | some l => intro h; exact hsome h
      · cases h
    · cases h
  | extract x i =>
    have h : oExtract σ (ev T x) i = some (.val v σ') := h
    unfold oExtract at h
    split at h
    · exact hval h
    · exact hval h
    · cases h
  | convert s d x =>
    have h : oConv E σ s d (ev T x) = some (.val v σ') := h
    unfold oConv at h
    cases hc : convA E σ s d (ev T x) with
    | none => simp [hc] at h
    | some y =>
      obtain ⟨u, σ2⟩ := y
      simp only [hc, Option.bind_some] at h
      have h2 : σ' = σ2 := by cases h; rfl
      subst h2
      unfold convA at hc
      split at hc
      · cases hc; rfl
      · cases hc; rfl
      · have hd : ∃ e, und E d = some (.slice e) := ⟨_, by assumption⟩
        obtain ⟨e, hd⟩ := hd
        simp [quietOp, hd] at hq
      · split at hc
        · cases hc; rfl
        · cases hc
      · split at hc
        · split at hc
          · revert hc
            generalize loadRow _ _ _ _ = q
            cases q with
            | none => intro h; cases h
            | some l =>
              simp only [Option.bind_some]
              generalize bytesOfA l = q
              cases q with
              | none => intro h; cases h
              | some l => intro h; cases h; rfl
          · cases hc
        · cases hc
      · cases hc
      · split at hc
        · cases hc; rfl
        · cases hc
      · cases hc
  | call c =>
    obtain ⟨callee, args, argTypes⟩ := c
    cases callee with
    | value f => simp [quietOp] at hq
    | invoke r m => simp [quietOp] at hq
    | builtin b =>
      have h : builtinA E σ b argTypes (evs T args.toList) = some (.val v σ') := h
      have lit1 : ∀ {α : Type} {q : Option α} {f : α → Option ORes}, (∀ a, f a = some (.val v σ') → σ' = σ) → q.bind f = some (.val v σ') → σ' = σ := by
        intro α q f hf hq
        cases q with
        | none => cases hq
        | some a => exact hf a hq
      cases b <;> first | (simp [quietOp] at hq; done) | skip
      all_goals
        unfold builtinA at h
        split at h <;> first | (rename_i hb _; cases hb; done) | (rename_i hb; cases hb; done) | (cases h; done) | skip
      all_goals first | exact lit1 (fun _ h => lit1 (fun _ h => hsome h) h) h | ((repeat' split at h) <;> first | exact hsome h | cases h)
  | _ => simp [quietOp] at hq

/-- What 'allStill' says. -/
theorem allStill_spec {E : Env} {ops : Array Oper} {r : DR} {settled : Nat} : ∀ {l : List Oper} {i0 : Nat}, allStill E ops r settled l i0 = true → ∀ k, k < l.length →
    hasBit r.done (i0 + k) = true → hasBit settled (i0 + k) = false → stillFloat E ops r.T r.σ r.early (i0 + k) = true
  | [], i0, h, k, hk, _, _ => by simp at hk
  | a :: l, i0, h, k, hk, h1, h2 => by
    simp only [allStill, Bool.and_eq_true] at h
    cases k with
    | zero =>
      have h3 := h.1
      simp only [Nat.add_zero] at h1 h2 ⊢
      simpa [h1, h2] using h3
    | succ k =>
      rw [show i0 + (k + 1) = i0 + 1 + k by omega] at h1 h2 ⊢
      exact allStill_spec h.2 k (by simpa using hk) h1 h2
theorem lookup_mem {l : List (Nat × Nat)} {i b : Nat} (h : l.lookup i = some b) : (i, b) ∈ l := by
  induction l with
  | nil => simp at h
  | cons p l ih =>
    obtain ⟨j, c⟩ := p
    simp only [List.lookup_cons] at h
    cases hj : (i == j) with
    | true => simp only [hj, Option.some.injEq] at h; subst h; simp at hj; subst hj; simp
    | false => simp only [hj] at h; exact List.mem_cons_of_mem _ (ih h)
theorem snd_inj {l : List (Nat × Nat)} (hn : (l.map (·.2)).Nodup) {p q : Nat × Nat} (hp : p ∈ l) (hq : q ∈ l) (h : p.2 = q.2) : p = q := by
  induction l with
  | nil => cases hp
  | cons a l ih =>
    simp only [List.map_cons, List.nodup_cons] at hn
    cases hp with
    | head =>
      cases hq with
      | head => rfl
      | tail _ hq => exact absurd (List.mem_map.2 ⟨q, hq, h.symm⟩) hn.1
    | tail _ hp =>
      cases hq with
      | head => exact absurd (List.mem_map.2 ⟨p, hp, h⟩) hn.1
      | tail _ hq => exact ih hn.2 hp hq
section
variable {E : Env} (EO : EnvOk E) {N0 : Nat} {ρ : Rho} {σ : AHeap} {w : World} {T : Tm} {ops : Array Oper} {bs : List Nat} {done settled : Nat} {early : List (Nat × Nat)}
/-- The frame's words once operation i has its value. -/
theorem DRel.up {tmps : Array Value} {X : Nat → Bool} {i : Nat} {rest : List Nat} (D : DRel E ρ T tmps ops bs done settled early X (i :: rest)) {o : Oper} (ho : ops[i]? = some o) (hi : hasBit done i = true)
    {ρ' : Rho} (hle : ρ.le ρ') {v' : Value} (hv : ∀ d, o.dst = some d → R ρ' (tget T d) v') (hp : ∀ p ∈ early, upX X i p.1 = false → ρ' p.2 = none) :
    DRel E ρ' T ((⟨tmps, []⟩ : Act).put o.dst v').tmps ops bs done settled early (upX X i) rest := by
  obtain ⟨t1, t2, t3, t4⟩ := D.topo
  have hsz : ((⟨tmps, []⟩ : Act).put o.dst v').tmps.size = tmps.size := by cases o.dst <;> simp [Act.put]
  refine ⟨D.hbs, D.form, by rw [hsz]; exact D.size, fun j hj => ?_, fun j hj => upX_le (D.set j hj), D.closed.up t3, fun j p hj hx hp => ?_, t4, fun t ht => (D.out t (by rw [← hsz]; exact ht)).mono hle, fun t ht => ?_, hp⟩
  · rcases upX_cases hj with rfl | hj
    · exact hi
    · exact D.sub j hj
  · by_cases e : j = i
    · subst e; rw [upX_same] at hx; cases hx
    · rw [upX_ne e] at hx; exact D.quiet j p hj hx hp
  · by_cases hd : o.dst = some t
    · rw [hd]
      by_cases hlt : t < tmps.size
      · simp only [Act.put]; rw [getD_set_same _ _ _ hlt]; exact hv t hd
      · have hge : tmps.size ≤ t := Nat.le_of_not_lt hlt
        have : ((⟨tmps, []⟩ : Act).put (some t) v').tmps.getD t Go.undef = Go.undef := by
          simp only [Act.put]
          rw [Array.getD_eq_getD_getElem?, Array.getElem?_eq_none (by simpa using hge)]; rfl
        rw [this]
        exact (D.out t hge).mono hle
    · have hold : R ρ (tget T t) (tmps.getD t Go.undef) := D.tm t fun j q hj hx hq => by
        by_cases e : j = i
        · subst e; rw [ho] at hq; cases hq; exact hd
        · exact ht j q hj (by rw [upX_ne e]; exact hx) hq
      have : ((⟨tmps, []⟩ : Act).put o.dst v').tmps.getD t Go.undef = tmps.getD t Go.undef := by
        cases hdst : o.dst with
        | none => rfl
        | some d => simp only [Act.put]; exact getD_set_ne' _ _ _ _ (fun e => hd (by rw [hdst, e]))
      rw [this]; exact hold.mono hle
theorem Act.put_tmps (tmps : Array Value) (ds : List Deferred) (dst : Option Tmp) (v : Value) : (⟨tmps, ds⟩ : Act).put dst v = ⟨((⟨tmps, []⟩ : Act).put dst v).tmps, ds⟩ := by cases dst <;> rfl
 include EO in
/-- The machine executes one that is done already with us. -/
theorem catch_one (still : ∀ i, i < ops.size → hasBit done i = true → hasBit settled i = false → stillFloat E ops T σ early i = true) (hnd : (early.map (·.2)).Nodup) (hlt : ∀ p ∈ early, p.2 < σ.next)
    {b : Frame} {ds : List Deferred} {k' : List Item} {cs : List Frame} {tmps : Array Value} {X : Nat → Bool} {i : Nat} {rest : List Nat}
    (D : DRel E ρ T tmps ops bs done settled early X (i :: rest)) (hi : hasBit done i = true) (H : HRel N0 ρ σ w.heap) :
    ∃ (ρ' : Rho) (tmps' : Array Value) (w' : World), Steps E.P (lone (b.atR ⟨tmps, ds⟩ (.inRegion ops (i :: rest) :: k')) cs w) (lone (b.atR ⟨tmps', ds⟩ (.inRegion ops rest :: k')) cs w') ∧
      DRel E ρ' T tmps' ops bs done settled early (upX X i) rest ∧ tmps'.size = tmps.size ∧ HRel N0 ρ' σ w'.heap ∧ Kept N0 w w' ∧ ρ.le ρ' ∧ (∀ x, x ∉ early.map (·.2) → x < σ.next → ρ' x = ρ x) := by
  obtain ⟨t1, t2, t3, t4⟩ := D.topo
  have hset : hasBit settled i = false := by
    cases hs : hasBit settled i with
    | false => rfl
    | true => have := D.set i hs; rw [t1] at this; cases this
  have hst := still i t2 hi hset
  obtain ⟨o, ho⟩ : ∃ o, ops[i]? = some o := ⟨ops[i], by simp [t2]⟩
  have hdep := t3 o ho
  have hw := D.wanted ho hdep
  have hev := D.evals ho hdep (ds := ds)
  have hsz : ∀ v', ((⟨tmps, []⟩ : Act).put o.dst v').tmps.size = tmps.size := fun v' => by cases o.dst <;> simp [Act.put]
  unfold stillFloat at hst
  rw [getO_eq, ho] at hst
  dsimp only at hst
  cases hwt : wantedA ops T o with
  | false =>
    rw [hwt] at hst
    simp only [Bool.not_false, if_true] at hst
    refine ⟨ρ, ((⟨tmps, []⟩ : Act).put o.dst Go.undef).tmps, w, .one ?_, D.up ho hi ρ.le_refl (fun d hd => ?_) (fun p hp hx => ?_), hsz _, H, Kept.refl _ _, ρ.le_refl, fun _ _ _ => rfl⟩
    · have := stepR_op_skip (P := E.P) (b := b) (a := ⟨tmps, ds⟩) (k := k') (cs := cs) (w := w) (ops := ops) (i := i) (rest := rest) (by simp only [ho, Option.map_some, Option.getD_some]; rw [← hw]; exact hwt)
      simp only [ho, Option.bind_some] at this
      rw [this, Act.put_tmps]
    · rw [hd] at hst
      rw [eqA_eq _ _ _ hst]; exact R.undef
    · by_cases e : p.1 = i
      · rw [e, upX_same] at hx; cases hx
      · rw [upX_ne e] at hx; exact D.pend p hp hx
  | true =>
    rw [hwt] at hst
    have hstep : ∀ {v' : Value} {w' : World}, ((execOp (⟨tmps, ds⟩ : Act).eval o).run E.P w = .ok (.value v') w' ∨ ((execOp (⟨tmps, ds⟩ : Act).eval o).run E.P w = .ok .skip w' ∧ v' = Go.undef)) → (∀ c, o.op ≠ .defer c) →
        Steps E.P (lone (b.atR ⟨tmps, ds⟩ (.inRegion ops (i :: rest) :: k')) cs w) (lone (b.atR ⟨((⟨tmps, []⟩ : Act).put o.dst v').tmps, ds⟩ (.inRegion ops rest :: k')) cs w') := by
      intro v' w' hr hnd
      refine .one (step_lone_go ?_)
      have hg := stepGR_op (P := E.P) (b := b) (a := ⟨tmps, ds⟩) (k := k') (cs := cs) (w := w) (rest := rest) ho (by rw [← hw]; exact hwt)
      have hfin := Frame.finish_atR b ⟨tmps, ds⟩ ops i rest k' v'
      rw [ho] at hfin
      rw [hg, Oper.semAt_eq _ _ _ hnd, ← Act.put_tmps]
      simp only [Option.bind_some] at hfin
      rw [← hfin]
      rcases hr with hr | ⟨hr, rfl⟩
      · simp [stepG.apply, hr]
      · simp [stepG.apply, hr]
    simp only [Bool.not_true, Bool.false_eq_true, if_false] at hst
    split at hst
    · rename_i kb mk hf
      split at hst
      · rename_i bid cs0 hlk
        have hmem := lookup_mem hlk
        have hno := D.pend _ hmem t1
        simp only [Bool.and_eq_true] at hst
        obtain ⟨hst1, hst2⟩ := hst
        split at hst1
        · rename_i cs1 hg
          have heq := eqAs_eq _ _ _ hst1
          subst heq
          obtain ⟨obj, ext, mk', w1, f1, f2, f3, f4⟩ := fresh_sound (w := w) EO hev hf
          have hle := ρ.le_upd (b := bid) ⟨w.heap.size, 0, ext⟩ hno
          have hpl := H.place hg hno (f3 _ hle)
          refine ⟨ρ.upd bid ⟨w.heap.size, 0, ext⟩, _, w1, hstep (.inl f2) (fun c hc => ?_), D.up ho hi hle (fun d hd => ?_) (fun p hp hx => ?_), hsz _, by rw [f1.1]; exact hpl, ⟨fun B hB => ?_, f1.2.1, f1.2.2⟩, hle, fun x hx _ => ?_⟩
          · simp [fresh, hc] at hf
          · rw [hd] at hst2
            rw [eqA_eq _ _ _ hst2]; exact f4 _ _ hle (Rho.upd_same _ _ _)
          · by_cases e : p.1 = i
            · rw [e, upX_same] at hx; cases hx
            · rw [upX_ne e] at hx
              rw [Rho.upd_ne]
              · exact D.pend p hp hx
              · intro hpe
                have := snd_inj hnd hp hmem hpe
                rw [this] at e; exact e rfl
          · rw [f1.1, Array.getElem?_push, if_neg (by have := H.roof; omega)]
          · rw [Rho.upd_ne]
            intro e
            exact hx (by rw [e]; exact List.mem_map.2 ⟨_, hmem, rfl⟩)
        · cases hst1
      · cases hst
    · rename_i hf
      simp only [Bool.and_eq_true] at hst
      obtain ⟨hq, hst⟩ := hst
      split at hst
      · rename_i v σ1 hd
        have hsame := quiet_same hq hd
        subst hsame
        obtain ⟨ρ', v', w', hr, hext, hrv, H', hkept, hnx⟩ := dop_sound EO H hev hd
        refine ⟨ρ', _, w', hstep hr (fun c hc => ?_), D.up ho hi hext.1 (fun d hd => ?_) (fun p hp hx => ?_), hsz _, H', hkept, hext.1, fun x _ hx => hext.2 x hx⟩
        · simp [quietOp, hc] at hq
        · rw [hd] at hst
          rw [eqA_eq _ _ _ hst]; exact hrv
        · by_cases e : p.1 = i
          · rw [e, upX_same] at hx; cases hx
          · rw [upX_ne e] at hx
            rw [hext.2 _ (hlt p hp)]; exact D.pend p hp hx
      · cases hst
 include EO in
/-- The machine executes all that is done already with us, up to what is not. -/
theorem catch_up (still : ∀ i, i < ops.size → hasBit done i = true → hasBit settled i = false → stillFloat E ops T σ early i = true) (hnd : (early.map (·.2)).Nodup) (hlt : ∀ p ∈ early, p.2 < σ.next)
    {b : Frame} {ds : List Deferred} {k' : List Item} {cs : List Frame} : ∀ (rest : List Nat) {ρ : Rho} {w : World} {tmps : Array Value} {X : Nat → Bool},
    DRel E ρ T tmps ops bs done settled early X rest → HRel N0 ρ σ w.heap →
    ∃ (ρ' : Rho) (tmps' : Array Value) (w' : World) (X' : Nat → Bool) (rest' : List Nat), Steps E.P (lone (b.atR ⟨tmps, ds⟩ (.inRegion ops rest :: k')) cs w) (lone (b.atR ⟨tmps', ds⟩ (.inRegion ops rest' :: k')) cs w') ∧
      DRel E ρ' T tmps' ops bs done settled early X' rest' ∧ tmps'.size = tmps.size ∧ HRel N0 ρ' σ w'.heap ∧ Kept N0 w w' ∧ ρ.le ρ' ∧ (∀ x, x ∉ early.map (·.2) → x < σ.next → ρ' x = ρ x) ∧
      (∀ i r, rest' = i :: r → hasBit done i = false)
  | [], ρ, w, tmps, X, D, H => ⟨ρ, tmps, w, X, [], .refl _ _, D, rfl, H, Kept.refl _ _, ρ.le_refl, fun _ _ _ => rfl, fun i r h => by cases h⟩
  | i :: rest, ρ, w, tmps, X, D, H => by
    cases hi : hasBit done i with
    | false => exact ⟨ρ, tmps, w, X, i :: rest, .refl _ _, D, rfl, H, Kept.refl _ _, ρ.le_refl, fun _ _ _ => rfl, fun j r h => by cases h; exact hi⟩
    | true =>
      obtain ⟨ρ1, tmps1, w1, a1, a2, a3, a4, a5, a6, a7⟩ := catch_one EO still hnd hlt (b := b) (ds := ds) (k' := k') (cs := cs) D hi H
      obtain ⟨ρ2, tmps2, w2, X2, rest2, b1, b2, b3, b4, b5, b6, b7, b8⟩ := catch_up still hnd hlt (b := b) (ds := ds) (k' := k') (cs := cs) rest a2 a4
      exact ⟨ρ2, tmps2, w2, X2, rest2, a1.trans b1, b2, b3.trans a3, b4, a5.trans b5, Rho.le_trans a6 b6, fun x h1 h2 => (b7 x h1 h2).trans (a7 x h1 h2), b8⟩
end
end Go.Det

/-! DetS4 -/
/-! A drawn region: what comes early. -/
namespace Go.Det
theorem tput_ne {n : Nat} {T : Tm} {dst : Option Tmp} {v : AVal} {t : Nat} (h : dst ≠ some t) : tget (tput n T dst v) t = tget T t := by
  cases dst with
  | none => rfl
  | some d =>
    show tget (tsetN n T d v) t = tget T t
    rw [tsetN_eq]
    split
    · exact tget_set_ne _ _ _ _ (fun e => h (by rw [e]))
    · rfl
theorem tput_ge {n : Nat} {T : Tm} {dst : Option Tmp} {v : AVal} {t : Nat} (h : n ≤ t) : tget (tput n T dst v) t = tget T t := by
  cases dst with
  | none => rfl
  | some d =>
    show tget (tsetN n T d v) t = tget T t
    rw [tsetN_eq]
    split
    · exact tget_set_ne _ _ _ _ (fun e => by subst e; omega)
    · rfl
section
variable {E : Env} {N0 : Nat} {ρ : Rho} {tmps : Array Value} {ops : Array Oper} {bs : List Nat} {settled : Nat} {X : Nat → Bool} {rest : List Nat} {h : Array Obj}
theorem DRel.float {T : Tm} {done : Nat} {early early' : List (Nat × Nat)} (D : DRel E ρ T tmps ops bs done settled early X rest) {i : Nat} {o : Oper} (ho : ops[i]? = some o) (hi : hasBit done i = false)
    (hl : loudOp E o = false) (v : AVal) (hp : ∀ p ∈ early', X p.1 = false → ρ p.2 = none) : DRel E ρ (tput tmps.size T o.dst v) tmps ops bs (bit i ||| done) settled early' X rest := by
  have hXi : X i = false := by
    cases hx : X i with
    | false => rfl
    | true => rw [D.sub i hx] at hi; cases hi
  refine ⟨D.hbs, D.form, D.size, fun j hj => ?_, D.set, D.closed, fun j p hj hx hp => ?_, D.topo, fun t ht => ?_, fun t ht => ?_, hp⟩
  · rw [hasBit_or, D.sub j hj]; simp
  · rw [hasBit_or, hasBit_bit, Bool.or_eq_true] at hj
    rcases hj with hj | hj
    · have : i = j := by simpa using hj
      subst this
      rw [ho] at hp; cases hp; exact hl
    · exact D.quiet j p hj hx hp
  · rw [tput_ge ht]; exact D.out t ht
  · have hd : o.dst ≠ some t := ht i o (by rw [hasBit_or, hasBit_bit]; simp) hXi ho
    rw [tput_ne hd]
    exact D.tm t fun j p hj hx hp => ht j p (by rw [hasBit_or, hj]; simp) hx hp
/-- What holds of the region and of our memory while we go ahead. -/
structure Ahead (E : Env) (N0 : Nat) (ρ : Rho) (tmps : Array Value) (ops : Array Oper) (bs : List Nat) (settled : Nat) (X : Nat → Bool) (rest : List Nat) (h : Array Obj) (r : DR) : Prop where
  D : DRel E ρ r.T tmps ops bs r.done settled r.early X rest
  H : HRel N0 ρ r.σ h
  nd : (r.early.map (·.2)).Nodup
  lt : ∀ p ∈ r.early, p.2 < r.σ.next
theorem loud_unwanted {T : Tm} {o : Oper} (h : wantedA ops T o = false) : loudOp E o = false := by
  unfold wantedA at h
  unfold loudOp
  cases hg : o.guard with
  | none => rw [hg] at h; cases h
  | some g => simp
theorem loud_fresh {T : Tm} {o : Oper} {x : ABlk × (Nat → AVal)} (h : fresh E T o = some x) : loudOp E o = false := by
  unfold fresh at h
  unfold loudOp
  split at h
  · rename_i e ho; rw [ho]; simp
  · rename_i e x ho; rw [ho]; simp
  · rename_i e n x ho; rw [ho]; simp
  · cases h
theorem floatOne_spec {r r' : DR} (A : Ahead E N0 ρ tmps ops bs settled X rest h r) {i : Nat} {o : Oper} (ho : ops[i]? = some o) (hi : hasBit r.done i = false) (hf : isFloat E ops r.T o = true)
    (hr : floatOne E tmps.size ops r i o = some r') : Ahead E N0 ρ tmps ops bs settled X rest h r' ∧ r.σ.next ≤ r'.σ.next ∧ (∀ p ∈ r'.early, p ∈ r.early ∨ r.σ.next ≤ p.2) := by
  unfold floatOne at hr
  split at hr
  · rename_i hw
    simp only [Bool.not_eq_true'] at hw
    simp only [Option.some.injEq] at hr
    subst hr
    exact ⟨⟨A.D.float ho hi (loud_unwanted hw) _ A.D.pend, A.H, A.nd, A.lt⟩, Nat.le_refl _, fun p hp => .inl hp⟩
  · rename_i hw
    split at hr
    · rename_i k mk hfr
      split at hr
      · rename_i b σ1 hn
        simp only [Option.some.injEq] at hr
        subst hr
        obtain ⟨e1, e2, e3, e4, e5⟩ := AHeap.new_spec hn
        have hb : r.σ.next ≤ b := by omega
        refine ⟨⟨A.D.float ho hi (loud_fresh hfr) _ ?_, A.H.new hn, ?_, ?_⟩, by simp only; omega, ?_⟩
        · intro p hp hx
          cases hp with
          | head => exact A.H.fresh hb
          | tail _ hp => exact A.D.pend p hp hx
        · simp only [List.map_cons, List.nodup_cons]
          refine ⟨fun hm => ?_, A.nd⟩
          obtain ⟨p, hp, he⟩ := List.mem_map.1 hm
          have := A.lt p hp; omega
        · intro p hp
          cases hp with
          | head => simp only; omega
          | tail _ hp => have := A.lt p hp; simp only; omega
        · intro p hp
          cases hp with
          | head => exact .inr hb
          | tail _ hp => exact .inl hp
      · cases hr
    · rename_i hfr
      split at hr
      · rename_i v σ1 hd
        simp only [Option.some.injEq] at hr
        subst hr
        have hq : quietOp E o.op = true := by
          unfold isFloat at hf
          simp only [hfr, Option.isSome_none, Bool.or_false, Bool.or_eq_true] at hf
          rcases hf with hf | hf
          · exact absurd hf hw
          · exact hf
        exact ⟨⟨A.D.float ho hi (by unfold loudOp; rw [hq]; simp) _ A.D.pend, A.H, A.nd, A.lt⟩, Nat.le_refl _, fun p hp => .inl hp⟩
      · cases hr
theorem floatAll_spec : ∀ (n : Nat) {r r' : DR}, Ahead E N0 ρ tmps ops bs settled X rest h r → floatAll E tmps.size ops n r = some r' →
    Ahead E N0 ρ tmps ops bs settled X rest h r' ∧ r.σ.next ≤ r'.σ.next ∧ (∀ p ∈ r'.early, p ∈ r.early ∨ r.σ.next ≤ p.2)
  | 0, r, r', A, hr => by
    simp only [floatAll, Option.some.injEq] at hr
    subst hr
    exact ⟨A, Nat.le_refl _, fun p hp => .inl hp⟩
  | n + 1, r, r', A, hr => by
    simp only [floatAll, getO_eq] at hr
    split at hr
    · simp only [Option.some.injEq] at hr
      subst hr
      exact ⟨A, Nat.le_refl _, fun p hp => .inl hp⟩
    · rename_i i hfr
      split at hr
      · cases hr
      · rename_i o ho
        split at hr
        · rename_i r1 h1
          obtain ⟨_, o', ho', g1, g2, g3⟩ := firstReady_some hfr
          have : o' = o := by
            rw [← Array.getElem?_toList] at ho
            simp only [Nat.sub_zero] at ho'
            rw [ho] at ho'; cases ho'; rfl
          subst this
          obtain ⟨b1, b2, b3⟩ := floatOne_spec A ho g1 g3 h1
          obtain ⟨c1, c2, c3⟩ := floatAll_spec n b1 hr
          refine ⟨c1, by omega, fun p hp => ?_⟩
          rcases c3 p hp with h | h
          · exact b3 p h
          · exact .inr (by omega)
        · cases hr
end
end Go.Det

/-! DetS5 -/
/-! Frames: what ours says of the machine's. -/
namespace Go.Det
def Idx (ops : Array Oper) : List Oper → List Nat → Prop
  | [], [] => True
  | o :: l, i :: r => ops[i]? = some o ∧ Idx ops l r
  | _, _ => False
inductive IRel (ρ : Rho) : DItem → Item → Prop
  | code (c : Code) : IRel ρ (.code c) (.code c)
  | inBlock (id : Nat) : IRel ρ (.inBlock id) (.inBlock id)
  | inLoop (body : Code) : IRel ρ (.inLoop body) (.inLoop body)
  | inScope (body : Code) : IRel ρ (.inScope body) (.inScope body)
  | inRegion {ops : Array Oper} {l : List Oper} {idx : List Nat} (h : Idx ops l idx) : IRel ρ (.inRegion ops l) (.inRegion ops idx)
  | inRangeFunc {l : Nat} {p : Pl} (h : ρ l = some p) : IRel ρ (.inRangeFunc l) (.inRangeFunc p.blk)
  | endRangeFunc {l : Nat} {p : Pl} (h : ρ l = some p) : IRel ρ (.endRangeFunc l) (.endRangeFunc p.blk)
  | beginRound : IRel ρ .beginRound .beginRound
inductive ITs (ρ : Rho) : List DItem → List Item → Prop
  | nil : ITs ρ [] []
  | cons {i : DItem} {i' : Item} {l : List DItem} {l' : List Item} (h : IRel ρ i i') (t : ITs ρ l l') : ITs ρ (i :: l) (i' :: l')
theorem IRel.mono {ρ ρ' : Rho} (hle : ρ.le ρ') {i : DItem} {i' : Item} (h : IRel ρ i i') : IRel ρ' i i' := by
  cases h with
  | code c => exact .code c
  | inBlock id => exact .inBlock id
  | inLoop b => exact .inLoop b
  | inScope b => exact .inScope b
  | inRegion h => exact .inRegion h
  | inRangeFunc h => exact .inRangeFunc (hle _ _ h)
  | endRangeFunc h => exact .endRangeFunc (hle _ _ h)
  | beginRound => exact .beginRound
theorem ITs.mono {ρ ρ' : Rho} (hle : ρ.le ρ') {l : List DItem} {l' : List Item} (h : ITs ρ l l') : ITs ρ' l l' := by
  induction h with
  | nil => exact .nil
  | cons h t ih => exact .cons (h.mono hle) ih
inductive Todo (E : Env) (ρ : Rho) (T : Tm) (tmps : Array Value) : List DItem → List Item → List Nat → Prop
  | plain {todo : List DItem} {todo' : List Item} (ht : TRel ρ T tmps) (hi : ITs ρ todo todo') : Todo E ρ T tmps todo todo' []
  | drawn {ops : Array Oper} {bs : List Nat} {done settled : Nat} {early : List (Nat × Nat)} {X : Nat → Bool} {rest : List Nat} {k : List DItem} {k' : List Item}
      (D : DRel E ρ T tmps ops bs done settled early X rest) (hk : ITs ρ k k') : Todo E ρ T tmps (.drawn ops bs done settled early none :: k) (.inRegion ops rest :: k') (early.map (·.2))
  | cur {ops : Array Oper} {bs : List Nat} {done settled : Nat} {early : List (Nat × Nat)} {X : Nat → Bool} {m : Nat} {rest : List Nat} {k : List DItem} {k' : List Item}
      (D : DRel E ρ T tmps ops bs done settled early X (m :: rest)) (hm : hasBit done m = false) (hk : ITs ρ k k') : Todo E ρ T tmps (.drawn ops bs done settled early (some m) :: k) (.inRegion ops (m :: rest) :: k') (early.map (·.2))
theorem DRel.mono {E : Env} {ρ ρ' : Rho} {T : Tm} {tmps : Array Value} {ops : Array Oper} {bs : List Nat} {done settled : Nat} {early : List (Nat × Nat)} {X : Nat → Bool} {rest : List Nat}
    (D : DRel E ρ T tmps ops bs done settled early X rest) (hle : ρ.le ρ') (hids : ∀ x ∈ early.map (·.2), ρ' x = ρ x) : DRel E ρ' T tmps ops bs done settled early X rest :=
  ⟨D.hbs, D.form, D.size, D.sub, D.set, D.closed, D.quiet, D.topo, fun t ht => (D.out t ht).mono hle, fun t ht => (D.tm t ht).mono hle, fun p hp hx => by rw [hids p.2 (List.mem_map.2 ⟨p, hp, rfl⟩)]; exact D.pend p hp hx⟩
theorem Todo.mono {E : Env} {ρ ρ' : Rho} {T : Tm} {tmps : Array Value} {todo : List DItem} {todo' : List Item} {ids : List Nat} (h : Todo E ρ T tmps todo todo' ids) (hle : ρ.le ρ') (hids : ∀ x ∈ ids, ρ' x = ρ x) :
    Todo E ρ' T tmps todo todo' ids := by
  cases h with
  | plain ht hi => exact .plain (ht.mono hle) (hi.mono hle)
  | drawn D hk => exact .drawn (D.mono hle hids) (hk.mono hle)
  | cur D hm hk => exact .cur (D.mono hle hids) hm (hk.mono hle)
inductive Defs (ρ : Rho) : List ADef → List Deferred → Prop
  | nil : Defs ρ [] []
  | cons {d : ADef} {d' : Deferred} {l : List ADef} {l' : List Deferred} (h : DefRel ρ d d') (t : Defs ρ l l') : Defs ρ (d :: l) (d' :: l')
theorem Defs.mono {ρ ρ' : Rho} (hle : ρ.le ρ') {l : List ADef} {l' : List Deferred} (h : Defs ρ l l') : Defs ρ' l l' := by
  induction h with
  | nil => exact .nil
  | cons h t ih => exact .cons (h.mono hle) ih
def Ro (ρ : Rho) : Option Nat → Option Nat → Prop
  | none, none => True
  | some l, some B => ∃ p, ρ l = some p ∧ p.blk = B
  | _, _ => False
theorem Ro.mono {ρ ρ' : Rho} (hle : ρ.le ρ') {a b : Option Nat} (h : Ro ρ a b) : Ro ρ' a b := by
  cases a <;> cases b <;> first | exact h | (obtain ⟨p, h1, h2⟩ := h; exact ⟨p, hle _ _ h1, h2⟩)
inductive FRel (E : Env) (ρ : Rho) : DFrame → Frame → List Nat → Prop
  | run {fc : FC} {T : Tm} {todo : List DItem} {D : List ADef} {b : Frame} {a : Act} {todo' : List Item} {ids : List Nat} (hf : b.fn = fc.fn) (hk : b.kind = fc.kind) (hr : Ro ρ fc.roundOf b.roundOf) (hs : a.tmps.size = fc.n)
      (hd : Defs ρ D a.defers) (ht : Todo E ρ T a.tmps todo todo' ids) : FRel E ρ (.mk fc T todo D false) (b.atR a todo') ids
  | ret {fc : FC} {T : Tm} {todo : List DItem} {D : List ADef} {b : Frame} {a : Act} {todo' : List Item} (hf : b.fn = fc.fn) (hk : b.kind = fc.kind) (hr : fc.roundOf = none) (hr' : b.roundOf = none) (hs : a.tmps.size = fc.n)
      (hd : Defs ρ D a.defers) (ht : TRel ρ T a.tmps) : FRel E ρ (.mk fc T todo D true) { b.atR a todo' with mode := .returning } []
theorem FRel.mono {E : Env} {ρ ρ' : Rho} {F : DFrame} {fr : Frame} {ids : List Nat} (h : FRel E ρ F fr ids) (hle : ρ.le ρ') (hids : ∀ x ∈ ids, ρ' x = ρ x) : FRel E ρ' F fr ids := by
  cases h with
  | run hf hk hr hs hd ht => exact .run hf hk (hr.mono hle) hs (hd.mono hle) (ht.mono hle hids)
  | ret hf hk hr hr' hs hd ht => exact .ret hf hk hr hr' hs (hd.mono hle) (ht.mono hle)
inductive CRel (E : Env) (ρ : Rho) : List DFrame → List Frame → List Nat → Prop
  | nil : CRel E ρ [] [] []
  | cons {F : DFrame} {fr : Frame} {ids : List Nat} {l : List DFrame} {l' : List Frame} {idss : List Nat} (h : FRel E ρ F fr ids) (t : CRel E ρ l l' idss) : CRel E ρ (F :: l) (fr :: l') (ids ++ idss)
theorem CRel.mono {E : Env} {ρ ρ' : Rho} {l : List DFrame} {l' : List Frame} {ids : List Nat} (h : CRel E ρ l l' ids) (hle : ρ.le ρ') (hids : ∀ x ∈ ids, ρ' x = ρ x) : CRel E ρ' l l' ids := by
  induction h with
  | nil => exact .nil
  | cons h t ih => exact .cons (h.mono hle fun x hx => hids x (by simp [hx])) (ih fun x hx => hids x (by simp [hx]))
/-- The state. -/
structure SRel (E : Env) (N0 : Nat) (ρ : Rho) (F : DFrame) (cs : List DFrame) (σ : AHeap) (fr : Frame) (cs' : List Frame) (w : World) (ids idss : List Nat) : Prop where
  top : FRel E ρ F fr ids
  callers : CRel E ρ cs cs' idss
  H : HRel N0 ρ σ w.heap
  nd : (ids ++ idss).Nodup
  lt : ∀ x ∈ ids ++ idss, x < σ.next

section
variable {E : Env} {ρ : Rho}
/-- The frame's words once the operation under way has its value. -/
theorem DRel.finish {T : Tm} {tmps : Array Value} {ops : Array Oper} {bs : List Nat} {done settled : Nat} {early : List (Nat × Nat)} {X : Nat → Bool} {m : Nat} {rest : List Nat}
    (D : DRel E ρ T tmps ops bs done settled early X (m :: rest)) (hm : hasBit done m = false) {v : AVal} {v' : Value} (hv : R ρ v v') :
    DRel E ρ (tput tmps.size T ((ops[m]?).bind (·.dst)) v) ((⟨tmps, []⟩ : Act).put ((ops[m]?).bind (·.dst)) v').tmps ops bs (bit m ||| done) (bit m ||| settled) early (upX X m) rest := by
  obtain ⟨t1, t2, t3, t4⟩ := D.topo
  obtain ⟨o, ho⟩ : ∃ o, ops[m]? = some o := ⟨ops[m], by simp [t2]⟩
  rw [ho]
  simp only [Option.bind_some]
  have hsz : ((⟨tmps, []⟩ : Act).put o.dst v').tmps.size = tmps.size := by cases o.dst <;> simp [Act.put]
  refine ⟨D.hbs, D.form, by rw [hsz]; exact D.size, fun j hj => ?_, fun j hj => ?_, D.closed.up t3, fun j p hj hx hp => ?_, t4, fun t ht => ?_, fun t ht => ?_, fun p hp hx => ?_⟩
  · rw [hasBit_or, hasBit_bit]
    rcases upX_cases hj with rfl | hj
    · simp
    · rw [D.sub j hj]; simp
  · rw [hasBit_or, hasBit_bit, Bool.or_eq_true] at hj
    rcases hj with hj | hj
    · have : m = j := by simpa using hj
      subst this; exact upX_same _ _
    · exact upX_le (D.set j hj)
  · have hne : j ≠ m := fun e => by subst e; rw [upX_same] at hx; cases hx
    rw [upX_ne hne] at hx
    rw [hasBit_or, hasBit_bit, Bool.or_eq_true] at hj
    rcases hj with hj | hj
    · exact absurd (by simpa using hj) (fun e : m = j => hne e.symm)
    · exact D.quiet j p hj hx hp
  · rw [tput_ge (by omega)]
    exact D.out t (by omega)
  · by_cases hd : o.dst = some t
    · rw [hd]
      by_cases hlt : t < tmps.size
      · have e1 : tget (tput tmps.size T (some t) v) t = v := by
          show tget (tsetN tmps.size T t v) t = v
          rw [tsetN_eq, if_pos hlt, tget_set_same _ _ _ (Nat.lt_of_lt_of_le hlt D.size)]
        rw [e1]
        simp only [Act.put]; rw [getD_set_same _ _ _ hlt]; exact hv
      · have hge : tmps.size ≤ t := Nat.le_of_not_lt hlt
        have : ((⟨tmps, []⟩ : Act).put (some t) v').tmps.getD t Go.undef = Go.undef := by
          simp only [Act.put]
          rw [Array.getD_eq_getD_getElem?, Array.getElem?_eq_none (by simpa using hge)]; rfl
        rw [this, tput_ge hge]
        exact D.out t hge
    · rw [tput_ne hd]
      have hold : R ρ (tget T t) (tmps.getD t Go.undef) := D.tm t fun j q hj hx hq => by
        have hne : j ≠ m := fun e => by subst e; rw [hm] at hj; cases hj
        exact ht j q (by rw [hasBit_or, hj]; simp) (by rw [upX_ne hne]; exact hx) hq
      have : ((⟨tmps, []⟩ : Act).put o.dst v').tmps.getD t Go.undef = tmps.getD t Go.undef := by
        cases hdst : o.dst with
        | none => rfl
        | some d => simp only [Act.put]; exact getD_set_ne' _ _ _ _ (fun e => hd (by rw [hdst, e]))
      rw [this]; exact hold
  · refine D.pend p hp ?_
    cases hX : X p.1 with
    | false => rfl
    | true => rw [upX_le hX] at hx; cases hx
theorem TRel.put {T : Tm} {tmps : Array Value} (h : TRel ρ T tmps) {v : AVal} {v' : Value} (hv : R ρ v v') (dst : Option Tmp) : TRel ρ (tput tmps.size T dst v) ((⟨tmps, []⟩ : Act).put dst v').tmps := by
  cases dst with
  | none => exact h
  | some d => exact h.set hv d
theorem fin_sim {F' : DFrame} {fc : FC} {T : Tm} {todo : List DItem} {D : List ADef} {fr : Frame} {ids : List Nat} {v : AVal} {v' : Value} (F : FRel E ρ (.mk fc T todo D false) fr ids) (h : finL fc T D false v todo = some F') (hv : R ρ v v') :
    FRel E ρ F' (fr.finish v') ids := by
  cases F with
  | @run _ _ _ _ b a todo' _ hf hk hr hs hd ht =>
  obtain ⟨tmps, ds⟩ := a
  simp only at hs hd ht
  cases ht with
  | plain htr hi =>
    cases hi with
    | nil => cases h
    | @cons i i' k k' hi hk' =>
      cases hi with
      | code c => cases h
      | inBlock id => cases h
      | inLoop b => cases h
      | inScope b => cases h
      | @inRegion ops l idx hidx =>
        cases l with
        | nil => cases h
        | cons o l =>
          cases idx with
          | nil => exact hidx.elim
          | cons j idx =>
            obtain ⟨ho, hidx⟩ := hidx
            have h : some (DFrame.mk fc (tput fc.n T o.dst v) (.inRegion ops l :: k) D false) = some F' := h
            simp only [Option.some.injEq] at h
            subst h
            rw [Frame.finish_atR, ho]
            simp only [Option.bind_some]
            rw [Act.put_tmps]
            refine .run hf hk hr (by rw [← hs]; cases o.dst <;> simp [Act.put]) hd (.plain (by rw [← hs]; exact htr.put hv _) (.cons (.inRegion hidx) hk'))
      | inRangeFunc hl =>
        have h : some (DFrame.mk fc T (.endRangeFunc _ :: k) D false) = some F' := h
        simp only [Option.some.injEq] at h
        subst h
        exact .run (b := b) (a := ⟨tmps, ds⟩) hf hk hr hs hd (.plain htr (.cons (.endRangeFunc hl) hk'))
      | endRangeFunc hl => cases h
      | beginRound =>
        have h : some (DFrame.mk fc T k D false) = some F' := h
        simp only [Option.some.injEq] at h
        subst h
        exact .run (b := b) (a := ⟨tmps, ds⟩) hf hk hr hs hd (.plain htr hk')
  | drawn D hk => cases h
  | @cur ops bs done settled early X m rest k k' D hm hk' =>
    have h : some (DFrame.mk fc (tput fc.n T ((getO ops m).bind (·.dst)) v) (.drawn ops bs (bit m ||| done) (bit m ||| settled) early none :: k) _ false) = some F' := h
    rw [getO_eq] at h
    simp only [Option.some.injEq] at h
    subst h
    rw [Frame.finish_atR, Act.put_tmps]
    refine .run hf hk hr (by rw [← hs]; cases (ops[m]?).bind (·.dst) <;> simp [Act.put]) hd (.drawn (by rw [← hs]; exact D.finish hm hv) hk')
end
end Go.Det

/-! DetS6 -/
/-! Steps: what one operation makes of the state. -/
namespace Go.Det
theorem ofArgs_spec : ∀ (l : List AVal) (i : Nat) (T : Tm), i + l.length ≤ 1000000 → ∀ t, tget (ofArgs l i T) t = if i ≤ t ∧ t < i + l.length then l.getD (t - i) undefA else tget T t
  | [], i, T, _, t => by
    rw [if_neg (by simp)]; rfl
  | v :: l, i, T, h, t => by
    simp only [List.length_cons] at h
    rw [ofArgs, ofArgs_spec l (i + 1) _ (by omega) t]
    by_cases h1 : i + 1 ≤ t ∧ t < i + 1 + l.length
    · rw [if_pos h1, if_pos (by simp only [List.length_cons]; omega)]
      rw [show t - i = (t - (i + 1)) + 1 by omega]
      simp
    · rw [if_neg h1]
      by_cases h2 : t = i
      · subst h2
        rw [tget_set_same _ _ _ (by omega), if_pos (by simp only [List.length_cons]; omega)]
        simp
      · rw [tget_set_ne _ _ _ _ h2, if_neg (by simp only [List.length_cons]; omega)]
section
variable {E : Env} (EO : EnvOk E) {ρ : Rho}
 include EO in
theorem enter_spec {f : FuncId} {args : List AVal} {args' : List Value} {kind : CallKind} {F : DFrame} (h : enterA E f args kind = some F) (ha : Rs ρ args args') : FRel E ρ F (Frame.enter E.P f ⟨args'⟩ kind) [] := by
  unfold enterA at h
  split at h
  · rename_i fn hfn
    have hP := EO.fn _ _ hfn
    split at h
    · rename_i c hb
      split at h
      · rename_i hc
        simp only [Bool.and_eq_true, decide_eq_true_eq] at hc
        simp only [Option.some.injEq] at h
        subst h
        have hl := ha.length
        have e : Frame.enter E.P f ⟨args'⟩ kind = Frame.atR { (default : Frame) with fn := f, kind := kind, roundOf := none } ⟨(⟨args'⟩ : Array Value) ++ Array.replicate (fn.ntmps - args'.length) Go.undef, []⟩ [.code c] := by
          simp [Frame.enter, Frame.atR, hP, hb]
        rw [e]
        have hsz : ((⟨args'⟩ : Array Value) ++ Array.replicate (fn.ntmps - args'.length) Go.undef).size = fn.ntmps := by simp; omega
        refine .run rfl rfl trivial hsz .nil (.plain ⟨by rw [hsz]; exact hc.2, fun t => ?_⟩ (.cons (.code c) .nil))
        rw [ofArgs_spec _ _ _ (by omega), Array.getD_eq_getD_getElem?, Array.getElem?_append]
        by_cases ht : t < args'.length
        · rw [if_pos (by omega), if_pos (by simpa using ht)]
          obtain ⟨y, hy, hr⟩ := ha.get (i := t) (x := args[t]'(by omega)) (by simp)
          have e1 : args.getD (t - 0) undefA = args[t]'(by omega) := by simp [List.getD_eq_getElem?_getD, show t < args.length by omega]
          have e2 : (⟨args'⟩ : Array Value)[t]? = some y := by simpa using hy
          rw [e1, e2]; exact hr
        · rw [if_neg (by omega), if_neg (by simpa using ht)]
          have e1 : tget (.leaf : Tm) t = undefA := by rw [tget_eq]; rfl
          have e2 : ((Array.replicate (fn.ntmps - args'.length) Go.undef)[t - (⟨args'⟩ : Array Value).size]?).getD Go.undef = Go.undef := by
            rw [Array.getElem?_replicate]; split <;> rfl
          rw [e1, e2]; exact R.undef
      · cases h
    · cases h
  · cases h
def SRelS (E : Env) (N0 : Nat) (ρ : Rho) (S : DState) (fr : Frame) (cs' : List Frame) (w : World) (ids idss : List Nat) : Prop :=
  match S with | .mk fc T todo D ret cs σ => SRel E N0 ρ (.mk fc T todo D ret) cs σ fr cs' w ids idss
/-- The machine comes to where our state has gone. -/
def Nxt (E : Env) (N0 : Nat) (cs0 : List Frame) (fr : Frame) (cs' : List Frame) (w : World) (S : DState) : Prop :=
  ∃ ρ' fr2 cs2 w2 ids2 idss2, Steps E.P (lone fr (cs' ++ cs0) w) (lone fr2 (cs2 ++ cs0) w2) ∧ SRelS E N0 ρ' S fr2 cs2 w2 ids2 idss2 ∧ Kept N0 w w2
variable {N0 : Nat} {cs0 : List Frame}
theorem Nxt.before {fr fr1 : Frame} {cs' cs1 : List Frame} {w w1 : World} {S : DState} (hs : Steps E.P (lone fr (cs' ++ cs0) w) (lone fr1 (cs1 ++ cs0) w1)) (hk : Kept N0 w w1) (h : Nxt E N0 cs0 fr1 cs1 w1 S) :
    Nxt E N0 cs0 fr cs' w S := by
  obtain ⟨ρ', fr2, cs2, w2, a, b, h1, h2, h3⟩ := h
  exact ⟨ρ', fr2, cs2, w2, a, b, hs.trans h1, h2, hk.trans h3⟩
theorem ofFrame_some {cs : List DFrame} {σ : AHeap} {F : Option DFrame} {S : DState} (h : ofFrame cs σ F = some S) : ∃ fc T todo D ret, F = some (.mk fc T todo D ret) ∧ S = .mk fc T todo D ret cs σ := by
  cases F with
  | none => cases h
  | some F =>
    obtain ⟨fc, T, todo, D, ret⟩ := F
    have h : some (DState.mk fc T todo D ret cs σ) = some S := h
    simp only [Option.some.injEq] at h
    exact ⟨fc, T, todo, D, ret, rfl, h.symm⟩
/-- The state, had anew: the top frame is another one. -/
theorem SRel.top' {F F' : DFrame} {cs : List DFrame} {σ σ' : AHeap} {fr fr' : Frame} {cs' : List Frame} {w w' : World} {ids ids' idss : List Nat} (S : SRel E N0 ρ F cs σ fr cs' w ids idss) {ρ' : Rho} (hext : ρ.le ρ' ∧ ∀ x ∈ idss, ρ' x = ρ x)
    (ht : FRel E ρ' F' fr' ids') (H' : HRel N0 ρ' σ' w'.heap) (hnx : σ.next ≤ σ'.next) (hn : ids'.Nodup) (hi : ∀ x ∈ ids', (x ∈ ids ∨ σ.next ≤ x) ∧ x < σ'.next) : SRel E N0 ρ' F' cs σ' fr' cs' w' ids' idss := by
  have hnd := List.nodup_append.1 S.nd
  refine ⟨ht, S.callers.mono hext.1 hext.2, H', List.nodup_append.2 ⟨hn, hnd.2.1, fun x hx y hy e => ?_⟩, fun x hx => ?_⟩
  · subst e
    rcases (hi x hx).1 with h1 | h1
    · exact hnd.2.2 x h1 x hy rfl
    · have := S.lt x (by simp [hy]); omega
  · rcases List.mem_append.1 hx with h1 | h1
    · exact (hi x h1).2
    · have := S.lt x (by simp [h1]); omega
section
variable {b : Frame} {a : Act} {ops : Array Oper} {i : Nat} {rest : List Nat} {k' : List Item} {cs : List Frame} {w w' : World} {o : Oper} {P : Program}
  (ho : ops[i]? = some o) (hw : Region.wanted o (yielded ops a.tmps) = true)
 include ho hw
theorem step_val {v' : Value} (hd : b.roundOf = none ∨ ∀ c, o.op ≠ .defer c) (hr : (execOp a.eval o).run P w = .ok (.value v') w' ∨ ((execOp a.eval o).run P w = .ok .skip w' ∧ v' = Go.undef)) :
    step P (lone (b.atR a (.inRegion ops (i :: rest) :: k')) cs w) = .next (lone ((b.atR a (.inRegion ops (i :: rest) :: k')).finish v') cs w') := by
  refine step_lone_go ?_
  have e : o.semAt b.roundOf a.eval = execOp a.eval o := by
    rcases hd with hd | hd
    · rw [hd]; rfl
    · exact Oper.semAt_eq _ _ _ hd
  rw [stepGR_op ho hw, e]
  rcases hr with hr | ⟨hr, rfl⟩ <;> simp [stepG.apply, hr]
theorem step_enter {f : FuncId} {args : Array Value} (hd : b.roundOf = none ∨ ∀ c, o.op ≠ .defer c) (hr : (execOp a.eval o).run P w = .ok (.enter f args) w') :
    step P (lone (b.atR a (.inRegion ops (i :: rest) :: k')) cs w) = .next (lone (Frame.enter P f args .normal) (b.atR a (.inRegion ops (i :: rest) :: k') :: cs) w') := by
  refine step_lone_go ?_
  have e : o.semAt b.roundOf a.eval = execOp a.eval o := by
    rcases hd with hd | hd
    · rw [hd]; rfl
    · exact Oper.semAt_eq _ _ _ hd
  rw [stepGR_op ho hw, e]
  simp [stepG.apply, hr, Frame.atR]
theorem step_round {l : Nat} {f : FuncId} {tmps : Array Value} {assign body : Code} (hd : b.roundOf = none ∨ ∀ c, o.op ≠ .defer c) (hr : (execOp a.eval o).run P w = .ok (.round l f tmps assign body) w') :
    step P (lone (b.atR a (.inRegion ops (i :: rest) :: k')) cs w) = .next (lone (Frame.round l f tmps assign body .normal) (b.atR a (.inRegion ops (i :: rest) :: k') :: cs) w') := by
  refine step_lone_go ?_
  have e : o.semAt b.roundOf a.eval = execOp a.eval o := by
    rcases hd with hd | hd
    · rw [hd]; rfl
    · exact Oper.semAt_eq _ _ _ hd
  rw [stepGR_op ho hw, e]
  simp [stepG.apply, hr, Frame.atR]
theorem step_defer {d : Deferred} (hd : b.roundOf = none) (hr : (execOp a.eval o).run P w = .ok (.defer d) w') :
    step P (lone (b.atR a (.inRegion ops (i :: rest) :: k')) cs w) = .next (lone ((b.atR { a with defers := d :: a.defers } (.inRegion ops (i :: rest) :: k')).finish Go.undef) cs w') := by
  refine step_lone_go ?_
  have e : o.semAt b.roundOf a.eval = execOp a.eval o := by rw [hd]; rfl
  rw [stepGR_op ho hw, e]
  simp only [stepG.apply, Sem.runT_eq, hr, GStep.bare_after]
  rfl
theorem step_recov {c : Frame} (hd : b.roundOf = none) (hk : b.kind = .deferred) (hc : c.mode = .returning) (hr : (execOp a.eval o).run P w = .ok .recover w') :
    step P (lone (b.atR a (.inRegion ops (i :: rest) :: k')) (c :: cs) w) = .next (lone ((b.atR a (.inRegion ops (i :: rest) :: k')).finish .nilIface) (c :: cs) w') := by
  refine step_lone_go ?_
  have e : o.semAt b.roundOf a.eval = execOp a.eval o := by rw [hd]; rfl
  rw [stepGR_op ho hw, e]
  simp [stepG.apply, hr, Frame.atR, hd, tryRecover, hk, hc]
end
 include EO in
theorem go_sim {fc : FC} {T : Tm} {todo : List DItem} {D : List ADef} {cs : List DFrame} {σ : AHeap} {b : Frame} {a : Act} {ops : Array Oper} {i : Nat} {rest : List Nat} {k' : List Item} {cs' : List Frame} {w : World} {ids idss : List Nat} {o : Oper}
    (hf : b.fn = fc.fn) (hk : b.kind = fc.kind) (hr : Ro ρ fc.roundOf b.roundOf) (hs : a.tmps.size = fc.n) (hd : Defs ρ D a.defers) (ht : Todo E ρ T a.tmps todo (.inRegion ops (i :: rest) :: k') ids)
    (hc : CRel E ρ cs cs' idss) (H : HRel N0 ρ σ w.heap) (nd : (ids ++ idss).Nodup) (lt : ∀ x ∈ ids ++ idss, x < σ.next)
    (ho : ops[i]? = some o) (hw : Region.wanted o (yielded ops a.tmps) = true) {r : ORes} (hg : OGood N0 ρ σ w r ((execOp a.eval o).run E.P w)) (hdef : ∀ c, o.op = .defer c → ∃ d, r = .defer d) {S' : DState}
    (h : goOn E fc T todo D cs σ r = some S') : Nxt E N0 cs0 (b.atR a (.inRegion ops (i :: rest) :: k')) cs' w S' := by
  have F : FRel E ρ (.mk fc T todo D false) (b.atR a (.inRegion ops (i :: rest) :: k')) ids := .run hf hk hr hs hd ht
  have S : SRel E N0 ρ (.mk fc T todo D false) cs σ (b.atR a (.inRegion ops (i :: rest) :: k')) cs' w ids idss := ⟨F, hc, H, nd, lt⟩
  have hids : ids.Nodup := (List.nodup_append.1 nd).1
  cases r with
  | val v σ' =>
    have h : ofFrame cs σ' (finL fc T D false v todo) = some S' := h
    obtain ⟨fc', T', todo', D', ret', hF, rfl⟩ := ofFrame_some h
    obtain ⟨ρ', v', w', hrun, hext, hv, H', hkept, hnx⟩ := hg
    have hno : ∀ c, o.op ≠ .defer c := fun c hc => by obtain ⟨d, hd⟩ := hdef c hc; cases hd
    have hsame : ∀ x ∈ ids ++ idss, ρ' x = ρ x := fun x hx => hext.2 x (lt x hx)
    have F' := fin_sim (F.mono hext.1 fun x hx => hsame x (by simp [hx])) hF hv
    exact ⟨ρ', _, cs', w', ids, idss, .one (step_val ho hw (.inr hno) hrun), S.top' ⟨hext.1, fun x hx => hsame x (by simp [hx])⟩ F' H' hnx hids fun x hx => ⟨.inl hx, by have := lt x (by simp [hx]); omega⟩, hkept⟩
  | enter f args =>
    have h : ofFrame (.mk fc T todo D false :: cs) σ (enterA E f args .normal) = some S' := h
    obtain ⟨fc', T', todo', D', ret', hF, rfl⟩ := ofFrame_some h
    obtain ⟨args', hrun, ha⟩ := hg
    have hno : ∀ c, o.op ≠ .defer c := fun c hc => by obtain ⟨d, hd⟩ := hdef c hc; cases hd
    exact ⟨ρ, _, b.atR a (.inRegion ops (i :: rest) :: k') :: cs', w, [], ids ++ idss, .one (step_enter ho hw (.inr hno) hrun), ⟨enter_spec EO hF ha, .cons F hc, H, by simpa using nd, by simpa using lt⟩, Kept.refl _ _⟩
  | defer d =>
    have h : deferA fc T todo D cs σ d = some S' := h
    unfold deferA at h
    split at h
    · rename_i hro
      obtain ⟨fc', T', todo', D', ret', hF, rfl⟩ := ofFrame_some h
      obtain ⟨d', hrun, hdr⟩ := hg
      have hbro : b.roundOf = none := by rw [hro] at hr; cases hb : b.roundOf with
        | none => rfl
        | some l => rw [hb] at hr; exact hr.elim
      have F2 : FRel E ρ (.mk fc T todo (d :: D) false) (b.atR { a with defers := d' :: a.defers } (.inRegion ops (i :: rest) :: k')) ids := .run hf hk hr hs (.cons hdr hd) ht
      have F' := fin_sim F2 hF (v' := Go.undef) R.undef
      exact ⟨ρ, _, cs', w, ids, idss, .one (step_defer ho hw hbro hrun), S.top' ⟨ρ.le_refl, fun x hx => rfl⟩ F' H (Nat.le_refl _) hids fun x hx => ⟨.inl hx, lt x (by simp [hx])⟩, Kept.refl _ _⟩
    · cases h
  | round l f n T' assign body =>
    have h : some (DState.mk ⟨f, .normal, some l, n⟩ T' [.code assign, .beginRound, .code body] [] false (.mk fc T todo D false :: cs) σ) = some S' := h
    simp only [Option.some.injEq] at h
    subst h
    obtain ⟨p, c, hp, hrun, hT, hn⟩ := hg
    have hno : ∀ c, o.op ≠ .defer c := fun c hc => by obtain ⟨d, hd⟩ := hdef c hc; cases hd
    have e : Frame.round p.blk f c assign body .normal = Frame.atR { (default : Frame) with fn := f, kind := .normal, roundOf := some p.blk } ⟨c, []⟩ [.code assign, .beginRound, .code body] := rfl
    refine ⟨ρ, _, b.atR a (.inRegion ops (i :: rest) :: k') :: cs', w, [], ids ++ idss, .one (step_round ho hw (.inr hno) hrun), ⟨?_, .cons F hc, H, by simpa using nd, by simpa using lt⟩, Kept.refl _ _⟩
    rw [e]
    exact .run rfl rfl ⟨p, hp, rfl⟩ hn .nil (.plain hT (.cons (.code _) (.cons .beginRound (.cons (.code _) .nil))))
  | recov =>
    have h : recovA fc T todo D σ cs = some S' := h
    unfold recovA at h
    split at h
    · rename_i c Tc k Dc cs1
      split at h
      · rename_i hkd hro
        obtain ⟨fc', T', todo', D', ret', hF, rfl⟩ := ofFrame_some h
        have hbro : b.roundOf = none := by rw [hro] at hr; cases hb : b.roundOf with
          | none => rfl
          | some l => rw [hb] at hr; exact hr.elim
        have F' := fin_sim F hF (v' := .nilIface) (.lit _)
        have hno : ∀ c, o.op ≠ .defer c := fun c hc => by obtain ⟨d, hd⟩ := hdef c hc; cases hd
        cases hc with
        | @cons _ frc idc _ l' idss' hFc hcs =>
          have hmode : frc.mode = .returning := by cases hFc; rfl
          have hstep := step_recov (P := E.P) (b := b) (a := a) (k' := k') (cs := l' ++ cs0) (rest := rest) ho hw hbro (hk.trans hkd) hmode hg
          exact ⟨ρ, _, frc :: l', w, ids, _, .one hstep, S.top' ⟨ρ.le_refl, fun x hx => rfl⟩ F' H (Nat.le_refl _) hids fun x hx => ⟨.inl hx, lt x (by simp [hx])⟩, Kept.refl _ _⟩
      · cases h
    · cases h
end
end Go.Det

/-! DetS7 -/
/-! Steps: code. -/
namespace Go.Det
theorem dExitTo_cons (id : Nat) (i : DItem) (k : List DItem) : dExitTo id (i :: k) = match i with | .inBlock id' => (if id' = id then some k else dExitTo id k) | _ => dExitTo id k := by
  cases i with
  | inBlock id' =>
    show @Bool.rec (fun _ => Option (List DItem)) (dExitTo id k) (some k) (Nat.beq id' id) = _
    simp only [bool_if, beq_if]
  | _ => rfl
section
variable {E : Env} (EO : EnvOk E) {ρ : Rho}
theorem exit_some {id : Nat} : ∀ {k : List DItem} {k' : List Item}, ITs ρ k k' → ∀ {k2 : List DItem}, dExitTo id k = some k2 → ∃ k2', exitTo id k' = some k2' ∧ ITs ρ k2 k2'
  | _, _, .nil, k2, h => by cases h
  | _, _, @ITs.cons _ i i' l l' hi t, k2, h => by
    rw [dExitTo_cons] at h
    cases hi with
    | inBlock id' =>
      simp only at h
      simp only [exitTo]
      by_cases e : id' = id
      · rw [if_pos e] at h
        simp only [Option.some.injEq] at h
        subst h
        exact ⟨l', by simp [e], t⟩
      · rw [if_neg e] at h
        obtain ⟨k2', h1, h2⟩ := exit_some t h
        exact ⟨k2', by simp [e, h1], h2⟩
    | _ => exact exit_some t h
theorem exit_none {id : Nat} : ∀ {k : List DItem} {k' : List Item}, ITs ρ k k' → dExitTo id k = none → exitTo id k' = none
  | _, _, .nil, h => rfl
  | _, _, @ITs.cons _ i i' l l' hi t, h => by
    rw [dExitTo_cons] at h
    cases hi with
    | inBlock id' =>
      simp only at h
      simp only [exitTo]
      by_cases e : id' = id
      · rw [if_pos e] at h; cases h
      · rw [if_neg e] at h
        simp [e, exit_none t h]
    | _ => have q := exit_none t h; exact q
theorem goto_some {l : Nat} : ∀ {k : List DItem} {k' : List Item}, ITs ρ k k' → ∀ {k2 : List DItem}, dGotoIn l k = some k2 → ∃ k2', gotoIn l k' = some k2' ∧ ITs ρ k2 k2'
  | _, _, .nil, k2, h => by cases h
  | _, _, .cons hi t, k2, h => by
    cases hi with
    | inScope body =>
      simp only [dGotoIn] at h
      simp only [gotoIn]
      split at h
      · rename_i rest hr
        simp only [Option.some.injEq] at h
        subst h
        exact ⟨_, by rw [hr], .cons (.code _) (.cons (.inScope _) t)⟩
      · rename_i hr
        obtain ⟨k2', h1, h2⟩ := goto_some t h
        exact ⟨k2', by rw [hr]; exact h1, h2⟩
    | _ => exact goto_some t h
theorem goto_none {l : Nat} : ∀ {k : List DItem} {k' : List Item}, ITs ρ k k' → dGotoIn l k = none → gotoIn l k' = none
  | _, _, .nil, h => rfl
  | _, _, .cons hi t, h => by
    cases hi with
    | inScope body =>
      simp only [dGotoIn] at h
      simp only [gotoIn]
      split at h
      · cases h
      · rename_i hr
        rw [hr]; exact goto_none t h
    | _ => have q := goto_none t h; exact q
theorem idx_from (ops : Array Oper) : ∀ (l : List Oper) (p : List Oper), ops.toList = p ++ l → Idx ops l (List.range' p.length l.length)
  | [], p, _ => trivial
  | o :: l, p, h => by
    refine ⟨by rw [← Array.getElem?_toList, h]; simp, ?_⟩
    have := idx_from ops l (p ++ [o]) (by simp [h])
    simpa using this
theorem idx_all (ops : Array Oper) : Idx ops ops.toList (List.range ops.size) := by
  have := idx_from ops ops.toList [] (by simp)
  simpa [List.range_eq_range'] using this
variable {N0 : Nat} {cs0 : List Frame} {fc : FC} {T : Tm} {todo : List DItem} {D : List ADef} {cs : List DFrame} {σ : AHeap} {b : Frame} {a : Act} {k : List DItem} {k' : List Item} {cs' : List Frame} {w : World} {idss : List Nat} {S' : DState}
  (hf : b.fn = fc.fn) (hk : b.kind = fc.kind) (hr : Ro ρ fc.roundOf b.roundOf) (hs : a.tmps.size = fc.n) (hd : Defs ρ D a.defers) (ht : TRel ρ T a.tmps)
  (hc : CRel E ρ cs cs' idss) (H : HRel N0 ρ σ w.heap) (nd : idss.Nodup) (lt : ∀ x ∈ idss, x < σ.next)
 include hf hk hr hs hd ht hc H nd lt
theorem move_sim {todo2 : List DItem} {todo' todo2' : List Item} (hi : ITs ρ todo2 todo2') (hstep : step E.P (lone (b.atR a todo') (cs' ++ cs0) w) = .next (lone (b.atR a todo2') (cs' ++ cs0) w)) (h : ds fc T todo2 D cs σ = some S') :
    Nxt E N0 cs0 (b.atR a todo') cs' w S' := by
  unfold ds at h
  simp only [Option.some.injEq] at h
  subst h
  exact ⟨ρ, _, cs', w, [], idss, .one hstep, ⟨.run hf hk hr hs hd (.plain ht hi), hc, H, by simpa using nd, by simpa using lt⟩, Kept.refl _ _⟩
/-- The frame below takes a value. -/
theorem pop_sim {fr : Frame} {v : AVal} {v' : Value} {σ' : AHeap} {w' : World} (hv : R ρ v v') (H' : HRel N0 ρ σ' w'.heap) (hnx : σ.next ≤ σ'.next) (hkept : Kept N0 w w')
    (hstep : ∀ c cs1, cs' = c :: cs1 → step E.P (lone fr (cs' ++ cs0) w) = .next (lone (c.finish v') (cs1 ++ cs0) w')) (h : popTo σ' v cs = some S') : Nxt E N0 cs0 fr cs' w S' := by
  have _u0 := hf
  have _u1 := hk
  have _u2 := hr
  have _u3 := hs
  have _u4 := hd
  have _u5 := ht
  have _u6 := H
  cases hc with
  | nil => cases h
  | @cons F frc idc l l' idss' hF ht =>
    have h : ofFrame l σ' (fin v F) = some S' := h
    obtain ⟨fc', T', todo', D', ret', hF', rfl⟩ := ofFrame_some h
    obtain ⟨fcc, Tc, todoc, Dc, retc⟩ := F
    cases retc with
    | true => cases hF'
    | false =>
      have hF' : finL fcc Tc Dc false v todoc = some _ := hF'
      have F2 := fin_sim hF hF' hv
      exact ⟨ρ, _, l', w', idc, idss', .one (hstep _ _ rfl), ⟨F2, ht, H', nd, fun x hx => by have := lt x hx; omega⟩, hkept⟩
theorem leave_sim {todo' : List Item} {jump : Option Code}
    (hret : b.roundOf = none → (jump = none ∨ jump = some .ret) → step E.P (lone (b.atR a todo') (cs' ++ cs0) w) = .next (lone { b.atR a todo' with mode := .returning } (cs' ++ cs0) w))
    (hround : ∀ {l : Nat} {v : Value} {w' : World} {c : Frame} {cs1 : List Frame}, b.roundOf = some l → b.kind = .normal → (Instr.endRound l jump).run E.P w = .ok v w' →
      step E.P (lone (b.atR a todo') (c :: cs1) w) = .next (lone (c.finish v) cs1 w'))
    (h : leaveA fc T todo D cs σ jump = some S') : Nxt E N0 cs0 (b.atR a todo') cs' w S' := by
  unfold leaveA at h
  split at h
  · rename_i hro
    have hbro : b.roundOf = none := by rw [hro] at hr; cases hb : b.roundOf with
      | none => rfl
      | some l => rw [hb] at hr; exact hr.elim
    have done : (jump = none ∨ jump = some .ret) → some (DState.mk fc T todo D true cs σ) = some S' → Nxt E N0 cs0 (b.atR a todo') cs' w S' := by
      intro hj he
      simp only [Option.some.injEq] at he
      subst he
      exact ⟨ρ, _, cs', w, [], idss, .one (hret hbro hj), ⟨.ret hf hk hro hbro hs hd ht, hc, H, by simpa using nd, by simpa using lt⟩, Kept.refl _ _⟩
    split at h
    · exact done (.inl rfl) h
    · split at h
      · exact done (.inr rfl) h
      · cases h
  · rename_i l hro
    rw [hro] at hr
    cases hb : b.roundOf with
    | none => rw [hb] at hr; exact hr.elim
    | some B =>
      rw [hb] at hr
      obtain ⟨p, hp, rfl⟩ := hr
      split at h
      · rename_i st pend fn n Tl ps as bd dd hg
        split at h
        · rename_i hkd
          obtain ⟨c, q, h1, h2, h3, h4⟩ := H.blk l p _ hp hg
          have hrun := run_endRound (P := E.P) (w := w) jump h1
          have hlt := (H.low _ _ hp)
          have hput := H.put hp hg (k := .loop (if jump.isNone then .ready else .done) jump fn n Tl ps as bd dd)
            (h' := (w.putObj p.blk (.loop ⟨if jump.isNone then .ready else .done, jump, fn, c, ps, as, bd, q.blk⟩)).heap) (by simp [World.putObj]) (fun x hx => by simp only [World.putObj]; rw [Array.getElem?_setIfInBounds_ne (fun e => hx e.symm)])
            ⟨c, q, by simp [World.putObj, hlt.2], h2, h3, h4⟩
          have hro' : Ro ρ fc.roundOf b.roundOf := by rw [hro, hb]; exact ⟨p, hp, rfl⟩
          exact pop_sim hf hk hro' hs hd ht hc H nd lt (.lit (.bool jump.isNone)) hput (by rw [AHeap.put_next]; omega) ⟨fun B hB => by simp only [World.putObj]; rw [Array.getElem?_setIfInBounds_ne (by omega)], rfl, rfl⟩
            (fun c1 cs1 e => by subst e; exact hround hb (hk.trans hkd) hrun) h
        · cases h
      · cases h
end
end Go.Det

/-! DetS8 -/
/-! Steps: code, regions. -/
namespace Go.Det
theorem stepR_scope {P : Program} {b : Frame} {a : Act} {k : List Item} {cs : List Frame} {w : World} {c : Code} : step P (lone (b.atR a (.code (.scope c) :: k)) cs w) = .next (lone (b.atR a (.code c :: .inScope c :: k)) cs w) :=
  step_lone_go (by simp [stepG, stepG.exec, Frame.atR])
theorem stepR_inScope {P : Program} {b : Frame} {a : Act} {k : List Item} {cs : List Frame} {w : World} {c : Code} : step P (lone (b.atR a (.inScope c :: k)) cs w) = .next (lone (b.atR a k) cs w) :=
  step_lone_go (by simp [stepG, stepG.exec, Frame.atR])
theorem dop_defer {E : Env} {T : Tm} {o : Oper} {σ : AHeap} {r : ORes} (h : dop E T o σ = some r) : ∀ c, o.op = .defer c → ∃ d, r = .defer d := by
  obtain ⟨dst, op, ty, pos, after, guard⟩ := o
  intro c hc
  simp only at hc
  subst hc
  have h : oDefer T c = some r := h
  unfold oDefer at h
  split at h
  · split at h
    · simp only [Option.some.injEq] at h; exact ⟨_, h.symm⟩
    · simp only [Option.some.injEq] at h; exact ⟨_, h.symm⟩
    · cases h
  · cases h
section
variable {E : Env} (EO : EnvOk E) {ρ : Rho} {N0 : Nat} {cs0 : List Frame} {fc : FC} {T : Tm} {D : List ADef} {cs : List DFrame} {σ : AHeap} {b : Frame} {a : Act} {k : List DItem} {k' : List Item} {cs' : List Frame} {w : World} {idss : List Nat} {S' : DState}
  (hf : b.fn = fc.fn) (hk : b.kind = fc.kind) (hr : Ro ρ fc.roundOf b.roundOf) (hs : a.tmps.size = fc.n) (hd : Defs ρ D a.defers) (ht : TRel ρ T a.tmps)
  (hc : CRel E ρ cs cs' idss) (H : HRel N0 ρ σ w.heap) (nd : idss.Nodup) (lt : ∀ x ∈ idss, x < σ.next) (hi : ITs ρ k k')
 include EO hf hk hr hs hd ht hc H nd lt hi
/-- Our one operation in the order of the text. -/
theorem reg_sim {ops : Array Oper} {l : List Oper} {idx : List Nat} (hidx : Idx ops l idx) (h : regA E fc T D cs σ ops k l = some S') : Nxt E N0 cs0 (b.atR a (.inRegion ops idx :: k')) cs' w S' := by
  cases l with
  | nil =>
    cases idx with
    | cons _ _ => exact hidx.elim
    | nil => exact move_sim hf hk hr hs hd ht hc H nd lt hi stepR_region_end h
  | cons o l =>
    cases idx with
    | nil => exact hidx.elim
    | cons i rest =>
      obtain ⟨ho, hidx'⟩ := hidx
      have htodo : Todo E ρ T a.tmps (.inRegion ops (o :: l) :: k) (.inRegion ops (i :: rest) :: k') [] := .plain ht (.cons (.inRegion ⟨ho, hidx'⟩) hi)
      have F : FRel E ρ (.mk fc T (.inRegion ops (o :: l) :: k) D false) (b.atR a (.inRegion ops (i :: rest) :: k')) [] := .run hf hk hr hs hd htodo
      have hwt : wantedA ops T o = Region.wanted o (yielded ops a.tmps) := wanted_eq fun d _ => ht.2 d
      have h : operA E fc T D cs σ ops o (.inRegion ops (o :: l) :: k) = some S' := h
      unfold operA at h
      cases hw : wantedA ops T o with
      | false =>
        rw [hw] at h
        have h : ofFrame cs σ (finL fc T D false undefA (.inRegion ops (o :: l) :: k)) = some S' := h
        obtain ⟨fc', T', todo', D', ret', hF, rfl⟩ := ofFrame_some h
        have F' := fin_sim F hF (v' := Go.undef) R.undef
        rw [Frame.finish_atR] at F'
        have hstep := stepR_op_skip (P := E.P) (b := b) (a := a) (k := k') (cs := cs' ++ cs0) (w := w) (ops := ops) (i := i) (rest := rest) (by simp only [ho, Option.map_some, Option.getD_some]; rw [← hwt]; exact hw)
        exact ⟨ρ, _, cs', w, [], idss, .one hstep, ⟨F', hc, H, by simpa using nd, by simpa using lt⟩, Kept.refl _ _⟩
      | true =>
        rw [hw] at h
        have h : goOnO E fc T (.inRegion ops (o :: l) :: k) D cs σ (dop E T o σ) = some S' := h
        cases hdop : dop E T o σ with
        | none => rw [hdop] at h; cases h
        | some r =>
          rw [hdop] at h
          have h : goOn E fc T (.inRegion ops (o :: l) :: k) D cs σ r = some S' := h
          have hev : ∀ x ∈ o.op.operands, R ρ (ev T x) (a.eval x) := fun x _ => ev_spec ht.2 x
          exact go_sim EO hf hk hr hs hd htodo hc H (by simpa using nd) (by simpa using lt) ho (by rw [← hwt]; exact hw) (dop_sound EO H hev hdop) (dop_defer hdop) h
theorem draw_sim {id : Nat} {ops : Array Oper} (h : drawA E fc T D cs σ ops k = some S') : Nxt E N0 cs0 (b.atR a (.code (.region id ops true) :: k')) cs' w S' := by
  unfold drawA at h
  cases hform : formOk E ops (befores ops.toList []) ops.toList 0 with
  | false => rw [hform] at h; cases h
  | true =>
    rw [hform] at h
    simp only [cond_true, ds, Option.some.injEq] at h
    subst h
    have hfm : ∀ (i : Nat) (o : Oper), ops[i]? = some o → ∀ e ∈ o.after, Region.binds .any e = true → e.on < i := fun i o ho e he hb => by
      have := (formOk_spec hform i o (by simpa using ho)).1 e he hb; omega
    have hstep := stepR_region_draw (P := E.P) (b := b) (a := a) (k := k') (cs := cs' ++ cs0) (w := w) (ops := ops) (id := id)
    rw [EO.mixed] at hstep
    have DD : DRel E ρ T a.tmps ops (befores ops.toList []) 0 0 [] (fun _ => false) (Region.schedule true ops (w.tape w.drawn (.order b.fn id))) :=
      ⟨rfl, hform, ht.1, fun i h => (by cases h), fun i h => (by rw [hasBit_zero] at h; cases h), fun i o h => (by cases h), fun i o h => (by rw [hasBit_zero] at h; cases h), topo_schedule hfm _,
        fun t ht' => (by have := ht.2 t; rwa [Array.getD_eq_getD_getElem?, Array.getElem?_eq_none ht'] at this), fun t _ => ht.2 t, fun p hp => (by cases hp)⟩
    exact ⟨ρ, _, cs', { w with drawn := w.drawn + 1 }, [], idss, .one hstep, ⟨.run hf hk hr hs hd (.drawn DD hi), hc, H, by simpa using nd, by simpa using lt⟩, ⟨fun _ _ => rfl, rfl, rfl⟩⟩
theorem code_sim {c : Code} (hno : ∀ f ps x y, c ≠ .rangeFunc f ps x y) (h : codeA E fc T D cs σ k c = some S') : Nxt E N0 cs0 (b.atR a (.code c :: k')) cs' w S' := by
  cases c with
  | skip => exact move_sim hf hk hr hs hd ht hc H nd lt hi stepR_skip h
  | region id ops d =>
    cases d with
    | false => exact move_sim hf hk hr hs hd ht hc H nd lt (.cons (.inRegion (idx_all ops)) hi) stepR_region h
    | true => exact draw_sim EO hf hk hr hs hd ht hc H nd lt hi h
  | seq x y => exact move_sim hf hk hr hs hd ht hc H nd lt (.cons (.code _) (.cons (.code _) hi)) stepR_seq h
  | cond c x y =>
    have h : condA fc T D cs σ x y k (ev T c) = some S' := h
    have hv : R ρ (ev T c) (a.eval c) := ev_spec ht.2 c
    unfold condA at h
    split at h
    · rename_i v hev
      rw [hev] at hv
      generalize hae : a.eval c = av at hv
      cases hv
      unfold condV at h
      split at h
      · rename_i t
        have hx : (bif t then x else y) = (if t = true then x else y) := by cases t <;> rfl
        rw [hx] at h
        exact move_sim hf hk hr hs hd ht hc H nd lt (.cons (.code _) hi) (stepR_cond hae) h
      · cases h
    · cases h
  | block id x => exact move_sim hf hk hr hs hd ht hc H nd lt (.cons (.code _) (.cons (.inBlock _) hi)) stepR_block h
  | loop x => exact move_sim hf hk hr hs hd ht hc H nd lt (.cons (.code _) (.cons (.inLoop _) hi)) stepR_loop h
  | rangeFunc f ps x y => exact absurd rfl (hno f ps x y)
  | exit id =>
    have h : exitA fc T D cs σ id k = some S' := h
    unfold exitA at h
    split at h
    · rename_i k2 hk2
      obtain ⟨k2', h1, h2⟩ := exit_some hi hk2
      exact move_sim hf hk hr hs hd ht hc H nd lt h2 (stepR_exit h1) h
    · rename_i hk2
      exact leave_sim hf hk hr hs hd ht hc H nd lt (fun _ hj => by rcases hj with hj | hj <;> cases hj) (fun hb hkd hrun => stepR_round_exit hb hkd (exit_none hi hk2) hrun) h
  | scope x => exact move_sim hf hk hr hs hd ht hc H nd lt (.cons (.code _) (.cons (.inScope _) hi)) stepR_scope h
  | label l => exact move_sim hf hk hr hs hd ht hc H nd lt hi stepR_label h
  | goto l =>
    have h : gotoA fc T D cs σ l k = some S' := h
    unfold gotoA at h
    split at h
    · rename_i k2 hk2
      obtain ⟨k2', h1, h2⟩ := goto_some hi hk2
      exact move_sim hf hk hr hs hd ht hc H nd lt h2 (stepR_goto h1) h
    · rename_i hk2
      exact leave_sim hf hk hr hs hd ht hc H nd lt (fun _ hj => by rcases hj with hj | hj <;> cases hj) (fun hb hkd hrun => stepR_round_goto hb hkd (goto_none hi hk2) hrun) h
  | ret => exact leave_sim hf hk hr hs hd ht hc H nd lt (fun hb _ => stepR_ret hb) (fun hb hkd hrun => stepR_round_ret hb hkd hrun) h
  | refuse why => cases h
 omit EO in
theorem begin_sim (h : beginA fc T D cs σ k fc.roundOf = some S') : Nxt E N0 cs0 (b.atR a (.beginRound :: k')) cs' w S' := by
  unfold beginA at h
  split at h
  · rename_i l hro
    have hr0 := hr
    rw [hro] at hr0
    cases hb : b.roundOf with
    | none => rw [hb] at hr0; exact hr0.elim
    | some B =>
      rw [hb] at hr0
      obtain ⟨p, hp, rfl⟩ := hr0
      split at h
      · rename_i pend fn n Tl ps as bd dd hg
        simp only [ds, Option.some.injEq] at h
        subst h
        obtain ⟨c, q, h1, h2, h3, h4⟩ := H.blk l p _ hp hg
        have hrun := run_beginRound (P := E.P) (w := w) h1 rfl
        have hlt := H.low _ _ hp
        have hput := H.put hp hg (k := .loop .busy pend fn n Tl ps as bd dd) (h' := (w.putObj p.blk (.loop ⟨.busy, pend, fn, c, ps, as, bd, q.blk⟩)).heap) (by simp [World.putObj]) (fun x hx => by simp only [World.putObj]; rw [Array.getElem?_setIfInBounds_ne (fun e => hx e.symm)])
          ⟨c, q, by simp [World.putObj, hlt.2], h2, h3, h4⟩
        exact ⟨ρ, _, cs', _, [], idss, .one (stepR_beginRound hb hrun), ⟨.run hf hk hr hs hd (.plain ht hi), hc, hput, by simpa using nd, by rw [AHeap.put_next]; simpa using lt⟩, ⟨fun B hB => by simp only [World.putObj]; rw [Array.getElem?_setIfInBounds_ne (by omega)], rfl, rfl⟩⟩
      · cases h
  · cases h
 omit EO in
theorem endRange_sim {l : Nat} {p : Pl} (hp : ρ l = some p) (h : endRangeA fc T D cs σ l k = some S') : Nxt E N0 cs0 (b.atR a (.endRangeFunc p.blk :: k')) cs' w S' := by
  unfold endRangeA at h
  split at h
  · rename_i st pend fn n Tl ps as bd dd hg
    split at h
    · cases h
    · rename_i hst
      simp only [ds, Option.some.injEq] at h
      subst h
      obtain ⟨c, q, h1, h2, h3, h4⟩ := H.blk l p _ hp hg
      have hrun := run_endLoop (P := E.P) (w := w) h1 hst
      have hlt := H.low _ _ hp
      have hput := H.put hp hg (k := .loop .exhausted pend fn n Tl ps as bd dd) (h' := (w.putObj p.blk (.loop ⟨.exhausted, pend, fn, c, ps, as, bd, q.blk⟩)).heap) (by simp [World.putObj]) (fun x hx => by simp only [World.putObj]; rw [Array.getElem?_setIfInBounds_ne (fun e => hx e.symm)])
        ⟨c, q, by simp [World.putObj, hlt.2], h2, h3, h4⟩
      have hi2 : ITs ρ ((pend.map DItem.code).toList ++ k) ((pend.map Item.code).toList ++ k') := by
        cases pend with
        | none => exact hi
        | some c => exact .cons (.code c) hi
      exact ⟨ρ, _, cs', _, [], idss, .one (stepR_endRangeFunc hrun), ⟨.run hf hk hr hs hd (.plain ht hi2), hc, hput, by simpa using nd, by rw [AHeap.put_next]; simpa using lt⟩, ⟨fun B hB => by simp only [World.putObj]; rw [Array.getElem?_setIfInBounds_ne (by omega)], rfl, rfl⟩⟩
  · cases h
end
end Go.Det

/-! DetS9 -/
/-! Steps: a drawn region. -/
namespace Go.Det
section
variable {E : Env} (EO : EnvOk E) {ρ : Rho} {N0 : Nat} {cs0 : List Frame} {fc : FC} {T : Tm} {D : List ADef} {cs : List DFrame} {σ : AHeap} {b : Frame} {a : Act} {k : List DItem} {k' : List Item} {cs' : List Frame} {w : World} {idss : List Nat} {S' : DState}
  (hf : b.fn = fc.fn) (hk : b.kind = fc.kind) (hr : Ro ρ fc.roundOf b.roundOf) (hs : a.tmps.size = fc.n) (hd : Defs ρ D a.defers)
  (hc : CRel E ρ cs cs' idss) (H : HRel N0 ρ σ w.heap) (hi : ITs ρ k k')
 include EO hf hk hr hs hd hc H hi
theorem drawn_sim {ops : Array Oper} {bs : List Nat} {done settled : Nat} {early : List (Nat × Nat)} {X : Nat → Bool} {rest : List Nat} (DD : DRel E ρ T a.tmps ops bs done settled early X rest)
    (nd : (early.map (·.2) ++ idss).Nodup) (lt : ∀ x ∈ early.map (·.2) ++ idss, x < σ.next) (h : drawnStep E fc T D cs σ ops bs done settled early k = some S') :
    Nxt E N0 cs0 (b.atR a (.inRegion ops rest :: k')) cs' w S' := by
  have hnd := List.nodup_append.1 nd
  unfold drawnStep at h
  simp only [getO_eq] at h
  split at h
  · cases h
  · rename_i r hfa
    rw [← hs] at hfa
    have A0 : Ahead E N0 ρ a.tmps ops bs settled X rest w.heap { T, σ, done, early } := ⟨DD, H, hnd.1, fun p hp => lt p.2 (List.mem_append_left _ (List.mem_map.2 ⟨p, hp, rfl⟩))⟩
    obtain ⟨A, hnx, hnew⟩ := floatAll_spec _ A0 hfa
    simp only at hnx hnew
    split at h
    · cases h
    · rename_i hstill
      simp only [Bool.not_eq_true', Bool.not_eq_false] at hstill
      have still : ∀ i, i < ops.size → hasBit r.done i = true → hasBit settled i = false → stillFloat E ops r.T r.σ r.early i = true := fun i h1 h2 h3 => by
        have := allStill_spec hstill i (by simpa using h1) (by simpa using h2) (by simpa using h3)
        simpa using this
      obtain ⟨ρ', tmps', w', X', rest', b1, b2, b3, b4, b5, b6, b7, b8⟩ := catch_up EO still A.nd A.lt (b := b) (ds := a.defers) (k' := k') (cs := cs' ++ cs0) rest A.D A.H
      have hidss : ∀ x ∈ idss, ρ' x = ρ x := fun x hx => by
        have hxl := lt x (List.mem_append_right _ hx)
        refine b7 x (fun hm => ?_) (by omega)
        obtain ⟨p, hp, rfl⟩ := List.mem_map.1 hm
        rcases hnew p hp with h1 | h1
        · exact hnd.2.2 _ (List.mem_map.2 ⟨p, h1, rfl⟩) _ hx rfl
        · omega
      have nd' : (r.early.map (·.2) ++ idss).Nodup := List.nodup_append.2 ⟨A.nd, hnd.2.1, fun x hx y hy e => by
        subst e
        obtain ⟨p, hp, rfl⟩ := List.mem_map.1 hx
        rcases hnew p hp with h1 | h1
        · exact hnd.2.2 _ (List.mem_map.2 ⟨p, h1, rfl⟩) _ hy rfl
        · have := lt p.2 (List.mem_append_right _ hy); omega⟩
      have lt' : ∀ x ∈ r.early.map (·.2) ++ idss, x < r.σ.next := fun x hx => by
        rcases List.mem_append.1 hx with h1 | h1
        · obtain ⟨p, hp, rfl⟩ := List.mem_map.1 h1; exact A.lt p hp
        · have := lt x (List.mem_append_right _ h1); omega
      refine Nxt.before b1 b5 ?_
      split at h
      · rename_i hnone
        split at h
        · rename_i hall
          have hbits : ∀ i, i < ops.size → hasBit r.done i = true := fun i hi => by
            have hb : bit ops.size = 2 ^ ops.size := Nat.one_shiftLeft _
            have : r.done = 2 ^ ops.size - 1 := by omega
            rw [this, hasBit_tb, Nat.testBit_two_pow_sub_one]; simpa using hi
          cases rest' with
          | cons i rr => have h1 := b8 i rr rfl; have h2 := b2.topo.2.1; rw [hbits i h2] at h1; cases h1
          | nil =>
            have hX : ∀ i, i < ops.size → X' i = true := b2.topo
            have htr : TRel ρ' r.T tmps' := ⟨b2.size, fun t => b2.tm t fun i o h1 h2 h3 => by
              have := hX i (Array.getElem?_eq_some_iff.1 h3).1
              rw [this] at h2; cases h2⟩
            exact move_sim (b := b) (a := ⟨tmps', a.defers⟩) hf hk (hr.mono b6) (b3.trans hs) (hd.mono b6) htr (hc.mono b6 hidss) b4 hnd.2.1 (fun x hx => lt' x (List.mem_append_right _ hx)) (hi.mono b6) stepR_region_end h
        · cases h
      · rename_i m hm
        split at h
        · rename_i o hnone ho
          split at h
          · rename_i hwt
            obtain ⟨_, o1, ho1, c1, c2, _⟩ := firstReady_some hm
            cases rest' with
            | nil =>
              have := b2.topo m (Array.getElem?_eq_some_iff.1 ho).1
              rw [b2.sub m this] at c1; cases c1
            | cons i rr =>
              have d1 := b8 i rr rfl
              obtain ⟨t1, t2, t3, t4⟩ := b2.topo
              have him : i = m := by
                apply Classical.byContradiction
                intro hne
                obtain ⟨oi, hoi⟩ : ∃ o, ops[i]? = some o := ⟨ops[i], by simp [t2]⟩
                have hdep := t3 oi hoi
                have w1 : within (depMask oi.after.toList) r.done = true := within_of fun j hj => by
                  obtain ⟨e, he, h1, rfl⟩ := depMask_of hj
                  exact b2.sub _ (hdep e (by simpa using he) h1)
                have w2 : within (depMask oi.after.toList) (bit m ||| r.done) = true := within_of fun j hj => by
                  rw [hasBit_or, within_spec w1 j hj]; simp
                rcases firstReady_none hnone i oi (by simpa using hoi) with h1 | h1 | h1
                · rw [Nat.zero_add, hasBit_or, d1, hasBit_bit] at h1
                  simp at h1
                  exact hne h1.symm
                · rw [w2] at h1; cases h1
                · rw [w1] at h1; cases h1
              subst him
              have hdep := t3 o ho
              have D2 : DRel E ρ' r.T tmps' ops bs r.done (bs.getD i 0 ||| settled) r.early X' (i :: rr) :=
                ⟨b2.hbs, b2.form, b2.size, b2.sub, fun j hj => by
                    rw [hasBit_or, Bool.or_eq_true] at hj
                    rcases hj with hj | hj
                    · exact bs_ok i X' b2.closed (fun o' ho' => by rw [ho] at ho'; cases ho'; exact hdep) j (by rw [← b2.hbs]; exact hj)
                    · exact b2.set j hj, b2.closed, b2.quiet, b2.topo, b2.out, b2.tm, b2.pend⟩
              cases hdop : dop E r.T o r.σ with
              | none => rw [hdop] at h; cases h
              | some res =>
                rw [hdop] at h
                have h : goOn E fc r.T (.drawn ops bs r.done (bs.getD i 0 ||| settled) r.early (some i) :: k) D cs r.σ res = some S' := h
                have hev := b2.evals ho hdep (ds := a.defers)
                exact go_sim EO (b := b) (a := ⟨tmps', a.defers⟩) hf hk (hr.mono b6) (b3.trans hs) (hd.mono b6) (.cur D2 d1 (hi.mono b6)) (hc.mono b6 hidss) b4 nd' lt' ho (by rw [← b2.wanted ho hdep]; exact hwt) (dop_sound EO b4 hev hdop) (dop_defer hdop) h
          · cases h
        · cases h
end
end Go.Det

/-! DetS10 -/
/-! Steps: returns, ranges over functions. -/
namespace Go.Det
section
variable {E : Env} (EO : EnvOk E) {ρ : Rho} {N0 : Nat} {σ : AHeap} {w : World}
 include EO in
theorem results_sound (H : HRel N0 ρ σ w.heap) {T : Tm} {tmps : Array Value} (ht : TRel ρ T tmps) : ∀ (l : List ResultVar) {vs : List AVal}, resultsA E σ T l = some vs →
    ∃ vs', (l.mapM (fun (x : ResultVar) => (match x with
      | .tmp t => pure (tmps.getD t Go.undef)
      | .cell a t => do loadVar t (← asAddr (tmps.getD a Go.undef)) : Sem Value))).run E.P w = .ok vs' w ∧ Rs ρ vs vs'
  | [], vs, h => by
    simp only [resultsA, Option.some.injEq] at h
    subst h
    exact ⟨[], rfl, .nil⟩
  | .tmp t :: l, vs, h => by
    simp only [resultsA] at h
    split at h
    · rename_i r hr
      simp only [Option.some.injEq] at h
      subst h
      obtain ⟨vs', h1, h2⟩ := results_sound H ht l hr
      exact ⟨_, by simp only [List.mapM_cons, Sem.run_bind, Sem.run_pure, Result.andThen_ok, h1], .cons (ht.2 t) h2⟩
    · cases h
  | .cell a t :: l, vs, h => by
    simp only [resultsA] at h
    split at h
    · rename_i v r hv hr
      simp only [Option.some.injEq] at h
      subst h
      obtain ⟨vs', h1, h2⟩ := results_sound H ht l hr
      obtain ⟨v', h3, h4⟩ := loadA_sound (w := w) EO H (ht.2 a) hv
      have hR := ht.2 a
      have h5 : ((do loadVar t (← asAddr (tmps.getD a Go.undef))) : Sem Value).run E.P w = .ok v' w := by
        revert hv h3 hR
        generalize tget T a = A
        generalize tmps.getD a Go.undef = x
        intro hv h3 hR
        cases hR <;> simp only [loadA] at hv <;> try (cases hv; done)
        simpa [Instr.loadAt, Instr.sureAddr, asAddr] using h3
      refine ⟨v' :: vs', ?_, .cons h4 h2⟩
      simp only [List.mapM_cons, Sem.run_bind] at h5 ⊢
      rw [h5]
      simp only [Result.andThen_ok, h1, Sem.run_pure]
    · cases h
 include EO in
theorem result_sound (H : HRel N0 ρ σ w.heap) {T : Tm} {tmps : Array Value} (ht : TRel ρ T tmps) {fn : Func} {v : AVal} (h : resultA E σ fn T = some v) :
    ∃ v', (results fn tmps).run E.P w = .ok v' w ∧ R ρ v v' := by
  have main : ∀ vs, resultsA E σ T fn.results.toList = some vs → ∃ vs', (results fn tmps).run E.P w = .ok (if h : (⟨vs'⟩ : Array Value).size = 1 then (⟨vs'⟩ : Array Value)[0] else .tuple ⟨vs'⟩) w ∧ Rs ρ vs vs' := by
    intro vs hvs
    obtain ⟨vs', h1, h2⟩ := results_sound EO H ht _ hvs
    refine ⟨vs', ?_, h2⟩
    unfold results
    rw [Sem.run_bind, Array.mapM_eq_mapM_toList]
    have h3 := (Sem.run_map E.P w _ List.toArray).trans (congrArg (fun r => Result.andThen r fun a w' => Result.ok (List.toArray a) w') h1)
    exact congrArg (fun r => Result.andThen r fun a w' => Sem.run E.P (pure (if h : a.size = 1 then a[0] else Value.tuple a)) w') h3
  unfold resultA at h
  split at h
  · rename_i u hu
    simp only [Option.some.injEq] at h
    subst h
    obtain ⟨vs', h1, h2⟩ := main _ hu
    cases h2 with
    | cons hx ht =>
      cases ht
      exact ⟨_, h1, hx⟩
  · rename_i vs hne hvs
    simp only [Option.some.injEq] at h
    subst h
    obtain ⟨vs', h1, h2⟩ := main _ hvs
    refine ⟨.tuple ⟨vs'⟩, ?_, .tuple h2⟩
    rw [h1, dif_neg]
    intro h1
    have hl := h2.length
    simp only [List.size_toArray] at h1
    rw [h1] at hl
    obtain ⟨x, rfl⟩ := List.length_eq_one_iff.1 hl
    exact hne x rfl
  · cases h
theorem step_back {P : Program} {b c : Frame} {a : Act} {todo' : List Item} {cs : List Frame} {w : World} {fn : Func} {v : Value} (hd : a.defers = []) (hf : P.funcs[b.fn]? = some fn) (hr : (results fn a.tmps).run P w = .ok v w) (hk : b.kind = .normal) :
    step P (lone { b.atR a todo' with mode := .returning } (c :: cs) w) = .next (lone (c.finish v) cs w) :=
  step_lone_go (by simp [stepG, unwind, doReturn, Frame.atR, hd, hk, hf, hr, Sem.runT_eq])
theorem step_backD {P : Program} {b c : Frame} {a : Act} {todo' : List Item} {cs : List Frame} {w : World} {fn : Func} {v : Value} (hd : a.defers = []) (hf : P.funcs[b.fn]? = some fn) (hr : (results fn a.tmps).run P w = .ok v w) (hk : b.kind = .deferred) (hc : c.mode = .returning) :
    step P (lone { b.atR a todo' with mode := .returning } (c :: cs) w) = .next (lone c cs w) :=
  step_lone_go (by simp [stepG, unwind, doReturn, Frame.atR, hd, hk, hf, hr, hc, Sem.runT_eq])
theorem step_collected {P : Program} {b : Frame} {a : Act} {todo' : List Item} {cs : List Frame} {w w' : World} {r : Nat} {args : Array Value} {l calls : List Deferred} (hd : a.defers = { target := .collected r, args := args } :: l) (hr : (Instr.takeDeferred r).run P w = .ok calls w') :
    step P (lone { b.atR a todo' with mode := .returning } cs w) = .next (lone { b.atR { a with defers := calls ++ l } todo' with mode := .returning } cs w') :=
  step_lone_go (by simp [stepG, unwind, Frame.atR, hd, hr, Sem.runT_eq])
theorem step_deferred {P : Program} {b : Frame} {a : Act} {todo' : List Item} {cs : List Frame} {w w' : World} {f g : FuncId} {captured args args2 : Array Value} {l : List Deferred} (hd : a.defers = { target := .fn (.func f) captured, args := args } :: l)
    (hr : (callFunc f (args ++ captured)).run P w = .ok (.enter g args2) w') :
    step P (lone { b.atR a todo' with mode := .returning } cs w) = .next (lone (Frame.enter P g args2 .deferred) ({ b.atR { a with defers := l } todo' with mode := .returning } :: cs) w') :=
  step_lone_go (by simp [stepG, unwind, callDeferred, Frame.atR, hd, hr, invoke, Sem.runT_eq])
 include EO in
theorem unwind_sim {cs0 : List Frame} {fc : FC} {T : Tm} {todo : List DItem} {D : List ADef} {cs : List DFrame} {b : Frame} {a : Act} {todo' : List Item} {cs' : List Frame} {idss : List Nat} {S' : DState}
    (hf : b.fn = fc.fn) (hk : b.kind = fc.kind) (hr : fc.roundOf = none) (hr' : b.roundOf = none) (hs : a.tmps.size = fc.n) (hd : Defs ρ D a.defers) (ht : TRel ρ T a.tmps)
    (hc : CRel E ρ cs cs' idss) (H : HRel N0 ρ σ w.heap) (nd : idss.Nodup) (lt : ∀ x ∈ idss, x < σ.next) (h : unwindA E fc T todo cs σ D = some S') :
    Nxt E N0 cs0 { b.atR a todo' with mode := .returning } cs' w S' := by
  cases D with
  | nil =>
    generalize hds : a.defers = ds at hd
    cases hd
    simp only [unwindA] at h
    split at h
    · rename_i fn F cs1 hfn
      have hP := EO.fn _ _ hfn
      rw [← hf] at hP
      split at h
      · rename_i v hv
        obtain ⟨v', hrun, hvr⟩ := result_sound EO H ht hv
        unfold backA at h
        split at h
        · rename_i hkd
          have hro : Ro ρ fc.roundOf b.roundOf := by rw [hr, hr']; trivial
          refine pop_sim (b := b) (a := a) (fc := fc) (T := T) (D := []) hf hk hro hs (by rw [hds]; exact .nil) ht hc H nd lt hvr H (Nat.le_refl _) (Kept.refl _ _) (fun c cs1 e => ?_) h
          subst e
          exact step_back hds hP hrun (hk.trans hkd)
        · rename_i hkd
          obtain ⟨c, Tc, kk, Dc, rr⟩ := F
          cases rr with
          | false => cases h
          | true =>
            have h : some (DState.mk c Tc kk Dc true cs1 σ) = some S' := h
            simp only [Option.some.injEq] at h
            subst h
            cases hc with
            | @cons _ frc idc _ l' idss' hFc hcs =>
              have hmode : frc.mode = .returning := by cases hFc; rfl
              exact ⟨ρ, frc, l', w, idc, idss', .one (step_backD hds hP hrun (hk.trans hkd) hmode), ⟨hFc, hcs, H, nd, lt⟩, Kept.refl _ _⟩
        · cases h
      · cases h
    · cases h
  | cons d D =>
    generalize hds : a.defers = ds at hd
    cases hd with
    | @cons _ d' _ l' hdd hdl =>
    cases hdd with
    | @collected r p hp =>
      simp only [unwindA] at h
      split at h
      · rename_i hg
        simp only [Option.some.injEq] at h
        subst h
        have h1 := H.blk r p _ hp hg
        have hrun := run_takeDeferred (P := E.P) (w := w) (ds := []) h1
        have hlt := H.low _ _ hp
        have hput := H.put hp hg (k := .deferred true) (h' := (w.putObj p.blk (.deferred none)).heap) (by simp [World.putObj]) (fun x hx => by simp only [World.putObj]; rw [Array.getElem?_setIfInBounds_ne (fun e => hx e.symm)])
          (by simp [BRel, World.putObj, hlt.2])
        exact ⟨ρ, _, cs', _, [], idss, .one (step_collected hds hrun), ⟨.ret (a := { a with defers := [] ++ l' }) hf hk hr hr' hs hdl ht, hc, hput, by simpa using nd, by rw [AHeap.put_next]; simpa using lt⟩, ⟨fun B hB => by simp only [World.putObj]; rw [Array.getElem?_setIfInBounds_ne (by omega)], rfl, rfl⟩⟩
      · cases h
    | @call f c ar c' ar' hcc har =>
      cases f with
      | func f =>
        have h : (match callF E σ f (ar ++ c) with | some (.enter f args) => ofFrame (.mk fc T todo D true :: cs) σ (enterA E f args .deferred) | _ => none) = some S' := h
        split at h
        · rename_i g args hcf
          have hg := callF_sound EO H (har.append hcc) hcf
          obtain ⟨args', hrun, ha⟩ := hg
          obtain ⟨fc', T', todo2, D', ret', hF, rfl⟩ := ofFrame_some h
          have e : (⟨ar'⟩ : Array Value) ++ ⟨c'⟩ = ⟨ar' ++ c'⟩ := by apply Array.ext'; simp
          rw [← e] at hrun
          exact ⟨ρ, _, _ :: cs', w, [], [] ++ idss, .one (step_deferred hds hrun), ⟨enter_spec EO hF ha, .cons (.ret (a := { a with defers := l' }) hf hk hr hr' hs hdl ht) hc, H, by simpa using nd, by simpa using lt⟩, Kept.refl _ _⟩
        · cases h
      | _ => cases h
end
end Go.Det

/-! DetS11 -/
/-! Steps: ranges over functions; all steps; runs. -/
namespace Go.Det
/-- The callee's value, and the call, apart. -/
theorem apart_call {P : Program} {f : Value} {args : Array Value} {w : World} {g : FuncId} {args2 : Array Value} (h : (do let d ← Deferred.ofValue f args; invoke d.target d.args : Sem Next).run P w = .ok (.enter g args2) w) :
    ∃ d, (Deferred.ofValue f args).run P w = .ok d w ∧ (invoke d.target d.args).run P w = .ok (.enter g args2) w := by
  cases f <;> simp only [Deferred.ofValue] at h ⊢ <;> first | exact ⟨_, rfl, h⟩ | (exfalso; revert h; simp [stuck, Sem.run, Result.andThen]; done) | skip
theorem Defs.append {ρ : Rho} {l m : List ADef} {l' m' : List Deferred} (h : Defs ρ l l') (k : Defs ρ m m') : Defs ρ (l ++ m) (l' ++ m') := by
  induction h with
  | nil => exact k
  | cons hx t ih => exact .cons hx ih
section
variable {E : Env} (EO : EnvOk E) {ρ : Rho} {N0 : Nat} {cs0 : List Frame} {fc : FC} {T : Tm} {D : List ADef} {cs : List DFrame} {σ : AHeap} {b : Frame} {a : Act} {k : List DItem} {k' : List Item} {cs' : List Frame} {w : World} {idss : List Nat} {S' : DState}
  (hf : b.fn = fc.fn) (hk : b.kind = fc.kind) (hr : Ro ρ fc.roundOf b.roundOf) (hs : a.tmps.size = fc.n) (hd : Defs ρ D a.defers) (ht : TRel ρ T a.tmps)
  (hc : CRel E ρ cs cs' idss) (H : HRel N0 ρ σ w.heap) (nd : idss.Nodup) (lt : ∀ x ∈ idss, x < σ.next) (hi : ITs ρ k k')
 include EO hf hk hr hs hd ht hc H nd lt hi
theorem rangeFunc_sim {g : Operand} {ps : Array Tmp} {assign body : Code} (h : rangeFuncA E fc T D cs σ g ps assign body k = some S') : Nxt E N0 cs0 (b.atR a (.code (.rangeFunc g ps assign body) :: k')) cs' w S' := by
  unfold rangeFuncA at h
  split at h
  · rename_i d σ1 mark h0
    split at h
    · rename_i l σ2 hnl
      -- the record is laid
      have laid : ∃ (ρ2 : Rho) (p : Pl) (mark' : List Deferred) (w2 : World), (Instr.enterLoop b.fn a.tmps ps assign body b.roundOf).run E.P w = .ok (p.blk, mark') w2 ∧ HRel N0 ρ2 σ2 w2.heap ∧ ρ2 l = some p ∧ Defs ρ2 mark mark' ∧ Ext ρ ρ2 σ.next ∧ Kept N0 w w2 ∧ σ.next ≤ σ2.next := by
        have nsp := AHeap.new_spec hnl
        cases hro : fc.roundOf with
        | none =>
          rw [hro] at h0 hr
          have hb : b.roundOf = none := by cases hb : b.roundOf with
            | none => rfl
            | some l => rw [hb] at hr; exact hr.elim
          simp only at h0
          split at h0
          · rename_i b1 σ3 hn1
            simp only [Option.some.injEq, Prod.mk.injEq] at h0
            obtain ⟨rfl, rfl, rfl⟩ := h0
            have nsp1 := AHeap.new_spec hn1
            obtain ⟨A1, A2, A3⟩ := H.alloc hn1 (o := .deferred (some [])) (ext := 0) (by simp [BRel])
            have no2 : (ρ.upd b1 ⟨w.heap.size, 0, 0⟩) l = none := A1.fresh (by omega)
            obtain ⟨B1, B2, B3⟩ := A1.alloc hnl (o := .loop ⟨.ready, none, b.fn, a.tmps, ps, assign, body, w.heap.size⟩) (ext := 0)
              ⟨a.tmps, ⟨w.heap.size, 0, 0⟩, by rw [hf]; exact Array.getElem?_push_size, (ht.mono A2.1).mono (Rho.le_upd _ _ no2), hs, Rho.le_upd _ _ no2 _ _ (Rho.upd_same _ _ _)⟩
            refine ⟨_, ⟨(w.heap.push (.deferred (some []))).size, 0, 0⟩, [{ target := .collected w.heap.size, args := #[] }], { w with heap := (w.heap.push (.deferred (some []))).push (.loop ⟨.ready, none, b.fn, a.tmps, ps, assign, body, w.heap.size⟩) }, ?_, B1, Rho.upd_same _ _ _, .cons (.collected (p := ⟨w.heap.size, 0, 0⟩) (Rho.le_upd _ _ no2 _ _ (Rho.upd_same _ _ _))) .nil, A2.trans B2 (by omega), ⟨A3.trans B3, rfl, rfl⟩, by omega⟩
            · rw [hb, run_enterLoop_outer]
              show _ = Result.ok ((w.heap.push (.deferred (some []))).size, _) _
              rw [Array.size_push]
              rfl
          · cases h0
        | some l0 =>
          rw [hro] at h0 hr
          cases hb : b.roundOf with
          | none => rw [hb] at hr; exact hr.elim
          | some B0 =>
            rw [hb] at hr
            obtain ⟨p0, hp0, rfl⟩ := hr
            simp only at h0
            split at h0
            · rename_i st pend fn n Tl ps0 as bd dd hg
              simp only [Option.some.injEq, Prod.mk.injEq] at h0
              obtain ⟨rfl, rfl, rfl⟩ := h0
              obtain ⟨c, q, h1, h2, h3, h4⟩ := H.blk l0 p0 _ hp0 hg
              have no2 : ρ l = none := H.fresh (by omega)
              obtain ⟨B1, B2, B3⟩ := H.alloc hnl (o := .loop ⟨.ready, none, b.fn, a.tmps, ps, assign, body, q.blk⟩) (ext := 0)
                ⟨a.tmps, q, by rw [hf]; exact Array.getElem?_push_size, ht.mono (Rho.le_upd _ _ no2), hs, Rho.le_upd _ _ no2 _ _ h4⟩
              exact ⟨_, _, _, { w with heap := w.heap.push (.loop ⟨.ready, none, b.fn, a.tmps, ps, assign, body, q.blk⟩) }, by rw [run_enterLoop_inner h1]; rfl, B1, Rho.upd_same _ _ _, .nil, B2, ⟨B3, rfl, rfl⟩, by omega⟩
            · cases h0
      obtain ⟨ρ2, p, mark', w2, e1, H2, hp, hm, hext, hkept, hnx⟩ := laid
      split at h
      · rename_i g' args hcv
        have hv : R ρ2 (ev T g) (a.eval g) := (ev_spec ht.2 g).mono hext.1
        obtain ⟨args', hrun, ha⟩ := callV_sound EO H2 hv (.cons (.yield hp) .nil) hcv
        obtain ⟨dd, hd1, hd2⟩ := apart_call hrun
        obtain ⟨fc', T', todo', D', ret', hF, rfl⟩ := ofFrame_some h
        have hstep := stepR_rangeFunc (P := E.P) (b := b) (a := a) (k := k') (cs := cs' ++ cs0) (w := w) (g := g) (ps := ps) (assign := assign) (body := body) (l := p.blk) (mark := mark') (w₁ := w2) (w₁' := w2) (w₂ := w2) (d := dd) (f := g') (args := ⟨args'⟩) e1
          (by simpa [resolve, Act.eval] using hd1) hd2
        have hdm : Defs ρ2 (mark ++ D) (mark' ++ a.defers) := hm.append (hd.mono hext.1)
        have hsame : ∀ x ∈ idss, ρ2 x = ρ x := fun x hx => hext.2 x (lt x hx)
        exact ⟨ρ2, _, _ :: cs', w2, [], [] ++ idss, .one hstep, ⟨enter_spec EO hF ha, .cons (.run (a := { a with defers := mark' ++ a.defers }) hf hk (by exact hr.mono hext.1) hs hdm (.plain (ht.mono hext.1) (.cons (.inRangeFunc hp) (hi.mono hext.1)))) (hc.mono hext.1 hsame), H2, by simpa using nd, fun x hx => by have := lt x (by simpa using hx); omega⟩, hkept⟩
      · cases h
    · cases h
  · cases h
end
end Go.Det

/-! DetS12 -/
/-! All steps; runs. -/
namespace Go.Det
section
variable {E : Env} (EO : EnvOk E) {N0 : Nat}
 include EO
theorem step_sim {ρ : Rho} {S S' : DState} {fr : Frame} {cs' : List Frame} {w : World} {ids idss : List Nat} (h : dstep E S = some S') (R0 : SRelS E N0 ρ S fr cs' w ids idss) (cs0 : List Frame) : Nxt E N0 cs0 fr cs' w S' := by
  obtain ⟨fc, T, todo, D, ret, cs, σ⟩ := S
  obtain ⟨hF, hc, H, nd, lt⟩ := R0
  cases hF with
  | ret hf hk hr hr' hs hd ht => exact unwind_sim EO hf hk hr hr' hs hd ht hc H (by simpa using nd) (by simpa using lt) h
  | @run _ _ _ _ b a todo' _ hf hk hr hs hd htd =>
    have h : todoA E fc T todo D cs σ = some S' := h
    cases htd with
    | plain ht hi =>
      have nd : idss.Nodup := by simpa using nd
      have lt : ∀ x ∈ idss, x < σ.next := by simpa using lt
      cases hi with
      | nil => exact leave_sim hf hk hr hs hd ht hc H nd lt (fun hb _ => stepR_end hb) (fun hb hkd hrun => stepR_round_end hb hkd hrun) h
      | cons hi hk' =>
        cases hi with
        | code c =>
          cases c with
          | rangeFunc f ps x y => exact rangeFunc_sim EO hf hk hr hs hd ht hc H nd lt hk' h
          | _ => exact code_sim EO hf hk hr hs hd ht hc H nd lt hk' (fun _ _ _ _ e => by cases e) h
        | inBlock id => exact move_sim hf hk hr hs hd ht hc H nd lt hk' stepR_inBlock h
        | inLoop body => exact move_sim hf hk hr hs hd ht hc H nd lt (.cons (.code _) (.cons (.inLoop _) hk')) stepR_inLoop h
        | inScope body => exact move_sim hf hk hr hs hd ht hc H nd lt hk' stepR_inScope h
        | inRegion hidx => exact reg_sim EO hf hk hr hs hd ht hc H nd lt hk' hidx h
        | inRangeFunc hl => cases h
        | endRangeFunc hl => exact endRange_sim hf hk hr hs hd ht hc H nd lt hk' hl h
        | beginRound => exact begin_sim hf hk hr hs hd ht hc H nd lt hk' h
    | drawn DD hk' => exact drawn_sim EO hf hk hr hs hd hc H hk' DD nd lt h
    | cur DD hm hk' => cases h
theorem run_sim : ∀ (n : Nat) {ρ : Rho} {S : DState} {fr : Frame} {cs' : List Frame} {w : World} {ids idss : List Nat}, SRelS E N0 ρ S fr cs' w ids idss → ∀ cs0, Nxt E N0 cs0 fr cs' w (drun E n S)
  | 0, ρ, S, fr, cs', w, ids, idss, R0, cs0 => ⟨ρ, fr, cs', w, ids, idss, .refl _ _, R0, Kept.refl _ _⟩
  | n + 1, ρ, S, fr, cs', w, ids, idss, R0, cs0 => by
    cases hd : dstep E S with
    | none =>
      have e : drun E (n + 1) S = S := by
        show (Option.rec (motive := fun _ => (Env → DState → DState) → Env → DState → DState) (fun _ _ S => S) (fun S' ih E _ => ih E S') (dstep E S) (fun E S => drun E n S) E S) = S
        rw [hd]
      rw [e]
      exact ⟨ρ, fr, cs', w, ids, idss, .refl _ _, R0, Kept.refl _ _⟩
    | some S1 =>
      have e : drun E (n + 1) S = drun E n S1 := by
        show (Option.rec (motive := fun _ => (Env → DState → DState) → Env → DState → DState) (fun _ _ S => S) (fun S' ih E _ => ih E S') (dstep E S) (fun E S => drun E n S) E S) = drun E n S1
        rw [hd]
      rw [e]
      obtain ⟨ρ1, fr1, cs1, w1, i1, j1, s1, r1, k1⟩ := step_sim EO hd R0 cs0
      exact Nxt.before s1 k1 (run_sim n r1 cs0)
end
def isNormal : CallKind → Bool | .normal => true | _ => false
/-- What our run ends with. -/
noncomputable def endsA (E : Env) (f : FuncId) : DState → Option AVal
  | .mk fc T _ [] true [] σ => if Nat.beq fc.fn f && isNormal fc.kind then (match E.fn.get f with | some fn => resultA E σ fn T | none => none) else none
  | _ => none
/-- The state in which a call begins. -/
noncomputable def startA (E : Env) (f : FuncId) (args : List AVal) : Option DState := ofFrame [] ⟨0, .leaf⟩ (enterA E f args .normal)
theorem start_hrel (h : Array Obj) : HRel h.size (fun _ => none) ⟨0, .leaf⟩ h :=
  ⟨fun b p k hp => (by cases hp), fun b b' p p' k k' hp => (by cases hp), fun b p hp => (by cases hp), fun b p hp => (by cases hp), by simp, Nat.le_refl _⟩
/-- A closed call: what our run says of it holds in any world. -/
theorem calls_of {E : Env} (EO : EnvOk E) {f : FuncId} {args : List AVal} {args' : List Value} {S0 : DState} (ha : Rs (fun _ => none) args args') (h0 : startA E f args = some S0) {n : Nat} {S1 : DState} (hn : drun E n S0 = S1)
    {v : AVal} (hv : endsA E f S1 = some v) (w : World) : Calls E.P f ⟨args'⟩ w fun e w' => (∃ v' ρ', e = .returned v' ∧ R ρ' v v') ∧ Kept w.heap.size w w' := by
  intro cs
  obtain ⟨fc, T, todo, D, ret, hF, rfl⟩ := ofFrame_some h0
  have F0 := enter_spec EO hF ha
  have S0' : SRelS E w.heap.size (fun _ => none) (.mk fc T todo D ret [] ⟨0, .leaf⟩) (Frame.enter E.P f ⟨args'⟩ .normal) [] w [] [] := ⟨F0, .nil, start_hrel _, by simp, by simp⟩
  obtain ⟨ρ', fr2, cs2, w2, ids2, idss2, s1, r1, k1⟩ := run_sim EO n S0' cs
  rw [hn] at r1
  unfold endsA at hv
  split at hv
  · rename_i fc1 T1 todo1 σ1
    split at hv
    · rename_i hcond
      simp only [Bool.and_eq_true] at hcond
      obtain ⟨hc1, hc2⟩ := hcond
      have hfn := Nat.eq_of_beq_eq_true hc1
      have hkd : fc1.kind = .normal := by cases hk : fc1.kind <;> rw [hk] at hc2 <;> first | rfl | cases hc2
      split at hv
      · rename_i fn hget
        obtain ⟨hF1, hcs, H, _, _⟩ := r1
        cases hcs
        cases hF1 with
        | @ret _ _ _ _ b a todo' hf hk hr hr' hs hd ht =>
        obtain ⟨v', hrun, hvr⟩ := result_sound EO H ht hv
        have hds : a.defers = [] := by generalize a.defers = l at hd; cases hd; rfl
        refine ⟨.returned v', w2, _, ⟨⟨v', ρ', rfl, hvr⟩, k1⟩, s1, hf.trans hfn, rfl, hds, hk.trans hkd, fn, ?_, hrun⟩
        have := EO.fn _ _ hget
        rw [← hfn, ← hf] at this
        exact this
      · cases hv
    · cases hv
  · cases hv
/-- The same, where it answers with a plain value. -/
theorem calls_lit {E : Env} (EO : EnvOk E) {f : FuncId} {S0 : DState} (h0 : startA E f [] = some S0) {n : Nat} {S1 : DState} (hn : drun E n S0 = S1) {v : Value} (hv : endsA E f S1 = some (.lit v)) (w : World) :
    Calls E.P f #[] w fun e w' => e = .returned v ∧ Kept w.heap.size w w' :=
  Calls.mono (calls_of EO .nil h0 hn hv w) fun e w' h => by
    obtain ⟨⟨v', ρ', rfl, hr⟩, hk⟩ := h
    cases hr
    exact ⟨rfl, hk⟩
end Go.Det

/-! DetS13 -/
/-! Tables out of lists; a closed call by one equation. -/
namespace Go.Det
def splitL {α : Type} : List α → List α × List α
  | [] => ([], [])
  | a :: l => (a :: (splitL l).2, (splitL l).1)
theorem splitL_get {α : Type} : ∀ (l : List α) (k : Nat), (splitL l).1[k]? = l[2 * k]? ∧ (splitL l).2[k]? = l[2 * k + 1]?
  | [], k => by simp [splitL]
  | a :: l, k => by
    have ih := splitL_get l
    simp only [splitL]
    cases k with
    | zero => simpa using (ih 0).1
    | succ k =>
      refine ⟨?_, ?_⟩
      · rw [List.getElem?_cons_succ, (ih k).2, show 2 * (k + 1) = 2 * k + 1 + 1 by omega, List.getElem?_cons_succ]
      · rw [(ih (k + 1)).1, List.getElem?_cons_succ]
theorem splitL_length {α : Type} : ∀ (l : List α), (splitL l).1.length ≤ l.length ∧ (splitL l).2.length ≤ l.length
  | [] => by simp [splitL]
  | a :: l => by have := splitL_length l; simp only [splitL, List.length_cons]; omega
def treeOf {α : Type} : Nat → List α → T α
  | 0, _ => .leaf
  | _, [] => .leaf
  | n + 1, a :: l => .node (treeOf n (splitL l).1) (some a) (treeOf n (splitL l).2)
theorem treeOf_get {α : Type} : ∀ (n : Nat) (l : List α) (i : Nat) (x : α), (treeOf n l).get i = some x → l[i]? = some x
  | 0, l, i, x, h => by cases h
  | n + 1, [], i, x, h => by cases h
  | n + 1, a :: l, i, x, h => by
    simp only [treeOf] at h
    rw [T.get_node] at h
    split at h
    · rename_i e; subst e; simpa using h
    · split at h
      · have := treeOf_get n _ _ _ h
        rw [(splitL_get l (i / 2)).1] at this
        rw [show i = 2 * (i / 2) + 1 by omega, List.getElem?_cons_succ]; exact this
      · have := treeOf_get n _ _ _ h
        rw [(splitL_get l (i / 2 - 1)).2] at this
        rw [show i = 2 * (i / 2 - 1) + 1 + 1 by omega, List.getElem?_cons_succ]; exact this
theorem info_lt' {P : Program} {t : TypeId} (h : t < P.types.size) : P.info? t = P.types[t]? := by
  unfold Tables.info?
  rw [if_pos h]
theorem envOk_of {E : Env} (hf : E.fn = treeOf 24 E.P.funcs.toList) (ht : E.ty = treeOf 24 E.P.types.toList) (hn : (E.P.funcs.toList.all fun fn => !(fn.name == "runtime.NumGoroutine")) = true) (hm : E.P.follows .mixedOrders = true) : EnvOk E := by
  have key : ∀ (f : Nat) (fn : Func), E.P.funcs[f]? = some fn → (fn.name == "runtime.NumGoroutine") = false := fun f fn h => by
    have := List.all_eq_true.1 hn fn (by rw [← Array.getElem?_toList] at h; exact List.mem_of_getElem? h)
    simpa using this
  refine ⟨fun f fn h => ?_, fun t i h => ?_, fun f fn h _ => key f fn h, fun f fn h _ => key f fn h, hm⟩
  · rw [hf] at h
    rw [← Array.getElem?_toList]; exact treeOf_get _ _ _ _ h
  · rw [ht] at h
    have h1 : E.P.types[t]? = some i := by rw [← Array.getElem?_toList]; exact treeOf_get _ _ _ _ h
    rw [info_lt' (Array.getElem?_eq_some_iff.1 h1).1]; exact h1
/-- What a closed call answers, as our run has it. -/
noncomputable def closedA (E : Env) (f : FuncId) (n : Nat) : Option AVal :=
  match startA E f [] with | some S => endsA E f (drun E n S) | none => none
theorem calls_closed {E : Env} (EO : EnvOk E) {f : FuncId} {n : Nat} {v : Value} (h : closedA E f n = some (.lit v)) (w : World) : Calls E.P f #[] w fun e w' => e = .returned v ∧ Kept w.heap.size w w' := by
  unfold closedA at h
  split at h
  · rename_i S hS
    exact calls_lit EO hS rfl h w
  · cases h
end Go.Det
