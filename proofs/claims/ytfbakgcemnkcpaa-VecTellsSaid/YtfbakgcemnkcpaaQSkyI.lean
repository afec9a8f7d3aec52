/- Regions that draw their order: whatever order is drawn, the evaluator's end is reached. -/
import Derived.Test.YtfbakgcemnkcpaaQSkyH
set_option linter.unusedSimpArgs false
set_option linter.unusedVariables false
namespace Go.Sky
open Go.RowKit (Below)

def maskA (S : List Tmp) (l : List AV) : List AV := (List.range l.length).map fun t => if t ∈ S then l.getD t .undef else .undef
def maskV (S : List Tmp) (a : Array Value) (n : Nat) : Array Value := ((List.range n).map fun t => if t ∈ S then a.getD t Go.undef else Go.undef).toArray

theorem maskA_get {S : List Tmp} {l : List AV} {t : Tmp} (h : t ∈ S) : (maskA S l).getD t .undef = l.getD t .undef := by
  unfold maskA
  by_cases ht : t < l.length
  · simp [List.getD_eq_getElem?_getD, ht, h]
  · simp [List.getD_eq_getElem?_getD, ht]

theorem maskV_get {S : List Tmp} {a : Array Value} {n : Nat} {t : Tmp} (h : t ∈ S) (hn : a.size = n) : (maskV S a n).getD t Go.undef = a.getD t Go.undef := by
  unfold maskV
  by_cases ht : t < n
  · simp [Array.getD_eq_getD_getElem?, ht, h]
  · simp [Array.getD_eq_getD_getElem?, ht, hn]

theorem mask_rel {φ : Ren} {S : List Tmp} {l : List AV} {a : Array Value} (hn : a.size = l.length) (h : ∀ t ∈ S, ARel φ (l.getD t .undef) (a.getD t Go.undef)) : LRel φ (maskA S l) (maskV S a l.length).toList := by
  unfold maskA maskV
  simp only
  refine LRel.map_range _ fun t => ?_
  by_cases ht : t ∈ S
  · rw [if_pos ht, if_pos ht]; exact h t ht
  · rw [if_neg ht, if_neg ht]; exact ARel.undef

section
variable {P : Program} {B : Nat} {w0 : World} {call0 call : CallA} {ops : Array Oper} {m : Nat} {h0 : AH} {φ : Ren} {tr : Nat → St}

theorem alloc_shape {s : St} {op : Op} {v : AV} {h' : AH} (ha : isAlloc op = true) (hr : (evOp P s op).run = some (v, h')) : ∃ cs, h' = s.heap ++ [cs] := by
  cases op <;> simp only [isAlloc, Bool.false_eq_true] at ha <;> simp only [evOp] at hr
  case alloc t =>
    (replace hr := opt_run hr); obtain ⟨z, hz, hr⟩ := hr
    simp only [newBlock, Tr.run, Option.some.injEq, Prod.mk.injEq] at hr
    exact ⟨_, hr.2.symm⟩
  case box t x =>
    (replace hr := opt_run hr); obtain ⟨z, hz, hr⟩ := hr
    simp only [newBlock, Tr.run, Option.some.injEq, Prod.mk.injEq] at hr
    exact ⟨_, hr.2.symm⟩
  case buildSlice t n ps =>
    (replace hr := opt_run hr); obtain ⟨ps, hps, hr⟩ := hr
    cases hu : P.underlying t with
    | none => simp [hu, Tr.run] at hr
    | some d =>
      cases d <;> simp only [hu] at hr <;> first | (simp [Tr.run] at hr; done) | skip
      case slice elem =>
        (replace hr := opt_run hr); obtain ⟨size, hs, hr⟩ := hr
        (replace hr := opt_run hr); obtain ⟨z, hz, hr⟩ := hr
        split at hr
        · simp [Tr.run] at hr
        · (replace hr := opt_run hr); obtain ⟨cs, hcs, hr⟩ := hr
          simp only [Tr.run, Option.some.injEq, Prod.mk.injEq] at hr
          exact ⟨_, hr.2.symm⟩

theorem execF_run {s : St} {o : Oper} {v : AV} {h' : AH} (h : (execF P call0 h0 s o).run = some (v, h')) :
    (isAlloc o.op = true ∧ (evOp P s o.op).run = some (v, h')) ∨
    (h' = s.heap ∧ isAlloc o.op = false ∧ ((isReader o.op = true ∧ ∃ h2, (evOp P ⟨s.tmps, h0⟩ o.op).run = some (v, h2)) ∨ (∃ c h2, o.op = .call c ∧ (evCallOp P call0 ⟨s.tmps, h0⟩ c).run = some (v, h2)))) := by
  unfold execF at h
  split at h
  · rename_i ha; exact .inl ⟨ha, h⟩
  · rename_i ha
    refine .inr ?_
    split at h
    · rename_i hr
      obtain ⟨⟨v2, h2⟩, h3, h4⟩ := run_bind_some h
      simp only [Tr.run, Option.some.injEq, Prod.mk.injEq] at h4
      obtain ⟨rfl, rfl⟩ := h4
      exact ⟨rfl, by simpa using ha, .inl ⟨hr, h2, h3⟩⟩
    · split at h
      · rename_i c ho
        obtain ⟨⟨v2, h2⟩, h3, h4⟩ := run_bind_some h
        simp only [Tr.run, Option.some.injEq, Prod.mk.injEq] at h4
        obtain ⟨rfl, rfl⟩ := h4
        exact ⟨rfl, by simpa using ha, .inr ⟨c, h2, ho, h3⟩⟩
      · simp [Tr.run] at h

/-- The floating operations' states, in the text's order. -/
structure Trace (P : Program) (call0 : CallA) (ops : Array Oper) (m : Nat) (h0 : AH) (tr : Nat → St) : Prop where
  start : (tr 0).heap = h0
  step : ∀ (i : Nat) (o : Oper), i < m → ops[i]? = some o → Step1 (execF P call0 h0) ops (tr i) o (tr (i + 1))

theorem Trace.heap (T : Trace P call0 ops m h0 tr) (F : Fok ops m) {i : Nat} (hi : i < m) : (tr (i + 1)).heap = (tr i).heap ∨ ∃ cs, (tr (i + 1)).heap = (tr i).heap ++ [cs] := by
  have hs : i < ops.size := Nat.lt_of_lt_of_le hi F.le
  rcases T.step i _ hi (Array.getElem?_eq_getElem hs) with ⟨_, h⟩ | ⟨_, ⟨_, _, _, _, _, _, _, _, _, h⟩ | ⟨_, ⟨v, h'⟩, hr, h⟩⟩
  · rw [h]; exact .inl rfl
  · rw [h]; exact .inl rfl
  · rw [h]
    rcases execF_run hr with ⟨h1, h2⟩ | ⟨h1, _⟩
    · exact .inr (alloc_shape h1 h2)
    · exact .inl h1

theorem Trace.mono (T : Trace P call0 ops m h0 tr) (F : Fok ops m) {i : Nat} : ∀ n, i + n ≤ m → (tr i).heap.length ≤ (tr (i + n)).heap.length
  | 0, _ => Nat.le_refl _
  | n + 1, h => by
    have h1 := T.mono F (i := i) n (by omega)
    rcases T.heap F (i := i + n) (by omega) with h2 | ⟨cs, h2⟩
    · rw [show i + (n + 1) = i + n + 1 by omega, h2]; exact h1
    · rw [show i + (n + 1) = i + n + 1 by omega, h2]; simp; omega

theorem Trace.base (T : Trace P call0 ops m h0 tr) (F : Fok ops m) {i : Nat} (h : i ≤ m) : h0.length ≤ (tr i).heap.length := by
  have := T.mono F (i := 0) i (by omega)
  rw [T.start] at this; simpa using this

theorem Trace.keeps (T : Trace P call0 ops m h0 tr) (F : Fok ops m) {t : Tmp} {i : Nat} (n : Nat) (hn : i + n ≤ m) (hd : ∀ j o, i ≤ j → j < i + n → ops[j]? = some o → o.dst ≠ some t) :
    (tr (i + n)).tmps.getD t .undef = (tr i).tmps.getD t .undef := by
  have hl : (ops.toList.take m).length = m := by simp [Nat.min_eq_left F.le]
  refine trace_keeps (exec := execF P call0 h0) (ops := ops) (l := ops.toList.take m) (fun i o e => ?_) n (by omega) (fun j o h1 h2 h3 => hd j o h1 h2 ?_)
  · rw [List.getElem?_take] at e
    split at e
    · rename_i hi; exact T.step i o hi (by simpa using e)
    · cases e
  · rw [List.getElem?_take] at h3
    split at h3
    · simpa using h3
    · cases h3

theorem Trace.len (T : Trace P call0 ops m h0 tr) (F : Fok ops m) {i : Nat} (hi : i ≤ m) : (tr i).tmps.length = (tr 0).tmps.length := by
  have hl : (ops.toList.take m).length = m := by simp [Nat.min_eq_left F.le]
  refine trace_length (exec := execF P call0 h0) (ops := ops) (l := ops.toList.take m) (fun i o e => ?_) i (by omega)
  rw [List.getElem?_take] at e
  split at e
  · rename_i hi; exact T.step i o hi (by simpa using e)
  · cases e

/-- What holds while the floating operations come up, in whatever order. -/
structure InvAt (B : Nat) (w0 : World) (φ : Ren) (h0 : AH) (ops : Array Oper) (m : Nat) (tr : Nat → St) (listed : Array Bool) (a : Act) (w : World) (ψ : Ren) : Prop where
  size : listed.size = ops.size
  closed : Closed ops listed
  only : ∀ i : Nat, listed.getD i false = true → i < m
  le : φ.le ψ
  heap : HRel B w0 φ h0 w
  inj : ∀ (b b' c : Nat), ψ b = some c → ψ b' = some c → b = b'
  rng : ∀ (b c : Nat), ψ b = some c → B ≤ c ∧ c < w.heap.size
  dom : ∀ (b c : Nat), ψ b = some c → b < h0.length ∨ ∃ i : Nat, listed.getD i false = true ∧ (tr i).heap.length = b ∧ (tr (i + 1)).heap.length = b + 1
  laid : ∀ (i : Nat) (cs : List AV), listed.getD i false = true → (tr (i + 1)).heap = (tr i).heap ++ [cs] → ∃ c cs' e, ψ (tr i).heap.length = some c ∧ w.heap[c]? = some (.cells cs' e (0, 0)) ∧ LRel ψ cs cs'.toList
  old : ∀ t : Tmp, (∀ (i : Nat) (o : Oper), listed.getD i false = true → ops[i]? = some o → o.dst ≠ some t) → ARel ψ ((tr 0).tmps.getD t .undef) (a.tmps.getD t Go.undef)
  new : ∀ (i : Nat) (o : Oper) (t : Tmp), listed.getD i false = true → ops[i]? = some o → o.dst = some t → ARel ψ ((tr m).tmps.getD t .undef) (a.tmps.getD t Go.undef)
  len : a.tmps.size = (tr 0).tmps.length
  defers : a.defers = []

theorem getD_set_false {listed : Array Bool} {i j : Nat} (h : (listed.setIfInBounds i true).getD j false = true) : j = i ∨ listed.getD j false = true := by
  by_cases hij : i = j
  · exact .inl hij.symm
  · rw [getD_set_ne false hij] at h; exact .inr h

/-- One more has come up. -/
theorem InvAt.next (T : Trace P call0 ops m h0 tr) (F : Fok ops m) {listed : Array Bool} {a : Act} {w w' : World} {ψ ψ' : Ren} (I : InvAt B w0 φ h0 ops m tr listed a w ψ) {i : Nat} {o : Oper} (hi : i < m) (ho : ops[i]? = some o)
    (hed : ∀ e ∈ o.after.toList, Region.binds .any e = true → listed.getD e.on false = true) {v : AV} {u : Value}
    (hle : ψ.le ψ') (hb : Below w.heap.size w w') (hinj : ∀ (b b' c : Nat), ψ' b = some c → ψ' b' = some c → b = b') (hrng : ∀ (b c : Nat), ψ' b = some c → B ≤ c ∧ c < w'.heap.size)
    (hdom : ∀ (b c : Nat), ψ' b = some c → ψ b = some c ∨ ((tr i).heap.length = b ∧ (tr (i + 1)).heap.length = b + 1))
    (hlaid : ∀ cs, (tr (i + 1)).heap = (tr i).heap ++ [cs] → ∃ c cs' e, ψ' (tr i).heap.length = some c ∧ w'.heap[c]? = some (.cells cs' e (0, 0)) ∧ LRel ψ' cs cs'.toList)
    (hv : ARel ψ' v u) (hp : (tr (i + 1)).tmps = put (tr i).tmps o.dst v) : InvAt B w0 φ h0 ops m tr (listed.setIfInBounds i true) (a.put o.dst u) w' ψ' := by
  have hs : i < ops.size := Nat.lt_of_lt_of_le hi F.le
  have hlis : (listed.setIfInBounds i true).getD i false = true := by simp [I.size, hs]
  have hsz : (a.put o.dst u).tmps.size = a.tmps.size := by cases o.dst <;> simp [Act.put]
  have hgo : ∀ t, o.dst ≠ some t → (a.put o.dst u).tmps.getD t Go.undef = a.tmps.getD t Go.undef := by
    intro t ht
    cases hd : o.dst with
    | none => rfl
    | some d =>
      have hne : d ≠ t := fun e => ht (by rw [hd, e])
      simp [Act.put, Array.getElem?_setIfInBounds_ne hne]
  refine ⟨by simpa using I.size, ?_, ?_, Ren.le_trans I.le hle, I.heap.grown hb, hinj, hrng, ?_, ?_, ?_, ?_, by rw [hsz]; exact I.len, by rw [put_defers]; exact I.defers⟩
  · intro j oj hj hoj e he hbd
    rcases getD_set_false hj with rfl | hj
    · rw [ho] at hoj; cases hoj; exact getD_set_true (hed e he hbd)
    · exact getD_set_true (I.closed j oj hj hoj e he hbd)
  · intro j hj
    rcases getD_set_false hj with rfl | hj
    · exact hi
    · exact I.only j hj
  · intro b c hbc
    rcases hdom b c hbc with h1 | h1
    · rcases I.dom b c h1 with h2 | ⟨j, h2, h3⟩
      · exact .inl h2
      · exact .inr ⟨j, getD_set_true h2, h3⟩
    · exact .inr ⟨i, hlis, h1⟩
  · intro j cs hj hcs
    rcases getD_set_false hj with rfl | hj
    · exact hlaid cs hcs
    · obtain ⟨c, cs', e, h1, h2, h3⟩ := I.laid j cs hj hcs
      exact ⟨c, cs', e, hle _ _ h1, by rw [hb.block c (I.rng _ _ h1).2]; exact h2, LRel.mono hle _ _ h3⟩
  · intro t ht
    rw [hgo t (ht i o hlis ho)]
    exact ARel.mono hle _ _ (I.old t fun j oj hj hoj => ht j oj (getD_set_true hj) hoj)
  · intro j oj t hj hoj hdt
    by_cases hji : j = i
    · subst hji
      rw [ho] at hoj; cases hoj
      have hkeep : (tr m).tmps.getD t .undef = (tr (j + 1)).tmps.getD t .undef := by
        have := T.keeps F (t := t) (i := j + 1) (m - (j + 1)) (by omega) (fun k ok h1 h2 h3 => F.dst k ok j o t (by omega) h3 hi ho hdt (by omega))
        rwa [show j + 1 + (m - (j + 1)) = m by omega] at this
      rw [hkeep, hp, hdt]
      have hjl := T.len F (i := j) (by omega)
      have hal := I.len
      rcases Nat.lt_or_ge t (tr j).tmps.length with ht | ht
      · rw [put_same ht]
        have ht2 : t < a.tmps.size := Nat.lt_of_lt_of_eq ht (by rw [hal, hjl])
        simp [Act.put, ht2]; exact hv
      · have hge : (put (tr j).tmps (some t) v).length ≤ t := Nat.le_trans (Nat.le_of_eq (put_length _ _ _)) ht
        rw [List.getD_eq_getElem?_getD, List.getElem?_eq_none hge]
        have ht2 : ¬ t < a.tmps.size := Nat.not_lt.2 (Nat.le_trans (Nat.le_of_eq (by rw [hal, hjl])) ht)
        have : (a.put (some t) u).tmps.getD t Go.undef = Go.undef := by simp [Act.put, ht2]
        rw [this]; exact ARel.undef
    · rcases getD_set_false hj with rfl | hj
      · exact absurd rfl hji
      · rw [hgo t (F.dst i o j oj t hi ho (I.only j hj) hoj hdt (Ne.symm hji))]
        exact ARel.mono hle _ _ (I.new j oj t hj hoj hdt)

/-- The slots that the next one looks at hold what the text's order has there. -/
theorem InvAt.looked (T : Trace P call0 ops m h0 tr) (F : Fok ops m) {listed : Array Bool} {a : Act} {w : World} {ψ : Ren} (I : InvAt B w0 φ h0 ops m tr listed a w ψ) {i : Nat} {o : Oper} (hi : i < m) (ho : ops[i]? = some o)
    (hed : ∀ e ∈ o.after.toList, Region.binds .any e = true → listed.getD e.on false = true) : ∀ t ∈ looks ops o, ARel ψ ((tr i).tmps.getD t .undef) (a.tmps.getD t Go.undef) := by
  intro t ht
  by_cases hw : ∃ j oj, j < m ∧ ops[j]? = some oj ∧ oj.dst = some t
  · obtain ⟨j, oj, hj, hoj, hd⟩ := hw
    have hl := closed_mask F I.closed i o j ho hed (F.look i o j oj t hi ho hj hoj hd ht)
    have hkeep := T.keeps F (t := t) (i := i) (m - i) (by omega) (fun k ok h1 h2 h3 e => by
      have := mask_lt F i k (F.look i o k ok t hi ho (by omega) h3 e ht) (Nat.lt_of_lt_of_le hi F.le)
      omega)
    rw [show i + (m - i) = m by omega] at hkeep
    rw [← hkeep]
    exact I.new j oj t hl hoj hd
  · have hkeep := T.keeps F (t := t) (i := 0) i (by omega) (fun k ok h1 h2 h3 e => hw ⟨k, ok, by omega, h3, e⟩)
    rw [Nat.zero_add] at hkeep
    rw [hkeep]
    exact I.old t fun j oj hj hoj e => hw ⟨j, oj, I.only j hj, hoj, e⟩

theorem operands_looks {o : Oper} {t : Tmp} (h : Operand.tmp t ∈ o.op.operands.toList) : t ∈ looks ops o := by
  unfold looks
  exact List.mem_append_left _ (List.mem_filterMap.2 ⟨_, h, rfl⟩)

theorem pick_looks {o : Oper} {c x y : Operand} (ho : o.op = .pick c x y) {t : Tmp} (h : c = .tmp t ∨ x = .tmp t ∨ y = .tmp t) : t ∈ looks ops o :=
  operands_looks (by rw [ho]; simp [Op.operands]; rcases h with h | h | h <;> simp [h])

/-- A floating operation comes up. -/
theorem InvAt.step (T : Trace P call0 ops m h0 tr) (F : Fok ops m) (hc : CallsPure P call0) {listed : Array Bool} {a : Act} {w : World} {ψ : Ren} (I : InvAt B w0 φ h0 ops m tr listed a w ψ) {i : Nat} {o : Oper} (hi : i < m) (ho : ops[i]? = some o)
    (hun : listed.getD i false = false) (hed : ∀ e ∈ o.after.toList, Region.binds .any e = true → listed.getD e.on false = true) {K : Act → World → Prop} {Q : Exit → Act → World → Prop}
    (hk : ∀ a' w' ψ', InvAt B w0 φ h0 ops m tr (listed.setIfInBounds i true) a' w' ψ' → K a' w') : wpOp P ops Q i K a w := by
  have hlook := I.looked T F hi ho hed
  have hlen : a.tmps.size = (tr i).tmps.length := by rw [I.len, T.len F (i := i) (by omega)]
  obtain ⟨a', tm, hmask, htm, hav, hs'⟩ : ∃ (a' : Act) (tm : List AV), LRel ψ tm a'.tmps.toList ∧ (∀ t ∈ looks ops o, tm.getD t .undef = (tr i).tmps.getD t .undef) ∧
      (∀ t ∈ looks ops o, a'.tmps.getD t Go.undef = a.tmps.getD t Go.undef) ∧ a'.tmps.size = a.tmps.size :=
    ⟨{ tmps := maskV (looks ops o) a.tmps (tr i).tmps.length, defers := [] }, maskA (looks ops o) (tr i).tmps, mask_rel (φ := ψ) (S := looks ops o) hlen hlook,
      fun t ht => maskA_get ht, fun t ht => maskV_get ht hlen, by simp [maskV, hlen]⟩
  have heval : ∀ x ∈ o.op.operands, a'.eval x = a.eval x := by
    intro x hx
    cases x with
    | tmp t => exact hav t (operands_looks (by simpa using hx))
    | _ => rfl
  have hexec : execOp a.eval o = execOp a'.eval o := execOp_congr o (F.sel i o ho) fun x hx => (heval x hx).symm
  have hevs : ∀ (h : AH) x, x ∈ o.op.operands.toList → (⟨(tr i).tmps, h⟩ : St).ev x = (⟨tm, h⟩ : St).ev x := by
    intro h x hx
    exact ev_congr fun t e => (htm t (operands_looks (by rw [← e]; exact hx))).symm
  have hwant : Region.wanted o (yielded ops a.tmps) = gval ops (tr i) o := by
    have h1 : Region.wanted o (yielded ops a.tmps) = Region.wanted o (yielded ops a'.tmps) := by
      unfold Region.wanted
      cases hg : o.guard with
      | none => rfl
      | some p =>
        obtain ⟨j, want⟩ := p
        have : yielded ops a.tmps j = yielded ops a'.tmps j := by
          unfold yielded
          cases hd : (ops[j]?).bind (·.dst) with
          | none => rfl
          | some t =>
            have ht : t ∈ looks ops o := by unfold looks; rw [hg]; simp [hd]
            have hh := hav t ht
            simp only [Option.bind_some]
            rcases Nat.lt_or_ge t a.tmps.size with hlt | hge
            · rw [Array.getD_eq_getD_getElem?, Array.getD_eq_getD_getElem?, Array.getElem?_eq_getElem hlt, Array.getElem?_eq_getElem (Nat.lt_of_lt_of_eq hlt hs'.symm)] at hh
              simp only [Option.getD_some] at hh
              rw [Array.getElem?_eq_getElem hlt, Array.getElem?_eq_getElem (Nat.lt_of_lt_of_eq hlt hs'.symm), hh]
            · rw [Array.getElem?_eq_none hge, Array.getElem?_eq_none (Nat.le_trans (Nat.le_of_eq hs') hge)]
        simp only [this]
    have h2 : gval ops (tr i) o = gval ops ⟨tm, h0⟩ o := by
      unfold gval
      cases hg : o.guard with
      | none => rfl
      | some p =>
        obtain ⟨j, want⟩ := p
        simp only
        cases hd : (ops[j]?).bind (·.dst) with
        | none => rfl
        | some t =>
          have ht : t ∈ looks ops o := by unfold looks; rw [hg]; simp [hd]
          simp only
          rw [htm t ht]
    rw [h1, h2]
    exact wanted_rel (s := ⟨tm, h0⟩) (a := a') hmask
  have same : ∀ (u : Value) (v : AV), (tr (i + 1)).heap = (tr i).heap → (tr (i + 1)).tmps = put (tr i).tmps o.dst v → ∀ w', Below w.heap.size w w' → ARel ψ v u →
      InvAt B w0 φ h0 ops m tr (listed.setIfInBounds i true) (a.put o.dst u) w' ψ := by
    intro u v hh hp w' hb hv
    refine I.next T F hi ho hed (Ren.le_refl _) hb I.inj (fun b c e => ⟨(I.rng b c e).1, Nat.lt_of_lt_of_le (I.rng b c e).2 hb.size⟩) (fun b c e => .inl e) (fun cs e => ?_) hv hp
    rw [hh] at e
    have := congrArg List.length e
    simp at this
  unfold wpOp
  simp only [ho]
  rw [hwant]
  rcases T.step i o hi ho with ⟨hg, he⟩ | ⟨hg, ⟨t, x, y, l, b, u, hop, hv, hu, he⟩ | ⟨hn, ⟨v, h'⟩, hr, he⟩⟩
  · rw [hg]
    simp only [Bool.false_eq_true, if_false]
    exact hk _ _ _ (same Go.undef .undef (by rw [he]) (by rw [he]) w (Below.refl _ _) ARel.undef)
  · rw [hg]
    simp only [if_true]
    refine .inl ?_
    unfold Oper.wp
    rw [hexec]
    unfold execOp
    have hb : a'.eval (.tmp t) = .bool b := by
      have := LRel.getD t hmask
      have e2 : tm.getD t .undef = AV.bool l b := by rw [htm t (pick_looks hop (.inl rfl)), hv]
      rw [e2] at this
      have e3 : a'.tmps.getD t Go.undef = .bool b := by simpa only [ARel] using this
      exact e3
    have hu2 : (⟨tm, h0⟩ : St).ev (if b = true then x else y) = some u := by
      rw [← hu]
      symm
      exact ev_congr fun t e => (htm t (pick_looks hop (by cases b <;> simp at e <;> simp [e]))).symm
    have hu' := ev_rel (s := ⟨tm, h0⟩) (a := a') hmask hu2
    have hx : a'.eval (if b = true then x else y) = if b = true then a'.eval x else a'.eval y := by cases b <;> rfl
    rw [hx] at hu'
    simp only [hop, Sem.run_bind, hb, asBool, Sem.run_pure, Result.andThen_ok, Oper.upon]
    exact hk _ _ _ (same _ u (by rw [he]) (by rw [he]) w (Below.refl _ _) hu')
  · rw [hg]
    simp only [if_true]
    refine .inl ?_
    unfold Oper.wp
    rw [hexec]
    rcases execF_run hr with ⟨ha, hr⟩ | ⟨hh, ha, ⟨hrd, h2, hr⟩ | ⟨c, h2, hop, hr⟩⟩
    · have hr2 : (evOp P ⟨tm, (tr i).heap⟩ o.op).run = some (v, h') := by
        rw [← hr]; congr 1; symm; exact evOp_congr rfl (hevs (tr i).heap)
      obtain ⟨cs, cs', t, mk, mk', g1, g2, g3, g4, g5⟩ := evOp_alloc (P := P) (φ := ψ) (a := a') ha hr2 hmask
      simp only [g4 w, Oper.upon]
      have hhp : (tr (i + 1)).heap = (tr i).heap ++ [cs] := by rw [he]; exact g1
      have hfresh : ψ (tr i).heap.length = none := by
        cases hq : ψ (tr i).heap.length with
        | none => rfl
        | some c =>
          rcases I.dom _ _ hq with h1 | ⟨j, h1, h3, h4⟩
          · have := T.base F (i := i) (by omega); omega
          · have hj := I.only j h1
            have hji : j ≠ i := fun e => by rw [e, hun] at h1; cases h1
            rcases Nat.lt_or_ge j i with hlt | hge
            · have := T.mono F (i := j + 1) (i - (j + 1)) (by omega)
              rw [show j + 1 + (i - (j + 1)) = i by omega] at this
              omega
            · have := T.mono F (i := i + 1) (j - (i + 1)) (by omega)
              rw [show i + 1 + (j - (i + 1)) = j by omega, hhp] at this
              simp at this; omega
      have hle : ψ.le (ψ.with (tr i).heap.length w.heap.size) := by
        intro b c e
        simp only [Ren.with]
        rw [if_neg (fun e2 => by rw [e2, hfresh] at e; cases e)]; exact e
      refine hk _ _ _ (I.next T F hi ho hed hle ((Below.refl _ _).alloc (Nat.le_refl _) _) ?_ ?_ ?_ ?_ (v := v) ?_ (by rw [he]))
      · intro b b' c e e'
        simp only [Ren.with] at e e'
        by_cases h1 : b = (tr i).heap.length
        · rw [if_pos h1] at e; cases e
          by_cases h3 : b' = (tr i).heap.length
          · rw [h1, h3]
          · rw [if_neg h3] at e'; have := (I.rng _ _ e').2; omega
        · rw [if_neg h1] at e
          by_cases h3 : b' = (tr i).heap.length
          · rw [if_pos h3] at e'; cases e'; have := (I.rng _ _ e).2; omega
          · rw [if_neg h3] at e'; exact I.inj _ _ _ e e'
      · intro b c e
        simp only [Ren.with] at e
        by_cases h1 : b = (tr i).heap.length
        · rw [if_pos h1] at e; cases e
          exact ⟨Nat.le_trans I.heap.base I.heap.below.size, by simp⟩
        · rw [if_neg h1] at e; have := I.rng _ _ e; exact ⟨this.1, by simp; omega⟩
      · intro b c e
        simp only [Ren.with] at e
        by_cases h1 : b = (tr i).heap.length
        · exact .inr ⟨h1.symm, by rw [hhp, h1]; simp⟩
        · rw [if_neg h1] at e; exact .inl e
      · intro cs2 e
        rw [hhp] at e
        have : cs2 = cs := by simpa using e.symm
        subst this
        refine ⟨w.heap.size, cs', t, by simp [Ren.with], heap_alloc_new _ _, LRel.mono hle _ _ g2⟩
      · rw [g3]; exact g5 _ _ _ (by simp [Ren.with])
    · have hr2 : (evOp P ⟨tm, h0⟩ o.op).run = some (v, h2) := by
        rw [← hr]; congr 1; symm; exact evOp_congr rfl (hevs h0)
      have HC0 : HC ψ h0 w := by
        intro b cs e
        obtain ⟨c, cs', t, g1, g2, g3⟩ := I.heap.cells b cs e
        exact ⟨c, cs', t, I.le _ _ g1, g2, LRel.mono I.le _ _ g3⟩
      obtain ⟨_, u, g1, g2⟩ := evOp_pure (P := P) (w := w) (s := ⟨tm, h0⟩) (a := a') hrd hr2 HC0 hmask
      simp only [g1, Oper.upon]
      exact hk _ _ _ (same u v (by rw [he]; exact hh) (by rw [he]) w (Below.refl _ _) g2)
    · have hr2 : (evCallOp P call0 ⟨tm, h0⟩ c).run = some (v, h2) := by
        rw [← hr]; congr 1; symm; exact evCallOp_congr rfl (fun x hx => hevs h0 x (by rw [hop]; simpa [Op.operands] using hx))
      unfold execOp
      rcases evCallOp_rel (ty := o.type) (w := w) (a := a') hmask hr2 with ⟨_, u, g1, g2⟩ | ⟨f, args, cargs, g1, g2, g3⟩
      · simp only [hop, g1, Oper.upon]
        exact hk _ _ _ (same u v (by rw [he]; exact hh) (by rw [he]) w (Below.refl _ _) g2)
      · simp only [hop, g3]
        obtain ⟨_, hcall⟩ := hc f args h0 v h2 g1
        rcases hcall ψ w cargs g2 with ⟨u, k1, k2, k3⟩ | ⟨k1, k2⟩
        · simp only [k1, Oper.upon]; exact hk _ _ _ (same u v (by rw [he]; exact hh) (by rw [he]) w k3 (k2 ψ))
        · simp only [k1, Oper.upon]
          exact k2.mono fun e w' h => by
            cases e with
            | returned u => exact hk _ _ _ (same u v (by rw [he]; exact hh) (by rw [he]) w' h.2 (h.1 ψ))
            | panicked c => exact h.elim
            | outgrown => exact h.elim

end
end Go.Sky
