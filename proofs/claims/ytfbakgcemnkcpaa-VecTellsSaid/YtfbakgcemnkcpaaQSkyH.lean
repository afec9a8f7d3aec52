/- Regions that draw their order: facts. -/
import Derived.Test.YtfbakgcemnkcpaaQSkyG
set_option linter.unusedSimpArgs false
set_option linter.unusedVariables false
namespace Go.Sky
open Go.RowKit (Below)

/-! ### an operation looks at its operands alone -/

theorem ev_congr {s s' : St} {x : Operand} (h : ∀ t, x = .tmp t → s.tmps.getD t .undef = s'.tmps.getD t .undef) : s.ev x = s'.ev x := by
  cases x with
  | tmp t => simp only [St.ev]; rw [h t rfl]
  | _ => rfl

theorem evs_congr {s s' : St} : ∀ {l : List Operand}, (∀ x ∈ l, s.ev x = s'.ev x) → s.evs l = s'.evs l
  | [], _ => rfl
  | x :: xs, h => by
    simp only [St.evs]
    rw [h x (by simp), evs_congr (fun y hy => h y (by simp [hy]))]

theorem evParts_congr {s s' : St} : ∀ {l : List (Nat × Operand)}, (∀ x ∈ l.map (·.2), s.ev x = s'.ev x) → evParts s l = evParts s' l
  | [], _ => rfl
  | (i, x) :: xs, h => by
    simp only [evParts]
    rw [h x (by simp), evParts_congr (fun y hy => h y (by simp at hy ⊢; exact .inr hy))]

theorem evOp_congr {P : Program} {s s' : St} {op : Op} (hh : s.heap = s'.heap) (h : ∀ x ∈ op.operands.toList, s.ev x = s'.ev x) : evOp P s op = evOp P s' op := by
  cases op <;> simp only [Op.operands] at h <;> simp only [evOp, hh]
  case move x => rw [h x (by simp)]
  case assign x => rw [h x (by simp)]
  case box t x => rw [h x (by simp)]
  case build t ps => rw [evParts_congr (s := s) (s' := s') (fun x hx => h x (by simpa using hx))]
  case buildSlice t n ps => rw [evParts_congr (s := s) (s' := s') (fun x hx => h x (by simpa using hx))]
  case load t x => rw [h x (by simp)]
  case store t x y => rw [h x (by simp), h y (by simp)]
  case nilCheck x => rw [h x (by simp)]
  case binOp op t x y u => rw [h x (by simp), h y (by simp)]
  case unOp op t x => rw [h x (by simp)]
  case convert a b x => rw [h x (by simp)]
  case makeInterface t x => rw [h x (by simp)]
  case makeFunc fn f c => rw [evs_congr (s := s) (s' := s') (l := f.toList) (fun x hx => h x (by simp at hx ⊢; exact .inl hx)), evs_congr (s := s) (s' := s') (l := c.toList) (fun x hx => h x (by simp at hx ⊢; exact .inr hx))]
  case fieldAddr t x f => rw [h x (by simp)]
  case field t x f => rw [h x (by simp)]
  case indexAddr t x i => rw [h x (by simp), h i (by simp)]
  case index t x i => rw [h x (by simp), h i (by simp)]
  case slice t x lo hi mx =>
    cases lo <;> cases hi <;> cases mx <;> simp only [evOp, hh]
    rw [h x (by simp)]
  case extract x i => rw [h x (by simp)]
  case typeAssert x t u ok => rw [h x (by simp)]

theorem evCallOp_congr {P : Program} {call : CallA} {s s' : St} {c : Call} (hh : s.heap = s'.heap) (h : ∀ x ∈ c.operands.toList, s.ev x = s'.ev x) : evCallOp P call s c = evCallOp P call s' c := by
  have h1 : s.evs c.args.toList = s'.evs c.args.toList := evs_congr fun x hx => h x (by simp [Call.operands] at hx ⊢; exact .inr hx)
  have h2 : ∀ f, c.callee = .value f → s.ev f = s'.ev f := fun f hf => h f (by simp [Call.operands, hf])
  unfold evCallOp
  rw [h1, hh]
  cases hc : c.callee with
  | value f => simp only [h2 f hc]
  | invoke _ _ => rfl
  | builtin b => cases b <;> rfl

/-! ### masks -/

theorem maskOf_bit {acc : List Nat} {o : Oper} {j : Nat} (h : (maskOf acc o).testBit j = true) : ∃ e ∈ o.after.toList, Region.binds .any e = true ∧ (e.on = j ∨ (acc.getD e.on 0).testBit j = true) := by
  unfold maskOf at h
  have key : ∀ (l : List Edge) (s : Nat), ((l.foldl (fun s e => if Region.binds .any e = true then s ||| 2 ^ e.on ||| acc.getD e.on 0 else s) s).testBit j = true) →
      s.testBit j = true ∨ ∃ e ∈ l, Region.binds .any e = true ∧ (e.on = j ∨ (acc.getD e.on 0).testBit j = true) := by
    intro l
    induction l with
    | nil => intro s h; exact .inl h
    | cons e l ih =>
      intro s h
      simp only [List.foldl_cons] at h
      rcases ih _ h with h1 | ⟨e', he', h1⟩
      · split at h1
        · rename_i hb
          simp only [Nat.testBit_or, Bool.or_eq_true] at h1
          rcases h1 with (h1 | h1) | h1
          · exact .inl h1
          · rw [Nat.testBit_two_pow] at h1
            exact .inr ⟨e, by simp, hb, .inl (by simpa using h1)⟩
          · exact .inr ⟨e, by simp, hb, .inr h1⟩
        · exact .inl h1
      · exact .inr ⟨e', by simp [he'], h1⟩
  rcases key _ _ h with h1 | h1
  · simp at h1
  · exact h1

theorem masksFrom_spec : ∀ (l : List Oper) (acc : List Nat) (i : Nat), i < acc.length → (masksFrom l acc).getD i 0 = acc.getD i 0
  | [], _, _, _ => rfl
  | o :: l, acc, i, h => by
    simp only [masksFrom]
    rw [masksFrom_spec l _ i (by simp; omega)]
    simp [List.getD_eq_getElem?_getD, List.getElem?_append_left h]

theorem masksFrom_bit : ∀ (l : List Oper) (acc : List Nat) (i : Nat) (o : Oper) (j : Nat), l[i]? = some o → ((masksFrom l acc).getD (acc.length + i) 0).testBit j = true →
    ∃ e ∈ o.after.toList, Region.binds .any e = true ∧ (e.on = j ∨ (e.on < acc.length + i ∧ ((masksFrom l acc).getD e.on 0).testBit j = true))
  | [], _, _, _, _, h, _ => by simp at h
  | p :: l, acc, 0, o, j, h, hb => by
    simp at h; subst h
    simp only [masksFrom, Nat.add_zero] at hb ⊢
    rw [masksFrom_spec l _ acc.length (by simp)] at hb
    simp only [List.getD_eq_getElem?_getD, List.getElem?_append_right (Nat.le_refl _), Nat.sub_self, List.getElem?_cons_zero, Option.getD_some] at hb
    obtain ⟨e, he, hbd, h1⟩ := maskOf_bit hb
    refine ⟨e, he, hbd, ?_⟩
    rcases h1 with h1 | h1
    · exact .inl h1
    · by_cases hlt : e.on < acc.length
      · refine .inr ⟨hlt, ?_⟩
        rw [masksFrom_spec l _ e.on (by simp; omega)]
        simp only [List.getD_eq_getElem?_getD, List.getElem?_append_left hlt] at h1 ⊢
        exact h1
      · simp only [List.getD_eq_getElem?_getD, List.getElem?_eq_none (Nat.le_of_not_lt hlt)] at h1
        simp at h1
  | p :: l, acc, i + 1, o, j, h, hb => by
    simp at h
    simp only [masksFrom] at hb ⊢
    have := masksFrom_bit l (acc ++ [maskOf acc p]) i o j h (by simpa [Nat.add_assoc, Nat.add_comm 1 i] using hb)
    simpa [Nat.add_assoc, Nat.add_comm 1 i] using this

theorem masks_bit {ops : Array Oper} {i j : Nat} {o : Oper} (ho : ops[i]? = some o) (h : ((masks ops).getD i 0).testBit j = true) :
    ∃ e ∈ o.after.toList, Region.binds .any e = true ∧ (e.on = j ∨ (e.on < i ∧ ((masks ops).getD e.on 0).testBit j = true)) := by
  have := masksFrom_bit ops.toList [] i o j (by simpa using ho) (by simpa [masks] using h)
  simpa [masks] using this

/-! ### what 'floatsOk' says -/

structure Fok (ops : Array Oper) (m : Nat) : Prop where
  le : m ≤ ops.size
  sel : ∀ (i : Nat) (o : Oper), ops[i]? = some o → ∀ cs b, o.op ≠ .select cs b
  back : ∀ (i : Nat) (o : Oper), ops[i]? = some o → ∀ e ∈ o.after.toList, Region.binds .any e = true → e.on < i
  look : ∀ (i : Nat) (o : Oper) (j : Nat) (o' : Oper) (d : Tmp), i < m → ops[i]? = some o → j < m → ops[j]? = some o' → o'.dst = some d → d ∈ looks ops o → ((masks ops).getD i 0).testBit j = true
  dst : ∀ (i : Nat) (o : Oper) (j : Nat) (o' : Oper) (d : Tmp), i < m → ops[i]? = some o → j < m → ops[j]? = some o' → o'.dst = some d → i ≠ j → o.dst ≠ some d
  tail : ∀ (i j : Nat), i < ops.size → m ≤ i → j < i → ((masks ops).getD i 0).testBit j = true

theorem fok_of {ops : Array Oper} {m : Nat} (h : floatsOk ops m = true) : Fok ops m := by
  unfold floatsOk at h
  simp only [Bool.and_eq_true, decide_eq_true_eq, List.all_eq_true, List.mem_range] at h
  obtain ⟨h0, h⟩ := h
  have key : ∀ i o, ops[i]? = some o → isSelect o.op = false ∧ (∀ e ∈ o.after.toList, Region.binds .any e = true → e.on < i) ∧ (if i < m then floatOk ops (masks ops) m i o = true else waitsAll (masks ops) i = true) := by
    intro i o ho
    have hi : i < ops.size := (Array.getElem?_eq_some_iff.1 ho).1
    have := h i hi
    rw [ho] at this
    simp only [Bool.and_eq_true, Bool.not_eq_true'] at this
    obtain ⟨⟨h1, h2⟩, h3⟩ := this
    refine ⟨h1, fun e he hb => ?_, ?_⟩
    · have := List.all_eq_true.1 h2 e he
      simpa [hb] using this
    · split at h3
      · rename_i hm; rw [if_pos hm]; exact h3
      · rename_i hm; rw [if_neg hm]; exact h3
  have flo : ∀ i o j o' d, i < m → ops[i]? = some o → j < m → ops[j]? = some o' → o'.dst = some d → ((looks ops o).contains d = true → ((masks ops).getD i 0).testBit j = true) ∧ (i ≠ j → o.dst ≠ some d) := by
    intro i o j o' d hi ho hj ho' hd
    have h3 := (key i o ho).2.2
    rw [if_pos hi] at h3
    unfold floatOk at h3
    have := List.all_eq_true.1 h3 j (by simpa using hj)
    rw [ho'] at this
    simp only [hd, Bool.and_eq_true, Bool.or_eq_true, Bool.not_eq_true', beq_iff_eq, bne_iff_ne, ne_eq] at this
    refine ⟨fun hc => ?_, fun hne => ?_⟩
    · rcases this.1 with h1 | h1
      · rw [hc] at h1; cases h1
      · exact h1
    · rcases this.2 with h1 | h1
      · exact absurd h1 hne
      · exact h1
  refine ⟨h0, fun i o ho cs b e => ?_, fun i o ho => (key i o ho).2.1, fun i o j o' d hi ho hj ho' hd hl => (flo i o j o' d hi ho hj ho' hd).1 (by simpa using hl),
    fun i o j o' d hi ho hj ho' hd hne => (flo i o j o' d hi ho hj ho' hd).2 hne, fun i j hi hm hj => ?_⟩
  · have := (key i o ho).1; rw [e] at this; simp [isSelect] at this
  · have h3 := (key i ops[i] (Array.getElem?_eq_getElem hi)).2.2
    rw [if_neg (by omega)] at h3
    exact List.all_eq_true.1 h3 j (by simpa using hj)

theorem mask_lt {ops : Array Oper} {m : Nat} (F : Fok ops m) : ∀ (i j : Nat), ((masks ops).getD i 0).testBit j = true → i < ops.size → j < i := by
  intro i
  induction i using Nat.strongRecOn with
  | _ i ih =>
    intro j h hi
    obtain ⟨e, he, hb, h1⟩ := masks_bit (Array.getElem?_eq_getElem hi) h
    have hlt := F.back i _ (Array.getElem?_eq_getElem hi) e he hb
    rcases h1 with h1 | ⟨h1, h2⟩
    · omega
    · have := ih e.on h1 j h2 (by omega); omega

/-- All for whom a listed operation waits are listed. -/
def Closed (ops : Array Oper) (listed : Array Bool) : Prop :=
  ∀ i o, listed.getD i false = true → ops[i]? = some o → ∀ e ∈ o.after.toList, Region.binds .any e = true → listed.getD e.on false = true

theorem closed_mask {ops : Array Oper} {m : Nat} {listed : Array Bool} (F : Fok ops m) (hc : Closed ops listed) : ∀ (i : Nat) (o : Oper) (j : Nat), ops[i]? = some o →
    (∀ e ∈ o.after.toList, Region.binds .any e = true → listed.getD e.on false = true) → ((masks ops).getD i 0).testBit j = true → listed.getD j false = true := by
  intro i
  induction i using Nat.strongRecOn with
  | _ i ih =>
    intro o j ho hd h
    obtain ⟨e, he, hb, h1⟩ := masks_bit ho h
    have hl := hd e he hb
    rcases h1 with h1 | ⟨h1, h2⟩
    · rw [← h1]; exact hl
    · have hi : e.on < ops.size := by have := (Array.getElem?_eq_some_iff.1 ho).1; omega
      exact ih e.on h1 _ j (Array.getElem?_eq_getElem hi) (fun e' he' hb' => hc e.on _ hl (Array.getElem?_eq_getElem hi) e' he' hb') h2

/-! ### a run's states, by number -/

theorem run_trace {exec : St → Oper → Ans} {ops : Array Oper} {l : List Oper} {s s' : St} (h : Run exec ops l s s') :
    ∃ tr : Nat → St, tr 0 = s ∧ tr l.length = s' ∧ ∀ i o, l[i]? = some o → Step1 exec ops (tr i) o (tr (i + 1)) := by
  induction h with
  | nil s => exact ⟨fun _ => s, rfl, rfl, fun i o e => by simp at e⟩
  | @cons o rest s s1 s2 h1 h2 ih =>
    obtain ⟨tr, h3, h4, h5⟩ := ih
    refine ⟨fun i => match i with | 0 => s | i + 1 => tr i, rfl, by simpa using h4, ?_⟩
    intro i o' e
    cases i with
    | zero => simp at e; subst e; simp only; rw [h3]; exact h1
    | succ i => simp at e; exact h5 i o' e

theorem step_put {exec : St → Oper → Ans} {ops : Array Oper} {s s1 : St} {o : Oper} (h : Step1 exec ops s o s1) : ∃ v, s1.tmps = put s.tmps o.dst v := by
  rcases h with ⟨_, rfl⟩ | ⟨_, ⟨_, _, _, _, _, _, _, _, _, rfl⟩ | ⟨_, _, _, rfl⟩⟩
  · exact ⟨_, rfl⟩
  · exact ⟨_, rfl⟩
  · exact ⟨_, rfl⟩

theorem put_length (l : List AV) (d : Option Tmp) (v : AV) : (put l d v).length = l.length := by cases d <;> simp [put]
theorem put_other {l : List AV} {d : Option Tmp} {v : AV} {t : Tmp} (h : d ≠ some t) : (put l d v).getD t .undef = l.getD t .undef := by
  cases d with
  | none => rfl
  | some d =>
    simp only [put]
    rw [List.getD_eq_getElem?_getD, List.getElem?_set_ne (fun e => h (by rw [e])), ← List.getD_eq_getElem?_getD]
theorem put_same {l : List AV} {d : Tmp} {v : AV} (h : d < l.length) : (put l (some d) v).getD d .undef = v := by
  simp only [put]
  rw [List.getD_eq_getElem?_getD, List.getElem?_set_self h]; rfl

/-- A slot that no operation from i to k writes holds what it held. -/
theorem trace_keeps {exec : St → Oper → Ans} {ops : Array Oper} {l : List Oper} {tr : Nat → St} (h : ∀ i o, l[i]? = some o → Step1 exec ops (tr i) o (tr (i + 1))) {t : Tmp} {i : Nat} :
    ∀ n, i + n ≤ l.length → (∀ j o, i ≤ j → j < i + n → l[j]? = some o → o.dst ≠ some t) → (tr (i + n)).tmps.getD t .undef = (tr i).tmps.getD t .undef
  | 0, _, _ => rfl
  | n + 1, hn, hd => by
    have ho : l[i + n]? = some l[i + n] := List.getElem?_eq_getElem (by omega)
    obtain ⟨v, hv⟩ := step_put (h (i + n) _ ho)
    have : i + (n + 1) = i + n + 1 := by omega
    rw [this, hv, put_other (hd (i + n) _ (by omega) (by omega) ho)]
    exact trace_keeps h n (by omega) (fun j o h1 h2 h3 => hd j o h1 (by omega) h3)

theorem trace_length {exec : St → Oper → Ans} {ops : Array Oper} {l : List Oper} {tr : Nat → St} (h : ∀ i o, l[i]? = some o → Step1 exec ops (tr i) o (tr (i + 1))) :
    ∀ n, n ≤ l.length → (tr n).tmps.length = (tr 0).tmps.length
  | 0, _ => rfl
  | n + 1, hn => by
    have ho : l[n]? = some l[n] := List.getElem?_eq_getElem (by omega)
    obtain ⟨v, hv⟩ := step_put (h n _ ho)
    rw [hv, put_length]; exact trace_length h n (by omega)

end Go.Sky
