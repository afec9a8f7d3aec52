/- The evaluator against the machine: calls, and operations one behind the other. -/
import Derived.Test.YtfbakgcemnkcpaaQSkyF
set_option linter.unusedSimpArgs false
set_option linter.unusedVariables false
namespace Go.Sky
open Go.RowKit (Below)

mutual
theorem pureAV_rel {φ ψ : Ren} : ∀ (x : AV) (v : Value), pureAV x = true → ARel φ x v → ARel ψ x v
  | .bool _ _, _, _, e => by simpa only [ARel] using e
  | .int _ _ _, _, _, e => by simpa only [ARel] using e
  | .str _ _, _, _, e => by simpa only [ARel] using e
  | .ptr none, _, _, e => by simpa only [ARel] using e
  | .ptr (some (_, _)), _, p, e => by simp [pureAV] at p
  | .slice none _ _, _, _, e => by simpa only [ARel] using e
  | .slice (some (_, _)) _ _, _, p, e => by simp [pureAV] at p
  | .func _ fs cs, _, p, e => by
    simp only [pureAV, Bool.and_eq_true] at p
    simp only [ARel] at e ⊢; obtain ⟨fs', cs', rfl, h1, h2⟩ := e; exact ⟨fs', cs', rfl, pureL_rel fs _ p.1 h1, pureL_rel cs _ p.2 h2⟩
  | .nilFunc, _, _, e => by simpa only [ARel] using e
  | .iface _ x, _, p, e => by simp only [pureAV] at p; simp only [ARel] at e ⊢; obtain ⟨y, rfl, h1⟩ := e; exact ⟨y, rfl, pureAV_rel x y p h1⟩
  | .nilIface, _, _, e => by simpa only [ARel] using e
  | .agg cs, _, p, e => by simp only [pureAV] at p; simp only [ARel] at e ⊢; obtain ⟨cs', rfl, h1⟩ := e; exact ⟨cs', rfl, pureL_rel cs _ p h1⟩
  | .tuple cs, _, p, e => by simp only [pureAV] at p; simp only [ARel] at e ⊢; obtain ⟨cs', rfl, h1⟩ := e; exact ⟨cs', rfl, pureL_rel cs _ p h1⟩
theorem pureL_rel {φ ψ : Ren} : ∀ (x : List AV) (v : List Value), pureL x = true → LRel φ x v → LRel ψ x v
  | [], _, _, e => by simpa only [LRel] using e
  | x :: xs, _, p, e => by
    simp only [pureL, Bool.and_eq_true] at p
    simp only [LRel] at e ⊢; obtain ⟨y, ys, rfl, h1, h2⟩ := e; exact ⟨y, ys, rfl, pureAV_rel x y p.1 h1, pureL_rel xs ys p.2 h2⟩
end

/-- A call that answers, whatever it is: a function of the text, or one without. -/
def CallOk (P : Program) (f : FuncId) (args : Array Value) (w : World) (R : Value → World → Prop) : Prop :=
  (∃ u, (callFunc f args).run P w = .ok (.value u) w ∧ R u w) ∨
  ((callFunc f args).run P w = .ok (.enter f args) w ∧ Calls P f args w (fun e w' => match e with | .returned u => R u w' | _ => False))

theorem CallOk.mono {P : Program} {f : FuncId} {args : Array Value} {w : World} {R R' : Value → World → Prop} (h : CallOk P f args w R) (hr : ∀ u w', R u w' → R' u w') : CallOk P f args w R' := by
  rcases h with ⟨u, h1, h2⟩ | ⟨h1, h2⟩
  · exact .inl ⟨u, h1, hr _ _ h2⟩
  · exact .inr ⟨h1, h2.mono fun e w' h => by cases e <;> first | exact hr _ _ h | exact h⟩

/-- What 'call' tells of calls is so. -/
def CallsOk (P : Program) (call : CallA) : Prop :=
  ∀ f args h v h', (call f args h).run = some (v, h') → ∀ (B : Nat) (w0 : World) (φ : Ren) (w : World) (cargs : Array Value), HRel B w0 φ h w → LRel φ args cargs.toList →
    CallOk P f cargs w fun u w' => ∃ φ', φ.le φ' ∧ ARel φ' v u ∧ HRel B w0 φ' h' w'

/-- The same where memory stays as it was. -/
def CallsPure (P : Program) (call : CallA) : Prop :=
  ∀ f args h v h', (call f args h).run = some (v, h') → h' = h ∧ ∀ (φ : Ren) (w : World) (cargs : Array Value), LRel φ args cargs.toList →
    CallOk P f cargs w fun u w' => (∀ ψ, ARel ψ v u) ∧ Below w.heap.size w w'

def Ren.empty : Ren := fun _ => none

theorem HRel.empty (w : World) : HRel w.heap.size w Ren.empty [] w :=
  ⟨fun b cs h => (by simp at h), fun b b' c h => (by cases h), fun b c h => (by cases h), fun b c h => (by cases h), Below.refl _ _, Nat.le_refl _⟩

theorem run_bind_some {α β : Type} {t : Tr α} {k : α → Tr β} {r : β} (h : (t.bind k).run = some r) : ∃ a, t.run = some a ∧ (k a).run = some r := by
  rw [Tr.run_bind] at h
  cases ht : t.run with
  | none => simp [ht] at h
  | some a => exact ⟨a, rfl, by simpa [ht] using h⟩

theorem callPure_ok {P : Program} {call : CallA} (hc : CallsOk P call) : CallsPure P (callPure call) := by
  intro f args h v h' hr
  unfold callPure at hr
  split at hr
  · rename_i hp
    obtain ⟨⟨v', h2⟩, hr1, hr2⟩ := run_bind_some hr
    split at hr2
    · rename_i hv
      simp only [Tr.run, Option.some.injEq, Prod.mk.injEq] at hr2
      obtain ⟨rfl, rfl⟩ := hr2
      refine ⟨rfl, fun φ w cargs hl => ?_⟩
      exact (hc f args [] v' h2 hr1 _ _ _ w cargs (HRel.empty w) (pureL_rel _ _ hp hl)).mono fun u w' ⟨φ', _, h4, h5⟩ => ⟨fun ψ => pureAV_rel _ _ hv h4, h5.below⟩
    · simp [Tr.run] at hr2
  · simp [Tr.run] at hr

theorem callAny_ok {P : Program} {call : CallA} (hc : CallsOk P call) : CallsOk P (callAny call) := by
  intro f args h v h' hr B w0 φ w cargs H hl
  unfold callAny at hr
  split at hr
  · rename_i hp
    obtain ⟨⟨v', h2⟩, hr1, hr2⟩ := run_bind_some hr
    split at hr2
    · rename_i hv
      simp only [Tr.run, Option.some.injEq, Prod.mk.injEq] at hr2
      obtain ⟨rfl, rfl⟩ := hr2
      exact (hc f args [] v' h2 hr1 _ _ _ w cargs (HRel.empty w) (pureL_rel _ _ hp hl)).mono fun u w' ⟨φ', _, h4, h5⟩ => ⟨φ, Ren.le_refl _, pureAV_rel _ _ hv h4, H.grown h5.below⟩
    · exact hc f args h v h' hr2 B w0 φ w cargs H hl
  · exact hc f args h v h' hr B w0 φ w cargs H hl

section
variable {P : Program} {B : Nat} {w0 : World}

/-- A call as an operation. -/
theorem evCallOp_rel {call : CallA} {s : St} {a : Act} {φ : Ren} {c : Call} {ty : TypeId} {v : AV} {h' : AH} {w : World} (ht : LRel φ s.tmps a.tmps.toList)
    (hr : (evCallOp P call s c).run = some (v, h')) :
    (h' = s.heap ∧ ∃ u, (do let d ← resolve a.eval c ty; invoke d.target d.args : Sem Next).run P w = .ok (.value u) w ∧ ARel φ v u) ∨
    (∃ f args cargs, (call f args s.heap).run = some (v, h') ∧ LRel φ args cargs.toList ∧ (do let d ← resolve a.eval c ty; invoke d.target d.args : Sem Next).run P w = (callFunc f cargs).run P w) := by
  unfold evCallOp at hr
  (replace hr := opt_run hr); obtain ⟨args, hargs, hr⟩ := hr
  have hal := evs_rel ht hargs
  split at hr
  · rename_i f hcal
    (replace hr := opt_run hr); obtain ⟨fv, hf, hr⟩ := hr
    split at hr
    · rename_i g first captured
      have hfv := ev_rel ht hf
      simp only [ARel] at hfv
      obtain ⟨fs', cs', hfv, h1, h2⟩ := hfv
      refine .inr ⟨g, (first ++ args) ++ captured, (fs' ++ c.args.map a.eval) ++ cs', hr, ?_, ?_⟩
      · simp only [Array.toList_append, Array.toList_map]
        exact LRel.append (LRel.append h1 hal) h2
      · simp [resolve, hcal, hfv, Deferred.ofValue, invoke]
    · simp [Tr.run] at hr
  · rename_i hcal
    split at hr
    · rename_i t x hty
      (replace hr := opt_run hr); obtain ⟨r, hl, hr⟩ := hr
      cases val_run hr
      simp only [LRel] at hal
      obtain ⟨y, ys, hal, hy, hys⟩ := hal
      subst hys
      have hcargs : c.args.map a.eval = #[y] := by
        apply Array.ext'; simpa using hal
      obtain ⟨u, hu, hru⟩ := lenA_rel (P := P) (w := w) ty c.argTypes hty hy hl
      refine .inl ⟨rfl, u, ?_, hru⟩
      simp [resolve, hcal, hcargs, invoke, builtin, hu]
    · simp [Tr.run] at hr
  · rename_i hcal
    split at hr
    · rename_i x rest
      (replace hr := opt_run hr); obtain ⟨r, hl, hr⟩ := hr
      cases val_run hr
      simp only [LRel] at hal
      obtain ⟨y, ys, hal, hy, hys⟩ := hal
      obtain ⟨u, hu, hru⟩ := minmax_rel (P := P) (w := w) hy hys hl
      refine .inl ⟨rfl, u, ?_, hru⟩
      have hcargs : (c.args.map a.eval).toList = y :: ys := by simpa using hal
      simp [resolve, hcal, invoke, builtin, Builtin.min_, hal, hu] at hu ⊢
      simp [hu]
    · simp [Tr.run] at hr
  · rename_i hcal
    split at hr
    · rename_i x rest
      (replace hr := opt_run hr); obtain ⟨r, hl, hr⟩ := hr
      cases val_run hr
      simp only [LRel] at hal
      obtain ⟨y, ys, hal, hy, hys⟩ := hal
      obtain ⟨u, hu, hru⟩ := minmax_rel (P := P) (w := w) hy hys hl
      refine .inl ⟨rfl, u, ?_, hru⟩
      simp [resolve, hcal, invoke, builtin, Builtin.max_, hal] at hu ⊢
      simp [hu]
    · simp [Tr.run] at hr
  · simp [Tr.run] at hr

/-- What is asked of what follows an operation. -/
def Next1 (B : Nat) (w0 : World) (φ : Ren) (v : AV) (h' : AH) (o : Oper) (a : Act) (K : Act → World → Prop) : Prop :=
  ∀ u φ' w', φ.le φ' → ARel φ' v u → HRel B w0 φ' h' w' → K (a.put o.dst u) w'

theorem evOper_wp {call : CallA} (hc : CallsOk P call) {s : St} {o : Oper} {a : Act} {φ : Ren} {v : AV} {h' : AH} {w : World} {K : Act → World → Prop} {Q : Exit → Act → World → Prop}
    (hr : (evOper P call s o).run = some (v, h')) (H : HRel B w0 φ s.heap w) (ht : LRel φ s.tmps a.tmps.toList) (hk : Next1 B w0 φ v h' o a K) : o.wp P a w K Q := by
  unfold evOper at hr
  split at hr
  · rename_i c ho
    rcases evCallOp_rel (ty := o.type) (w := w) ht hr with ⟨rfl, u, h1, h2⟩ | ⟨f, args, cargs, h1, h2, h3⟩
    · unfold Oper.wp execOp
      simp only [ho, h1, Oper.upon]
      exact hk u φ w (Ren.le_refl _) h2 H
    · unfold Oper.wp execOp
      simp only [ho, h3]
      rcases hc f args s.heap v h' h1 B w0 φ w cargs H h2 with ⟨u, g1, φ', g2, g3, g4⟩ | ⟨g1, g2⟩
      · simp only [g1, Oper.upon]; exact hk u φ' w g2 g3 g4
      · simp only [g1, Oper.upon]
        exact g2.mono fun e w' h => by
          cases e with
          | returned u => obtain ⟨φ', h1, h2, h3⟩ := h; exact hk u φ' w' h1 h2 h3
          | panicked c => exact h.elim
          | outgrown => exact h.elim
  · rename_i hn
    by_cases hp : isReader o.op = true
    · obtain ⟨rfl, u, h1, h2⟩ := evOp_pure (P := P) (w := w) hp hr H.cells ht
      unfold Oper.wp
      simp only [h1, Oper.upon]
      exact hk u φ w (Ren.le_refl _) h2 H
    · by_cases ha : isAlloc o.op = true
      · obtain ⟨cs, cs', t, mk, mk', rfl, h2, rfl, h4, h5⟩ := evOp_alloc (P := P) ha hr ht
        unfold Oper.wp
        simp only [h4 w, Oper.upon]
        obtain ⟨g1, g2⟩ := H.alloc t h2
        exact hk _ _ _ g1 (h5 _ _ _ (by simp [Ren.with])) g2
      · cases ho : o.op <;> simp only [ho, isReader, isAlloc, not_true_eq_false, Bool.false_eq_true, not_false_eq_true] at hp ha hr
        case store t x y =>
          obtain ⟨rfl, w', h1, h2⟩ := evOp_store (P := P) ho (by rw [ho]; exact hr) H ht
          unfold Oper.wp
          simp only [h1, Oper.upon]
          exact hk _ φ w' (Ren.le_refl _) ARel.undef h2
        all_goals simp [evOp, Tr.run] at hr

/-! ### operations in their order -/

def gval (ops : Array Oper) (s : St) (o : Oper) : Bool :=
  match o.guard with
  | none => true
  | some (j, want) => match (ops[j]?).bind (·.dst) with
    | some t => match s.tmps.getD t .undef with
      | .bool _ b => b == want
      | _ => false
    | none => false

/-- One operation's step. -/
def Step1 (exec : St → Oper → Ans) (ops : Array Oper) (s : St) (o : Oper) (s1 : St) : Prop :=
  (gval ops s o = false ∧ s1 = ⟨put s.tmps o.dst .undef, s.heap⟩) ∨
  (gval ops s o = true ∧
    ((∃ t x y l b u, o.op = .pick (.tmp t) x y ∧ s.tmps.getD t .undef = .bool l b ∧ s.ev (if b = true then x else y) = some u ∧ s1 = ⟨put s.tmps o.dst u, s.heap⟩) ∨
     ((∀ c x y, o.op ≠ .pick c x y) ∧ ∃ r, (exec s o).run = some r ∧ s1 = ⟨put s.tmps o.dst r.1, r.2⟩)))

inductive Run (exec : St → Oper → Ans) (ops : Array Oper) : List Oper → St → St → Prop
  | nil (s : St) : Run exec ops [] s s
  | cons {o : Oper} {rest : List Oper} {s s1 s2 : St} (h : Step1 exec ops s o s1) (r : Run exec ops rest s1 s2) : Run exec ops (o :: rest) s s2

def DecOk (d : Dec) (s : St) : Prop := ∀ t b, d.lookup t = some b → ∃ l, s.tmps.getD t .undef = .bool l b

theorem ask_run {α : Type} {d : Dec} {t : Tmp} {s : St} {k : Dec → Bool → Tr α} {r : α} (hd : DecOk d s) (h : (ask d t (s.tmps.getD t .undef) k).run = some r) :
    ∃ l b d', s.tmps.getD t .undef = .bool l b ∧ DecOk d' s ∧ (k d' b).run = some r := by
  unfold ask at h
  cases hl : d.lookup t with
  | some b => simp only [hl] at h; obtain ⟨l, hv⟩ := hd t b hl; exact ⟨l, b, d, hv, hd, h⟩
  | none =>
    simp only [hl] at h
    cases hv : s.tmps.getD t .undef with
    | bool l b =>
      rw [hv] at h
      cases l with
      | true => exact ⟨true, b, d, rfl, hd, h⟩
      | false =>
        simp only [Tr.run] at h
        have key : DecOk ((t, b) :: d) s := by
          intro t' b' e
          simp only [List.lookup_cons] at e
          split at e
          · rename_i ht
            simp only [beq_iff_eq] at ht
            cases e; subst ht; exact ⟨false, hv⟩
          · exact hd t' b' e
        cases b with
        | true => exact ⟨false, true, _, rfl, key, by simpa using h⟩
        | false => exact ⟨false, false, _, rfl, key, by simpa using h⟩
    | _ => rw [hv] at h; simp [Tr.run] at h

theorem Dec.drop_ok {d : Dec} {s : St} {o : Option Tmp} {v : AV} {h : AH} (hd : DecOk d s) : DecOk (d.drop o) ⟨put s.tmps o v, h⟩ := by
  cases o with
  | none => exact hd
  | some t =>
    intro t' b e
    have hne : t' ≠ t ∧ d.lookup t' = some b := by
      simp only [Dec.drop] at e
      clear hd
      induction d with
      | nil => simp at e
      | cons p d ih =>
        obtain ⟨q, c⟩ := p
        simp only [List.filter_cons] at e
        by_cases hq : q = t
        · subst hq
          simp at e
          obtain ⟨h1, h2⟩ := ih (by simpa using e)
          refine ⟨h1, ?_⟩
          simp only [List.lookup_cons]
          have : (t' == q) = false := by simpa using h1
          simp [this, h2]
        · simp only [bne_iff_ne, ne_eq, hq, not_false_eq_true, if_true, List.lookup_cons] at e
          simp only [List.lookup_cons]
          split at e
          · rename_i ht
            simp only [beq_iff_eq] at ht
            subst ht
            exact ⟨hq, e⟩
          · exact ih e
    obtain ⟨l, hl⟩ := hd t' b hne.2
    refine ⟨l, ?_⟩
    simp only [put]
    rw [List.getD_eq_getElem?_getD, List.getElem?_set_ne (Ne.symm hne.1), ← List.getD_eq_getElem?_getD]
    exact hl

theorem evOps_run {exec : St → Oper → Ans} {ops : Array Oper} : ∀ {l : List Oper} {d : Dec} {s s' : St}, DecOk d s → (evOps exec ops l d s).run = some s' → Run exec ops l s s'
  | [], d, s, s', _, h => by simp only [evOps, Tr.run, Option.some.injEq] at h; subst h; exact .nil _
  | o :: rest, d, s, s', hd, h => by
    have go : ∀ (d : Dec) (b : Bool), DecOk d s → gval ops s o = b → (match b with
        | true => match o.op with
          | .pick c x y => match c with
            | .tmp t => ask d t (s.tmps.getD t .undef) fun d b => match (if b = true then s.ev x else s.ev y) with
              | some v => evOps exec ops rest (d.drop o.dst) ⟨put s.tmps o.dst v, s.heap⟩
              | none => .bad
            | _ => .bad
          | _ => (exec s o).bind fun r => evOps exec ops rest (d.drop o.dst) ⟨put s.tmps o.dst r.1, r.2⟩
        | false => evOps exec ops rest (d.drop o.dst) ⟨put s.tmps o.dst .undef, s.heap⟩ : Tr St).run = some s' → Run exec ops (o :: rest) s s' := by
      intro d b hd hg h
      cases b with
      | false => exact .cons (.inl ⟨hg, rfl⟩) (evOps_run (Dec.drop_ok hd) h)
      | true =>
        simp only at h
        split at h
        · rename_i c x y ho
          split at h
          · rename_i t
            obtain ⟨l, b, d', h1, h2, h3⟩ := ask_run hd h
            split at h3
            · rename_i u hu
              exact .cons (.inr ⟨hg, .inl ⟨t, x, y, l, b, u, ho, h1, by cases b <;> simpa using hu, rfl⟩⟩) (evOps_run (Dec.drop_ok h2) h3)
            · simp [Tr.run] at h3
          · simp [Tr.run] at h
        · rename_i hn
          obtain ⟨r, h1, h2⟩ := run_bind_some h
          exact .cons (.inr ⟨hg, .inr ⟨fun c x y e => hn c x y e, r, h1, rfl⟩⟩) (evOps_run (Dec.drop_ok hd) h2)
    unfold evOps at h
    simp only at h
    cases hgd : o.guard with
    | none => rw [hgd] at h; exact go d true hd (by simp [gval, hgd]) h
    | some p =>
      obtain ⟨j, want⟩ := p
      rw [hgd] at h
      simp only at h
      cases hdst : (ops[j]?).bind (·.dst) with
      | none => rw [hdst] at h; exact go d false hd (by simp [gval, hgd, hdst]) h
      | some t =>
        rw [hdst] at h
        simp only at h
        cases hv : s.tmps.getD t .undef with
        | bool l b =>
          rw [hv] at h
          simp only at h
          rw [← hv] at h
          obtain ⟨l', b', d', h1, h2, h3⟩ := ask_run hd h
          exact go d' (b' == want) h2 (by simp only [gval, hgd, hdst, h1]) h3
        | _ => rw [hv] at h; exact go d false hd (by simp only [gval, hgd, hdst, hv]) h

theorem put_rel {φ : Ren} {l : List AV} {a : Act} {d : Option Tmp} {v : AV} {u : Value} (h : LRel φ l a.tmps.toList) (hv : ARel φ v u) : LRel φ (put l d v) (a.put d u).tmps.toList := by
  cases d with
  | none => exact h
  | some d => simp only [put, Act.put, Array.toList_setIfInBounds]; exact LRel.set hv h

theorem wanted_rel {φ : Ren} {ops : Array Oper} {s : St} {o : Oper} {a : Act} (ht : LRel φ s.tmps a.tmps.toList) : Region.wanted o (yielded ops a.tmps) = gval ops s o := by
  unfold Region.wanted gval
  cases o.guard with
  | none => rfl
  | some p =>
    obtain ⟨j, want⟩ := p
    simp only [yielded]
    cases hd : (ops[j]?).bind (·.dst) with
    | none => simp
    | some t =>
      have hv := LRel.getD t ht
      simp only [Option.bind_some]
      have hlen := LRel.length ht
      simp only [Array.length_toList] at hlen
      rcases Nat.lt_or_ge t a.tmps.size with hlt | hge
      · rw [Array.getD_eq_getD_getElem?, Array.getElem?_eq_getElem hlt] at hv
        simp only [Option.getD_some] at hv
        rw [Array.getElem?_eq_getElem hlt]
        generalize a.tmps[t] = u at hv ⊢
        cases hs : s.tmps.getD t .undef with
        | bool l b => rw [hs] at hv; simp only [ARel] at hv; subst hv; simp
        | int k l n => rw [hs] at hv; simp only [ARel] at hv; obtain ⟨rfl, _⟩ := hv; simp
        | ptr p =>
          rw [hs] at hv
          cases p with
          | none => simp only [ARel] at hv; subst hv; simp
          | some p => obtain ⟨_, _⟩ := p; simp only [ARel] at hv; obtain ⟨_, _, rfl⟩ := hv; simp
        | slice p n k =>
          rw [hs] at hv
          cases p with
          | none => simp only [ARel] at hv; subst hv; simp
          | some p => obtain ⟨_, _⟩ := p; simp only [ARel] at hv; obtain ⟨_, _, rfl⟩ := hv; simp
        | func _ _ _ => rw [hs] at hv; simp only [ARel] at hv; obtain ⟨_, _, rfl, _⟩ := hv; simp
        | iface _ _ => rw [hs] at hv; simp only [ARel] at hv; obtain ⟨_, rfl, _⟩ := hv; simp
        | agg _ => rw [hs] at hv; simp only [ARel] at hv; obtain ⟨_, rfl, _⟩ := hv; simp
        | tuple _ => rw [hs] at hv; simp only [ARel] at hv; obtain ⟨_, rfl, _⟩ := hv; simp
        | _ => rw [hs] at hv; simp only [ARel] at hv; subst hv; simp
      · rw [Array.getElem?_eq_none hge]
        rw [List.getD_eq_getElem?_getD, List.getElem?_eq_none (by omega)]
        simp

/-- Memory and slots stand for the machine's. -/
structure SRel (B : Nat) (w0 : World) (φ : Ren) (s : St) (a : Act) (w : World) : Prop where
  heap : HRel B w0 φ s.heap w
  tmps : LRel φ s.tmps a.tmps.toList
  defers : a.defers = []

theorem put_defers {a : Act} {d : Option Tmp} {u : Value} : (a.put d u).defers = a.defers := by cases d <;> rfl

/-- One step of the evaluator is one of the machine. -/
theorem step_wp {call : CallA} (hc : CallsOk P call) {ops : Array Oper} {s s1 : St} {o : Oper} {a : Act} {φ : Ren} {w : World} {K : Act → World → Prop} {Q : Exit → Act → World → Prop}
    (h : Step1 (evOper P call) ops s o s1) (R : SRel B w0 φ s a w) (hk : ∀ φ' a' w', φ.le φ' → SRel B w0 φ' s1 a' w' → K a' w') :
    if Region.wanted o (yielded ops a.tmps) then o.wp P a w K Q ∨ (o.asks P a w ∧ LetsOut Q) else K (a.put o.dst undef) w := by
  rw [wanted_rel (s := s) R.tmps]
  rcases h with ⟨hg, rfl⟩ | ⟨hg, ⟨t, x, y, l, b, u, ho, hv, hu, rfl⟩ | ⟨hn, ⟨v, h'⟩, hr, rfl⟩⟩
  · rw [hg]; simp only [Bool.false_eq_true, if_false]
    exact hk φ _ _ (Ren.le_refl _) ⟨R.heap, put_rel R.tmps ARel.undef, by rw [put_defers]; exact R.defers⟩
  · rw [hg]; simp only [if_true]
    refine .inl ?_
    unfold Oper.wp execOp
    have hb := LRel.getD t R.tmps
    rw [hv] at hb
    simp only [ARel] at hb
    have hb' : a.eval (.tmp t) = .bool b := hb
    have hu' := ev_rel R.tmps hu
    have hx : a.eval (if b = true then x else y) = if b = true then a.eval x else a.eval y := by cases b <;> rfl
    rw [hx] at hu'
    simp only [ho, Sem.run_bind, hb', asBool, Sem.run_pure, Result.andThen_ok, Oper.upon]
    exact hk φ _ _ (Ren.le_refl _) ⟨R.heap, put_rel R.tmps hu', by rw [put_defers]; exact R.defers⟩
  · rw [hg]; simp only [if_true]
    exact .inl (evOper_wp hc hr R.heap R.tmps fun u φ' w' h1 h2 h3 => hk φ' _ _ h1 ⟨h3, put_rel (LRel.mono h1 _ _ R.tmps) h2, by rw [put_defers]; exact R.defers⟩)

theorem run_wpOps {call : CallA} (hc : CallsOk P call) {ops : Array Oper} {Q : Exit → Act → World → Prop} : ∀ {l : List Oper} {k : Nat} {s s' : St} {a : Act} {φ : Ren} {w : World},
    Run (evOper P call) ops l s s' → (∀ j, l[j]? = ops[k + j]?) → SRel B w0 φ s a w → (∀ φ' a' w', φ.le φ' → SRel B w0 φ' s' a' w' → Q .normal a' w') → wpOps P ops Q (List.range' k l.length) a w
  | [], k, s, s', a, φ, w, h, _, R, hk => by
    cases h
    simp only [List.length_nil, List.range'_zero, wpOps]
    exact hk φ a w (Ren.le_refl _) R
  | o :: l, k, s, s', a, φ, w, h, hl, R, hk => by
    cases h
    rename_i s1 h1 h2
    have ho : ops[k]? = some o := by simpa using (hl 0).symm
    simp only [List.length_cons, List.range'_succ, wpOps, ho]
    exact step_wp hc h1 R fun φ' a' w' hle R' => run_wpOps hc h2 (fun j => by have := hl (j + 1); simpa [Nat.add_assoc, Nat.add_comm 1 j] using this) R'
      (fun φ'' a'' w'' hle' R'' => hk φ'' a'' w'' (Ren.le_trans hle hle') R'')

end
end Go.Sky
