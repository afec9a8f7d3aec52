/- The evaluator against the machine: code, bodies, calls; a function's contract out of what the evaluator gives. -/
import Derived.Test.YtfbakgcemnkcpaaQSkyJ
set_option linter.unusedSimpArgs false
set_option linter.unusedVariables false
namespace Go.Sky
open Go.RowKit (Below)

def exOf : Ex → Exit
  | .normal => .normal
  | .exit id => .exit id
  | .ret => .ret

/-- What a piece of code comes to. -/
def Post (B : Nat) (w0 : World) (φ : Ren) (e : Ex) (s' : St) : Exit → Act → World → Prop :=
  fun e' a' w' => ∃ φ', φ.le φ' ∧ e' = exOf e ∧ SRel B w0 φ' s' a' w'

def blocksOf : Code → List (Nat × Code)
  | .seq a b => blocksOf a ++ blocksOf b
  | .cond _ a b => blocksOf a ++ blocksOf b
  | .block id c => (id, c) :: blocksOf c
  | .loop c => blocksOf c
  | .scope c => blocksOf c
  | _ => []

/-- What is told of pieces of code is so. -/
def KnownOk (P : Program) (O : Known) (l : List (Nat × Code)) : Prop :=
  ∀ id b X, O id = some X → (id, b) ∈ l → ∀ s e s', (X s).run = some (e, s') → ∀ B w0 φ a w, SRel B w0 φ s a w → (Code.block id b).wp P (Post B w0 φ e s') a w

section
variable {P : Program} {B : Nat} {w0 : World} {call : CallA} {L : Nat} {O : Known}

theorem Post.mono {φ φ1 : Ren} (h : φ.le φ1) {e : Ex} {s' : St} : ∀ e' a' w', Post B w0 φ1 e s' e' a' w' → Post B w0 φ e s' e' a' w' :=
  fun e' a' w' ⟨φ', h1, h2⟩ => ⟨φ', Ren.le_trans h h1, h2⟩

theorem code_wp (hm : P.follows .mixedOrders = true) (hc : CallsOk P call) : ∀ (c : Code) (hk : KnownOk P O (blocksOf c)) (s : St) (e : Ex) (s' : St), (evCode P call L O c s).run = some (e, s') →
    ∀ (φ : Ren) (a : Act) (w : World), SRel B w0 φ s a w → c.wp P (Post B w0 φ e s') a w := by
  intro c
  induction c with
  | skip =>
    intro _ s e s' h φ a w R
    simp only [evCode, Tr.run, Option.some.injEq, Prod.mk.injEq] at h
    obtain ⟨rfl, rfl⟩ := h
    exact wp_skip ⟨φ, Ren.le_refl _, rfl, R⟩
  | label l =>
    intro _ s e s' h φ a w R
    simp only [evCode, Tr.run, Option.some.injEq, Prod.mk.injEq] at h
    obtain ⟨rfl, rfl⟩ := h
    exact wp_label ⟨φ, Ren.le_refl _, rfl, R⟩
  | exit id =>
    intro _ s e s' h φ a w R
    simp only [evCode, Tr.run, Option.some.injEq, Prod.mk.injEq] at h
    obtain ⟨rfl, rfl⟩ := h
    exact wp_exit ⟨φ, Ren.le_refl _, rfl, R⟩
  | ret =>
    intro _ s e s' h φ a w R
    simp only [evCode, Tr.run, Option.some.injEq, Prod.mk.injEq] at h
    obtain ⟨rfl, rfl⟩ := h
    exact wp_ret ⟨φ, Ren.le_refl _, rfl, R⟩
  | goto l => intro _ s e s' h; simp [evCode, Tr.run] at h
  | refuse why => intro _ s e s' h; simp [evCode, Tr.run] at h
  | rangeFunc f ps x y _ _ => intro _ s e s' h; simp [evCode, Tr.run] at h
  | region id ops draw =>
    intro _ s e s' h φ a w R
    cases draw with
    | false =>
      simp only [evCode] at h
      obtain ⟨s1, h1, h2⟩ := run_bind_some h
      simp only [Tr.run, Option.some.injEq, Prod.mk.injEq] at h2
      obtain ⟨rfl, rfl⟩ := h2
      have hr := evOps_run (fun t b e => by simp at e) h1
      refine wp_region ?_
      have := run_wpOps (P := P) (callAny_ok hc) (k := 0) hr (fun j => by simp) R (Q := Post B w0 φ .normal s1) (fun φ' a' w' hle R' => ⟨φ', hle, rfl, R'⟩)
      rw [List.range_eq_range']
      simpa using this
    | true =>
      simp only [evCode] at h
      split at h
      · rename_i hf
        obtain ⟨s1, h1, h2⟩ := run_bind_some h
        obtain ⟨s2, h3, h4⟩ := run_bind_some h2
        simp only [Tr.run, Option.some.injEq, Prod.mk.injEq] at h4
        obtain ⟨rfl, rfl⟩ := h4
        exact region_draw_wp hm (callPure_ok hc) (callAny_ok hc) (fok_of hf) (evOps_run (fun t b e => by simp at e) h1) (evOps_run (fun t b e => by simp at e) h3) R
          (fun φ' a' w' hle R' => ⟨φ', hle, rfl, R'⟩)
      · simp [Tr.run] at h
  | seq x y ihx ihy =>
    intro hk s e s' h φ a w R
    have hkx : KnownOk P O (blocksOf x) := fun id b X h1 h2 => hk id b X h1 (by simp [blocksOf, h2])
    have hky : KnownOk P O (blocksOf y) := fun id b X h1 h2 => hk id b X h1 (by simp [blocksOf, h2])
    simp only [evCode] at h
    obtain ⟨⟨e1, s1⟩, h1, h2⟩ := run_bind_some h
    refine wp_seq (wp_mono (ihx hkx s e1 s1 h1 φ a w R) ?_)
    rintro e' a' w' ⟨φ', hle, rfl, R'⟩
    cases e1 with
    | normal => exact wp_mono (ihy hky s1 e s' h2 φ' a' w' R') (Post.mono hle)
    | exit id =>
      simp only [Tr.run, Option.some.injEq, Prod.mk.injEq] at h2
      obtain ⟨rfl, rfl⟩ := h2
      exact ⟨φ', hle, rfl, R'⟩
    | ret =>
      simp only [Tr.run, Option.some.injEq, Prod.mk.injEq] at h2
      obtain ⟨rfl, rfl⟩ := h2
      exact ⟨φ', hle, rfl, R'⟩
  | cond c x y ihx ihy =>
    intro hk s e s' h φ a w R
    have hkx : KnownOk P O (blocksOf x) := fun id b X h1 h2 => hk id b X h1 (by simp [blocksOf, h2])
    have hky : KnownOk P O (blocksOf y) := fun id b X h1 h2 => hk id b X h1 (by simp [blocksOf, h2])
    simp only [evCode] at h
    split at h
    · rename_i hv
      have := ev_rel R.tmps hv
      simp only [ARel] at this
      exact wp_cond_true this (ihx hkx s e s' h φ a w R)
    · rename_i hv
      have := ev_rel R.tmps hv
      simp only [ARel] at this
      exact wp_cond_false this (ihy hky s e s' h φ a w R)
    · rename_i t hv
      have := ev_rel R.tmps hv
      simp only [ARel] at this
      simp only [Tr.run] at h
      cases t with
      | true => exact wp_cond_true this (ihx hkx s e s' (by simpa using h) φ a w R)
      | false => exact wp_cond_false this (ihy hky s e s' (by simpa using h) φ a w R)
    · simp [Tr.run] at h
  | block id x ih =>
    intro hk s e s' h φ a w R
    simp only [evCode] at h
    cases hO : O id with
    | some X =>
      rw [hO] at h
      exact hk id x X hO (by simp [blocksOf]) s e s' h B w0 φ a w R
    | none =>
      rw [hO] at h
      simp only at h
      obtain ⟨⟨e1, s1⟩, h1, h2⟩ := run_bind_some h
      refine wp_block (wp_mono (ih (fun id b X h1 h2 => hk id b X h1 (by simp [blocksOf, h2])) s e1 s1 h1 φ a w R) ?_)
      rintro e' a' w' ⟨φ', hle, rfl, R'⟩
      cases e1 with
      | normal =>
        simp only [Tr.run, Option.some.injEq, Prod.mk.injEq] at h2
        obtain ⟨rfl, rfl⟩ := h2
        exact ⟨φ', hle, rfl, R'⟩
      | ret =>
        simp only [Tr.run, Option.some.injEq, Prod.mk.injEq] at h2
        obtain ⟨rfl, rfl⟩ := h2
        exact ⟨φ', hle, rfl, R'⟩
      | exit j =>
        simp only [Tr.run, Option.some.injEq, Prod.mk.injEq] at h2
        obtain ⟨h2, rfl⟩ := h2
        simp only [exOf, Exit.inBlock]
        split at h2
        · rename_i hj; subst h2; rw [if_pos hj]; exact ⟨φ', hle, rfl, R'⟩
        · rename_i hj; subst h2; rw [if_neg hj]; exact ⟨φ', hle, rfl, R'⟩
  | loop x ih =>
    intro hk s e s' h φ a w R
    simp only [evCode] at h
    have key : ∀ (n : Nat) (s : St) (φ1 : Ren) (a : Act) (w : World), φ.le φ1 → (loopIter (evCode P call L O x) n s).run = some (e, s') → SRel B w0 φ1 s a w → Code.rounds P x (Post B w0 φ e s') n a w := by
      intro n
      induction n with
      | zero => intro s φ1 a w _ h; simp [loopIter, Tr.run] at h
      | succ n ihn =>
        intro s φ1 a w hle h R
        simp only [loopIter] at h
        obtain ⟨⟨e1, s1⟩, h1, h2⟩ := run_bind_some h
        rw [rounds_succ]
        refine wp_mono (ih (fun id b X h1 h2 => hk id b X h1 (by simpa [blocksOf] using h2)) s e1 s1 h1 φ1 a w R) ?_
        rintro e' a' w' ⟨φ', hle', rfl, R'⟩
        cases e1 with
        | normal => exact ihn s1 φ' a' w' (Ren.le_trans hle hle') h2 R'
        | exit j =>
          simp only [Tr.run, Option.some.injEq, Prod.mk.injEq] at h2
          obtain ⟨rfl, rfl⟩ := h2
          exact ⟨φ', Ren.le_trans hle hle', rfl, R'⟩
        | ret =>
          simp only [Tr.run, Option.some.injEq, Prod.mk.injEq] at h2
          obtain ⟨rfl, rfl⟩ := h2
          exact ⟨φ', Ren.le_trans hle hle', rfl, R'⟩
    exact wp_loop_rounds L (key L s φ a w (Ren.le_refl _) h R)
  | scope x ih => intro _ s e s' h; simp [evCode, Tr.run] at h

def rvRead (tmps : Array Value) : ResultVar → Sem Value
  | .tmp t => pure (tmps.getD t Go.undef)
  | .cell a t => do loadVar t (← asAddr (tmps.getD a Go.undef))

theorem results_eq (fn : Func) (tmps : Array Value) : results fn tmps = (do
    let vs ← fn.results.mapM (rvRead tmps)
    pure (if h : vs.size = 1 then vs[0] else .tuple vs)) := by
  unfold results
  congr 2

theorem readResults_rel {s : St} {a : Act} {φ : Ren} {w : World} (R : SRel B w0 φ s a w) : ∀ {l : List ResultVar} {vs : List AV}, readResults P s l = some vs →
    ∃ us, (l.mapM (rvRead a.tmps)).run P w = .ok us w ∧ LRel φ vs us
  | [], vs, h => by simp only [readResults, Option.some.injEq] at h; subst h; exact ⟨[], by simp, by simp [LRel]⟩
  | .tmp t :: r, vs, h => by
    simp only [readResults] at h
    cases hr : readResults P s r with
    | none => simp [hr] at h
    | some l =>
      simp only [hr, Option.some.injEq] at h; subst h
      obtain ⟨us, h1, h2⟩ := readResults_rel R hr
      refine ⟨a.tmps.getD t Go.undef :: us, ?_, by simp only [LRel]; exact ⟨_, _, rfl, LRel.getD t R.tmps, h2⟩⟩
      rw [List.mapM_cons]
      simp only [rvRead, Sem.run_bind, Sem.run_pure, Result.andThen_ok, h1]
  | .cell p t :: r, vs, h => by
    simp only [readResults] at h
    split at h
    · rename_i b o hp
      split at h
      · rename_i v l hl hr
        simp only [Option.some.injEq] at h; subst h
        obtain ⟨us, h1, h2⟩ := readResults_rel R hr
        have hpr := LRel.getD p R.tmps
        rw [hp] at hpr
        simp only [ARel] at hpr
        obtain ⟨c, hc, hpr⟩ := hpr
        obtain ⟨u, hu, hur⟩ := load_rel (P := P) R.heap.cells hc hl
        refine ⟨u :: us, ?_, by simp only [LRel]; exact ⟨_, _, rfl, hur, h2⟩⟩
        rw [List.mapM_cons]
        simp only [rvRead, Sem.run_bind, Sem.run_pure, Result.andThen_ok, h1, hpr, asAddr, hu]
      · cases h
    · cases h

/-- A function's body. -/
theorem body_calls (hm : P.follows .mixedOrders = true) (hc : CallsOk P call) {f : FuncId} {fn : Func} (hf : P.funcs[f]? = some fn) (hk : ∀ c, fn.body = some c → KnownOk P O (blocksOf c))
    {args : List AV} {h : AH} {v : AV} {h' : AH} (hr : (bodyA P call L O fn args h).run = some (v, h')) {φ : Ren} {w : World} {cargs : Array Value} (H : HRel B w0 φ h w) (hl : LRel φ args cargs.toList) :
    Calls P f cargs w (fun e w' => match e with | .returned u => ∃ φ', φ.le φ' ∧ ARel φ' v u ∧ HRel B w0 φ' h' w' | _ => False) := by
  unfold bodyA at hr
  cases hb : fn.body with
  | none => rw [hb] at hr; simp [Tr.run] at hr
  | some c =>
    rw [hb] at hr
    simp only at hr
    obtain ⟨⟨e, s'⟩, h1, h2⟩ := run_bind_some hr
    have hlen : args.length = cargs.size := by have := LRel.length hl; simpa using this
    have R : SRel B w0 φ ⟨args ++ List.replicate (fn.ntmps - args.length) .undef, h⟩ { tmps := cargs ++ Array.replicate (fn.ntmps - cargs.size) Go.undef, defers := [] } w := by
      refine ⟨H, ?_, rfl⟩
      simp only [Array.toList_append, Array.toList_replicate, hlen]
      exact LRel.append hl (LRel.replicate _)
    refine calls_of_wp hf hb (wp_mono (code_wp hm hc c (hk c hb) _ e s' h1 φ _ w R) ?_)
    rintro e' a' w' ⟨φ', hle, rfl, R'⟩
    have hend : ∀ (hne : match readResults P s' fn.results.toList with
      | some [u] => (v, h') = (u, s'.heap)
      | some l => (v, h') = (.tuple l, s'.heap)
      | none => False), a'.defers = [] ∧ ∃ u, (results fn a'.tmps).run P w' = .ok u w' ∧ ∃ φ', φ.le φ' ∧ ARel φ' v u ∧ HRel B w0 φ' h' w' := by
      intro hne
      refine ⟨R'.defers, ?_⟩
      cases hrr : readResults P s' fn.results.toList with
      | none => rw [hrr] at hne; exact hne.elim
      | some l =>
        rw [hrr] at hne
        obtain ⟨us, g1, g2⟩ := readResults_rel (P := P) R' hrr
        have hlu := LRel.length g2
        have hres : (results fn a'.tmps).run P w' = .ok (if h : us.toArray.size = 1 then us.toArray[0] else .tuple us.toArray) w' := by
          rw [results_eq, Array.mapM_eq_mapM_toList]
          simp only [Sem.run_bind, Sem.run_map, g1, Result.andThen_ok, Sem.run_pure]
        refine ⟨_, hres, φ', hle, ?_⟩
        match l, us, g2, hne, hlu with
        | [u], [x], g2, hne, _ =>
          simp only [Prod.mk.injEq] at hne
          obtain ⟨rfl, rfl⟩ := hne
          simp only [LRel] at g2
          obtain ⟨y, ys, e1, e2, _⟩ := g2
          cases e1
          exact ⟨by simpa using e2, R'.heap⟩
        | [], [], g2, hne, _ =>
          simp only [Prod.mk.injEq] at hne
          obtain ⟨rfl, rfl⟩ := hne
          exact ⟨by simp [ARel, LRel], R'.heap⟩
        | a :: b :: l, x :: y :: us, g2, hne, _ =>
          simp only [Prod.mk.injEq] at hne
          obtain ⟨rfl, rfl⟩ := hne
          refine ⟨?_, R'.heap⟩
          rw [dif_neg (by simp)]
          simp only [ARel]
          exact ⟨_, rfl, g2⟩
    have h3 : (match readResults P s' fn.results.toList with
      | some [u] => (Tr.leaf (u, s'.heap) : Ans)
      | some l => .leaf (.tuple l, s'.heap)
      | none => .bad).run = some (v, h') → (match readResults P s' fn.results.toList with
      | some [u] => (v, h') = (u, s'.heap)
      | some l => (v, h') = (.tuple l, s'.heap)
      | none => False) := by
      intro h
      split at h <;> simp_all [Tr.run]
    cases e with
    | normal => exact hend (h3 h2)
    | ret => exact hend (h3 h2)
    | exit j => simp [Tr.run] at h2

end

/-- What the program must bear. -/
structure ProgOk (P : Program) : Prop where
  mixed : P.follows .mixedOrders = true
  names : P.funcs.all (fun fn => fn.body.isNone || !(fn.name == "runtime.NumGoroutine")) = true

/-- What a table tells is so. -/
def TableOk (P : Program) (T : Table) : Prop :=
  ∀ f args t v, T f args = some t → t.run = some v → ∀ (φ : Ren) (w : World) (cargs : Array Value), LRel φ args cargs.toList → CallOk P f cargs w fun u w' => (∀ ψ, ARel ψ v u) ∧ Below w.heap.size w w'

theorem callFunc_enter {P : Program} (hp : ProgOk P) {f : FuncId} {fn : Func} (hf : P.funcs[f]? = some fn) {c : Code} (hb : fn.body = some c) (args : Array Value) (w : World) :
    (callFunc f args).run P w = .ok (.enter f args) w := by
  have h := Array.all_eq_true_iff_forall_mem.1 hp.names fn (Array.mem_of_getElem? hf)
  have h2 : (fn.name == "runtime.NumGoroutine") = false := by simpa [hb] using h
  have h3 : ¬ fn.name = "runtime.NumGoroutine" := by simpa using h2
  simp [callFunc, hf, hb, h3]

theorem table_calls {P : Program} {T : Table} (hT : TableOk P T) {f : FuncId} {args : List AV} {t : Tr AV} {v : AV} {h : AH} (ht : T f args = some t) (hv : t.run = some v) {B : Nat} {w0 : World} {φ : Ren} {w : World} {cargs : Array Value} (H : HRel B w0 φ h w)
    (hl : LRel φ args cargs.toList) : CallOk P f cargs w fun u w' => ∃ φ', φ.le φ' ∧ ARel φ' v u ∧ HRel B w0 φ' h w' :=
  (hT f args t v ht hv φ w cargs hl).mono fun u w' ⟨h1, h2⟩ => ⟨φ, Ren.le_refl _, h1 φ, H.grown h2⟩

theorem evCall_ok {P : Program} (hp : ProgOk P) {T : Table} (hT : TableOk P T) {L : Nat} : ∀ n, CallsOk P (evCall P T L n)
  | 0 => by
    intro f args h v h' hr B w0 φ w cargs H hl
    simp only [evCall, evTable] at hr
    split at hr
    · rename_i u hu
      obtain ⟨x, hx, hr⟩ := run_bind_some hr
      cases val_run hr
      exact table_calls hT hu hx H hl
    · simp [Tr.run] at hr
  | n + 1 => by
    intro f args h v h' hr B w0 φ w cargs H hl
    simp only [evCall] at hr
    split at hr
    · rename_i u hu
      obtain ⟨x, hx, hr⟩ := run_bind_some hr
      cases val_run hr
      exact table_calls hT hu hx H hl
    · split at hr
      · rename_i fn hf
        have hk : ∀ c, fn.body = some c → KnownOk P (fun _ => none) (blocksOf c) := fun c _ id b X h => by cases h
        have := body_calls hp.mixed (evCall_ok hp hT n) hf hk hr H hl
        cases hb : fn.body with
        | none => unfold bodyA at hr; rw [hb] at hr; simp [Tr.run] at hr
        | some c => exact .inr ⟨callFunc_enter hp hf hb cargs w, this⟩
      · simp [Tr.run] at hr

/-- THE CONTRACT: what the evaluator gives of arguments that lead to no block, a call gives. -/
theorem contract {P : Program} (hp : ProgOk P) {T : Table} (hT : TableOk P T) {L n : Nat} {O : Known} {f : FuncId} (hk : ∀ fn c, P.funcs[f]? = some fn → fn.body = some c → KnownOk P O (blocksOf c))
    {args : List AV} {v : AV} {h' : AH} (hr : (evFun P T L n O f args []).run = some (v, h')) (ha : pureL args = true) (hv : pureAV v = true) (φ : Ren) (w : World) (cargs : Array Value) (hl : LRel φ args cargs.toList) :
    (callFunc f cargs).run P w = .ok (.enter f cargs) w ∧ Calls P f cargs w (fun e w' => match e with | .returned u => (∀ ψ, ARel ψ v u) ∧ Below w.heap.size w w' | _ => False) := by
  unfold evFun at hr
  split at hr
  · rename_i fn hf
    have := body_calls hp.mixed (evCall_ok hp hT n) hf (fun c hb => hk fn c hf hb) hr (HRel.empty w) (pureL_rel _ _ ha hl)
    cases hb : fn.body with
    | none => unfold bodyA at hr; rw [hb] at hr; simp [Tr.run] at hr
    | some c =>
      refine ⟨callFunc_enter hp hf hb cargs w, this.mono fun e w' h => ?_⟩
      cases e with
      | returned u => obtain ⟨φ', _, h2, h3⟩ := h; exact ⟨fun ψ => pureAV_rel _ _ hv h2, h3.below⟩
      | panicked c => exact h
      | outgrown => exact h
  · simp [Tr.run] at hr

end Go.Sky
