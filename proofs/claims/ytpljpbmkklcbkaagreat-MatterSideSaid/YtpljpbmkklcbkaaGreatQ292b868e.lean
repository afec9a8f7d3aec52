/- The evaluator against the machine: code, bodies, calls; a function's contract out of what the evaluator gives. -/
import Derived.ProofKit
import Derived.Laws.Bits64
import Derived.Laws.Externs
import Derived.Shelf.Small.Bits
import Derived.Lib.ItoaNum
import Derived.Test.YtpljpbmkklcbkaaGreatQa03a775a
set_option linter.unusedSimpArgs false
set_option linter.unusedVariables false
namespace Go.Sky
open Go.RowKit (Below)

def exOf : Ex → Exit
  | .normal => .normal
  | .exit id => .exit id
  | .ret => .ret

/-- What a piece of code comes to. -/
def Post (B : Nat) (w0 : World) (φ : Ren) (e : Ex) (s' : St) : Exit → Act → World → Prop :=
  fun e' a' w' => ∃ φ', φ.le φ' ∧ e' = exOf e ∧ SRel B w0 φ' s' a' w'

def blocksOf : Code → List (Nat × Code)
  | .seq a b => blocksOf a ++ blocksOf b
  | .cond _ a b => blocksOf a ++ blocksOf b
  | .block id c => (id, c) :: blocksOf c
  | .loop c => blocksOf c
  | .scope c => blocksOf c
  | _ => []

/-- What is told of pieces of code is so. -/
def KnownOk (P : Program) (O : Known) (l : List (Nat × Code)) : Prop :=
  ∀ id b X, O id = some X → (id, b) ∈ l → ∀ s e s', (X s).run = some (e, s') → ∀ B w0 φ a w, SRel B w0 φ s a w → (Code.block id b).wp P (Post B w0 φ e s') a w

section
variable {P : Program} {B : Nat} {w0 : World} {call : CallA} {L : Nat} {O : Known}

theorem Post.mono {φ φ1 : Ren} (h : φ.le φ1) {e : Ex} {s' : St} : ∀ e' a' w', Post B w0 φ1 e s' e' a' w' → Post B w0 φ e s' e' a' w' :=
  fun e' a' w' ⟨φ', h1, h2⟩ => ⟨φ', Ren.le_trans h h1, h2⟩

theorem code_wp (hm : P.follows .mixedOrders = true) (hc : CallsOk P call) : ∀ (c : Code) (hk : KnownOk P O (blocksOf c)) (s : St) (e : Ex) (s' : St), (evCode P call L O c s).run = some (e, s') →
    ∀ (φ : Ren) (a : Act) (w : World), SRel B w0 φ s a w → c.wp P (Post B w0 φ e s') a w := by
  intro c
  induction c with
  | skip =>
    intro _ s e s' h φ a w R
    simp only [evCode, Tr.run, Option.some.injEq, Prod.mk.injEq] at h
    obtain ⟨rfl, rfl⟩ := h
    exact wp_skip ⟨φ, Ren.le_refl _, rfl, R⟩
  | label l =>
    intro _ s e s' h φ a w R
    simp only [evCode, Tr.run, Option.some.injEq, Prod.mk.injEq] at h
    obtain ⟨rfl, rfl⟩ := h
    exact wp_label ⟨φ, Ren.le_refl _, rfl, R⟩
  | exit id =>
    intro _ s e s' h φ a w R
    simp only [evCode, Tr.run, Option.some.injEq, Prod.mk.injEq] at h
    obtain ⟨rfl, rfl⟩ := h
    exact wp_exit ⟨φ, Ren.le_refl _, rfl, R⟩
  | ret =>
    intro _ s e s' h φ a w R
    simp only [evCode, Tr.run, Option.some.injEq, Prod.mk.injEq] at h
    obtain ⟨rfl, rfl⟩ := h
    exact wp_ret ⟨φ, Ren.le_refl _, rfl, R⟩
  | goto l => intro _ s e s' h; simp [evCode, Tr.run] at h
  | refuse why => intro _ s e s' h; simp [evCode, Tr.run] at h
  | rangeFunc f ps x y _ _ => intro _ s e s' h; simp [evCode, Tr.run] at h
  | region id ops draw =>
    intro _ s e s' h φ a w R
    cases draw with
    | false =>
      simp only [evCode] at h
      obtain ⟨s1, h1, h2⟩ := run_bind_some h
      simp only [Tr.run, Option.some.injEq, Prod.mk.injEq] at h2
      obtain ⟨rfl, rfl⟩ := h2
      have hr := evOps_run (fun t b e => by simp at e) h1
      refine wp_region ?_
      have := run_wpOps (P := P) (callAny_ok hc) (k := 0) hr (fun j => by simp) R (Q := Post B w0 φ .normal s1) (fun φ' a' w' hle R' => ⟨φ', hle, rfl, R'⟩)
      rw [List.range_eq_range']
      simpa using this
    | true =>
      simp only [evCode] at h
      split at h
      · rename_i hf
        obtain ⟨s1, h1, h2⟩ := run_bind_some h
        split at h2
        · rename_i hacc
          obtain ⟨s2, h3, h4⟩ := run_bind_some h2
          simp only [Tr.run, Option.some.injEq, Prod.mk.injEq] at h4
          obtain ⟨rfl, rfl⟩ := h4
          exact region_draw_wp hm (callPure_ok hc) (callAny_ok hc) (fok_of hf) (evOps_run (fun t b e => by simp at e) h1) hacc (evOps_run (fun t b e => by simp at e) h3) R
            (fun φ' a' w' hle R' => ⟨φ', hle, rfl, R'⟩)
        · simp [Tr.run] at h2
      · simp [Tr.run] at h
  | seq x y ihx ihy =>
    intro hk s e s' h φ a w R
    have hkx : KnownOk P O (blocksOf x) := fun id b X h1 h2 => hk id b X h1 (by simp [blocksOf, h2])
    have hky : KnownOk P O (blocksOf y) := fun id b X h1 h2 => hk id b X h1 (by simp [blocksOf, h2])
    simp only [evCode] at h
    obtain ⟨⟨e1, s1⟩, h1, h2⟩ := run_bind_some h
    refine wp_seq (wp_mono (ihx hkx s e1 s1 h1 φ a w R) ?_)
    rintro e' a' w' ⟨φ', hle, rfl, R'⟩
    cases e1 with
    | normal => exact wp_mono (ihy hky s1 e s' h2 φ' a' w' R') (Post.mono hle)
    | exit id =>
      simp only [Tr.run, Option.some.injEq, Prod.mk.injEq] at h2
      obtain ⟨rfl, rfl⟩ := h2
      exact ⟨φ', hle, rfl, R'⟩
    | ret =>
      simp only [Tr.run, Option.some.injEq, Prod.mk.injEq] at h2
      obtain ⟨rfl, rfl⟩ := h2
      exact ⟨φ', hle, rfl, R'⟩
  | cond c x y ihx ihy =>
    intro hk s e s' h φ a w R
    have hkx : KnownOk P O (blocksOf x) := fun id b X h1 h2 => hk id b X h1 (by simp [blocksOf, h2])
    have hky : KnownOk P O (blocksOf y) := fun id b X h1 h2 => hk id b X h1 (by simp [blocksOf, h2])
    simp only [evCode] at h
    split at h
    · rename_i hv
      have := ev_rel R.tmps hv
      simp only [ARel] at this
      exact wp_cond_true this (ihx hkx s e s' h φ a w R)
    · rename_i hv
      have := ev_rel R.tmps hv
      simp only [ARel] at this
      exact wp_cond_false this (ihy hky s e s' h φ a w R)
    · rename_i t hv
      have := ev_rel R.tmps hv
      simp only [ARel] at this
      simp only [Tr.run] at h
      cases t with
      | true => exact wp_cond_true this (ihx hkx s e s' (by simpa using h) φ a w R)
      | false => exact wp_cond_false this (ihy hky s e s' (by simpa using h) φ a w R)
    · simp [Tr.run] at h
  | block id x ih =>
    intro hk s e s' h φ a w R
    simp only [evCode] at h
    cases hO : O id with
    | some X =>
      rw [hO] at h
      exact hk id x X hO (by simp [blocksOf]) s e s' h B w0 φ a w R
    | none =>
      rw [hO] at h
      simp only at h
      obtain ⟨⟨e1, s1⟩, h1, h2⟩ := run_bind_some h
      refine wp_block (wp_mono (ih (fun id b X h1 h2 => hk id b X h1 (by simp [blocksOf, h2])) s e1 s1 h1 φ a w R) ?_)
      rintro e' a' w' ⟨φ', hle, rfl, R'⟩
      cases e1 with
      | normal =>
        simp only [Tr.run, Option.some.injEq, Prod.mk.injEq] at h2
        obtain ⟨rfl, rfl⟩ := h2
        exact ⟨φ', hle, rfl, R'⟩
      | ret =>
        simp only [Tr.run, Option.some.injEq, Prod.mk.injEq] at h2
        obtain ⟨rfl, rfl⟩ := h2
        exact ⟨φ', hle, rfl, R'⟩
      | exit j =>
        simp only [Tr.run, Option.some.injEq, Prod.mk.injEq] at h2
        obtain ⟨h2, rfl⟩ := h2
        simp only [exOf, Exit.inBlock]
        split at h2
        · rename_i hj; subst h2; rw [if_pos hj]; exact ⟨φ', hle, rfl, R'⟩
        · rename_i hj; subst h2; rw [if_neg hj]; exact ⟨φ', hle, rfl, R'⟩
  | loop x ih =>
    intro hk s e s' h φ a w R
    simp only [evCode] at h
    have key : ∀ (n : Nat) (s : St) (φ1 : Ren) (a : Act) (w : World), φ.le φ1 → (loopIter (evCode P call L O x) n s).run = some (e, s') → SRel B w0 φ1 s a w → Code.rounds P x (Post B w0 φ e s') n a w := by
      intro n
      induction n with
      | zero => intro s φ1 a w _ h; simp [loopIter, Tr.run] at h
      | succ n ihn =>
        intro s φ1 a w hle h R
        simp only [loopIter] at h
        obtain ⟨⟨e1, s1⟩, h1, h2⟩ := run_bind_some h
        rw [rounds_succ]
        refine wp_mono (ih (fun id b X h1 h2 => hk id b X h1 (by simpa [blocksOf] using h2)) s e1 s1 h1 φ1 a w R) ?_
        rintro e' a' w' ⟨φ', hle', rfl, R'⟩
        cases e1 with
        | normal => exact ihn s1 φ' a' w' (Ren.le_trans hle hle') h2 R'
        | exit j =>
          simp only [Tr.run, Option.some.injEq, Prod.mk.injEq] at h2
          obtain ⟨rfl, rfl⟩ := h2
          exact ⟨φ', Ren.le_trans hle hle', rfl, R'⟩
        | ret =>
          simp only [Tr.run, Option.some.injEq, Prod.mk.injEq] at h2
          obtain ⟨rfl, rfl⟩ := h2
          exact ⟨φ', Ren.le_trans hle hle', rfl, R'⟩
    exact wp_loop_rounds L (key L s φ a w (Ren.le_refl _) h R)
  | scope x ih => intro _ s e s' h; simp [evCode, Tr.run] at h

def rvRead (tmps : Array Value) : ResultVar → Sem Value
  | .tmp t => pure (tmps.getD t Go.undef)
  | .cell a t => do loadVar t (← asAddr (tmps.getD a Go.undef))

theorem results_eq (fn : Func) (tmps : Array Value) : results fn tmps = (do
    let vs ← fn.results.mapM (rvRead tmps)
    pure (if h : vs.size = 1 then vs[0] else .tuple vs)) := by
  unfold results
  congr 2

theorem readResults_rel {s : St} {a : Act} {φ : Ren} {w : World} (R : SRel B w0 φ s a w) : ∀ {l : List ResultVar} {vs : List AV}, readResults P s l = some vs →
    ∃ us, (l.mapM (rvRead a.tmps)).run P w = .ok us w ∧ LRel φ vs us
  | [], vs, h => by simp only [readResults, Option.some.injEq] at h; subst h; exact ⟨[], by simp, by simp [LRel]⟩
  | .tmp t :: r, vs, h => by
    simp only [readResults] at h
    cases hr : readResults P s r with
    | none => simp [hr] at h
    | some l =>
      simp only [hr, Option.some.injEq] at h; subst h
      obtain ⟨us, h1, h2⟩ := readResults_rel R hr
      refine ⟨a.tmps.getD t Go.undef :: us, ?_, by simp only [LRel]; exact ⟨_, _, rfl, LRel.getD t R.tmps, h2⟩⟩
      rw [List.mapM_cons]
      simp only [rvRead, Sem.run_bind, Sem.run_pure, Result.andThen_ok, h1]
  | .cell p t :: r, vs, h => by
    simp only [readResults] at h
    split at h
    · rename_i b o hp
      split at h
      · rename_i v l hl hr
        simp only [Option.some.injEq] at h; subst h
        obtain ⟨us, h1, h2⟩ := readResults_rel R hr
        have hpr := LRel.getD p R.tmps
        rw [hp] at hpr
        simp only [ARel] at hpr
        obtain ⟨c, hc, hpr⟩ := hpr
        obtain ⟨u, hu, hur⟩ := load_rel (P := P) R.heap.cells hc hl
        refine ⟨u :: us, ?_, by simp only [LRel]; exact ⟨_, _, rfl, hur, h2⟩⟩
        rw [List.mapM_cons]
        simp only [rvRead, Sem.run_bind, Sem.run_pure, Result.andThen_ok, h1, hpr, asAddr, hu]
      · cases h
    · cases h

/-- A function's body. -/
theorem body_calls (hm : P.follows .mixedOrders = true) (hc : CallsOk P call) {f : FuncId} {fn : Func} (hf : P.funcs[f]? = some fn) (hk : ∀ c, fn.body = some c → KnownOk P O (blocksOf c))
    {args : List AV} {h : AH} {v : AV} {h' : AH} (hr : (bodyA P call L O fn args h).run = some (v, h')) {φ : Ren} {w : World} {cargs : Array Value} (H : HRel B w0 φ h w) (hl : LRel φ args cargs.toList) :
    Calls P f cargs w (fun e w' => match e with | .returned u => ∃ φ', φ.le φ' ∧ ARel φ' v u ∧ HRel B w0 φ' h' w' | _ => False) := by
  unfold bodyA at hr
  cases hb : fn.body with
  | none => rw [hb] at hr; simp [Tr.run] at hr
  | some c =>
    rw [hb] at hr
    simp only at hr
    obtain ⟨⟨e, s'⟩, h1, h2⟩ := run_bind_some hr
    have hlen : args.length = cargs.size := by have := LRel.length hl; simpa using this
    have R : SRel B w0 φ ⟨args ++ List.replicate (fn.ntmps - args.length) .undef, h⟩ { tmps := cargs ++ Array.replicate (fn.ntmps - cargs.size) Go.undef, defers := [] } w := by
      refine ⟨H, ?_, rfl⟩
      simp only [Array.toList_append, Array.toList_replicate, hlen]
      exact LRel.append hl (LRel.replicate _)
    refine calls_of_wp hf hb (wp_mono (code_wp hm hc c (hk c hb) _ e s' h1 φ _ w R) ?_)
    rintro e' a' w' ⟨φ', hle, rfl, R'⟩
    have hend : ∀ (hne : match readResults P s' fn.results.toList with
      | some [u] => (v, h') = (u, s'.heap)
      | some l => (v, h') = (.tuple l, s'.heap)
      | none => False), a'.defers = [] ∧ ∃ u, (results fn a'.tmps).run P w' = .ok u w' ∧ ∃ φ', φ.le φ' ∧ ARel φ' v u ∧ HRel B w0 φ' h' w' := by
      intro hne
      refine ⟨R'.defers, ?_⟩
      cases hrr : readResults P s' fn.results.toList with
      | none => rw [hrr] at hne; exact hne.elim
      | some l =>
        rw [hrr] at hne
        obtain ⟨us, g1, g2⟩ := readResults_rel (P := P) R' hrr
        have hlu := LRel.length g2
        have hres : (results fn a'.tmps).run P w' = .ok (if h : us.toArray.size = 1 then us.toArray[0] else .tuple us.toArray) w' := by
          rw [results_eq, Array.mapM_eq_mapM_toList]
          simp only [Sem.run_bind, Sem.run_map, g1, Result.andThen_ok, Sem.run_pure]
        refine ⟨_, hres, φ', hle, ?_⟩
        match l, us, g2, hne, hlu with
        | [u], [x], g2, hne, _ =>
          simp only [Prod.mk.injEq] at hne
          obtain ⟨rfl, rfl⟩ := hne
          simp only [LRel] at g2
          obtain ⟨y, ys, e1, e2, _⟩ := g2
          cases e1
          exact ⟨by simpa using e2, R'.heap⟩
        | [], [], g2, hne, _ =>
          simp only [Prod.mk.injEq] at hne
          obtain ⟨rfl, rfl⟩ := hne
          exact ⟨by simp [ARel, LRel], R'.heap⟩
        | a :: b :: l, x :: y :: us, g2, hne, _ =>
          simp only [Prod.mk.injEq] at hne
          obtain ⟨rfl, rfl⟩ := hne
          refine ⟨?_, R'.heap⟩
          rw [dif_neg (by simp)]
          simp only [ARel]
          exact ⟨_, rfl, g2⟩
    have h3 : (match readResults P s' fn.results.toList with
      | some [u] => (Tr.leaf (u, s'.heap) : Ans)
      | some l => .leaf (.tuple l, s'.heap)
      | none => .bad).run = some (v, h') → (match readResults P s' fn.results.toList with
      | some [u] => (v, h') = (u, s'.heap)
      | some l => (v, h') = (.tuple l, s'.heap)
      | none => False) := by
      intro h
      split at h <;> simp_all [Tr.run]
    cases e with
    | normal => exact hend (h3 h2)
    | ret => exact hend (h3 h2)
    | exit j => simp [Tr.run] at h2

end

/-- What the program must bear. -/
structure ProgOk (P : Program) : Prop where
  mixed : P.follows .mixedOrders = true
  names : P.funcs.all (fun fn => fn.body.isNone || !(fn.name == "runtime.NumGoroutine")) = true

/-- A value that leads to nothing of one's own, behind a call: more may stay as it is. -/
def Gives (φ : Ren) (w : World) (v : AV) (u : Value) (w' : World) : Prop :=
  ∃ F', (∀ c s, φ.frz c = some s → F' c = some s) ∧ (∀ c s, F' c = some s → φ.frz c = some s ∨ w.heap.size ≤ c) ∧ FOk F' w' ∧ (∀ ψ : Ren, ψ.frz = F' → ARel ψ v u) ∧ Below w.heap.size w w'

theorem Gives.of {φ : Ren} {w w' : World} {v : AV} {u : Value} (hF : FOk φ.frz w) (h : ∀ ψ, ARel ψ v u) (hb : Below w.heap.size w w') : Gives φ w v u w' :=
  ⟨φ.frz, fun _ _ e => e, fun _ _ e => .inl e, hF.grown hb, fun ψ _ => h ψ, hb⟩

theorem Gives.below {φ : Ren} {w w' : World} {v : AV} {u : Value} (h : Gives φ w v u w') : Below w.heap.size w w' := by obtain ⟨_, _, _, _, _, h⟩ := h; exact h

theorem Gives.map {φ : Ren} {w w' : World} {v v' : AV} {u : Value} (h : Gives φ w v u w') (hv : ∀ ψ, ARel ψ v u → ARel ψ v' u) : Gives φ w v' u w' := by
  obtain ⟨F', h1, h2, h3, h4, h5⟩ := h
  exact ⟨F', h1, h2, h3, fun ψ e => hv ψ (h4 ψ e), h5⟩

/-- What a table tells is so. -/
def TableOk (P : Program) (T : Table) : Prop :=
  ∀ f args t v, T f args = some t → t.run = some v → ∀ (φ : Ren) (w : World) (cargs : Array Value), FOk φ.frz w → LRel φ args cargs.toList → CallOk P f cargs w fun u w' => Gives φ w v u w'

theorem callFunc_enter {P : Program} (hp : ProgOk P) {f : FuncId} {fn : Func} (hf : P.funcs[f]? = some fn) {c : Code} (hb : fn.body = some c) (args : Array Value) (w : World) :
    (callFunc f args).run P w = .ok (.enter f args) w := by
  have h := Array.all_eq_true_iff_forall_mem.1 hp.names fn (Array.mem_of_getElem? hf)
  have h2 : (fn.name == "runtime.NumGoroutine") = false := by simpa [hb] using h
  have h3 : ¬ fn.name = "runtime.NumGoroutine" := by simpa using h2
  simp [callFunc, hf, hb, h3]

theorem table_calls {P : Program} {T : Table} (hT : TableOk P T) {f : FuncId} {args : List AV} {t : Tr AV} {v : AV} {h : AH} (ht : T f args = some t) (hv : t.run = some v) {B : Nat} {w0 : World} {φ : Ren} {w : World} {cargs : Array Value} (H : HRel B w0 φ h w)
    (hl : LRel φ args cargs.toList) : CallOk P f cargs w fun u w' => ∃ φ', φ.le φ' ∧ ARel φ' v u ∧ HRel B w0 φ' h w' :=
  (hT f args t v ht hv φ w cargs H.fok hl).mono fun u w' ⟨F', h1, h2, h3, h4, h5⟩ => by
    have le : (φ.bare w.heap.size).le { own := fun _ => none, frz := F', base := w.heap.size } := ⟨fun _ _ e => e, h1, h2, rfl⟩
    have H' : HRel w.heap.size w { own := fun _ => none, frz := F', base := w.heap.size } [] w' :=
      ⟨fun b cs h => (by simp at h), fun b b' c h => (by cases h), fun b c h => (by cases h), fun b c h => (by cases h), h5, Nat.le_refl _, h3, fun b c h => (by cases h), rfl⟩
    obtain ⟨g1, g2⟩ := H.join le H'
    exact ⟨_, g1, h4 _ rfl, g2⟩

theorem evCall_ok {P : Program} (hp : ProgOk P) {T : Table} (hT : TableOk P T) {L : Nat} : ∀ n, CallsOk P (evCall P T L n)
  | 0 => by
    intro f args h v h' hr B w0 φ w cargs H hl
    simp only [evCall, evTable] at hr
    split at hr
    · rename_i u hu
      obtain ⟨x, hx, hr⟩ := run_bind_some hr
      cases val_run hr
      exact table_calls hT hu hx H hl
    · simp [Tr.run] at hr
  | n + 1 => by
    intro f args h v h' hr B w0 φ w cargs H hl
    simp only [evCall] at hr
    split at hr
    · rename_i u hu
      obtain ⟨x, hx, hr⟩ := run_bind_some hr
      cases val_run hr
      exact table_calls hT hu hx H hl
    · split at hr
      · rename_i fn hf
        have hk : ∀ c, fn.body = some c → KnownOk P (fun _ => none) (blocksOf c) := fun c _ id b X h => by cases h
        have := body_calls hp.mixed (evCall_ok hp hT n) hf hk hr H hl
        cases hb : fn.body with
        | none => unfold bodyA at hr; rw [hb] at hr; simp [Tr.run] at hr
        | some c => exact .inr ⟨callFunc_enter hp hf hb cargs w, this⟩
      · simp [Tr.run] at hr

/-- THE CONTRACT: what the evaluator gives of arguments that lead to no block, a call gives. -/
theorem contract {P : Program} (hp : ProgOk P) {T : Table} (hT : TableOk P T) {L n : Nat} {O : Known} {f : FuncId} (hk : ∀ fn c, P.funcs[f]? = some fn → fn.body = some c → KnownOk P O (blocksOf c))
    {args : List AV} {v : AV} {h' : AH} (hr : (evFun P T L n O f args []).run = some (v, h')) (ha : pureL args = true) (hv : pureAV v = true) (φ : Ren) (w : World) (cargs : Array Value) (hF : FOk φ.frz w) (hl : LRel φ args cargs.toList) :
    (callFunc f cargs).run P w = .ok (.enter f cargs) w ∧ Calls P f cargs w (fun e w' => match e with | .returned u => Gives φ w v u w' | _ => False) := by
  unfold evFun at hr
  split at hr
  · rename_i fn hf
    have := body_calls hp.mixed (evCall_ok hp hT n) hf (fun c hb => hk fn c hf hb) hr (HRel.bare (φ := φ.bare w.heap.size) (fun _ => rfl) w hF rfl) (pureL_rel (φ := φ) (ψ := φ.bare w.heap.size) (fun _ _ e => e) _ _ ha hl)
    cases hb : fn.body with
    | none => unfold bodyA at hr; rw [hb] at hr; simp [Tr.run] at hr
    | some c =>
      refine ⟨callFunc_enter hp hf hb cargs w, this.mono fun e w' h => ?_⟩
      cases e with
      | returned u => obtain ⟨φ', h1, h2, h3⟩ := h; exact ⟨φ'.frz, h1.frz, h1.new, h3.fok, fun ψ e => pureAV_rel (φ := φ') (ψ := ψ) (fun c s g => by rw [e]; exact g) _ _ hv h2, h3.below⟩
      | panicked c => exact h
      | outgrown => exact h
  · simp [Tr.run] at hr

end Go.Sky

/- Arguments made of numbers and bools: what their reading says. -/
set_option linter.unusedSimpArgs false
set_option linter.unusedVariables false
namespace Go.Sky
open Go.RowKit (Below)

inductive Leaf where
  | bool
  | int (k : IntKind)

def flatFields (P : Program) (sub : TypeId → Option (List Leaf)) : List Field → Nat → Option (List Leaf)
  | [], _ => some []
  | f :: fs, o => if f.offset = o then match sub f.type with
      | some l => if l.length = P.cellsOf f.type then match flatFields P sub fs (o + l.length) with
          | some r => some (l ++ r)
          | none => none
        else none
      | none => none
    else none

/-- A type's cells, if all are numbers and bools, laid one behind the other. -/
def flat (P : Program) : Nat → TypeId → Option (List Leaf)
  | 0, _ => none
  | d + 1, t => match P.underlying t with
    | some .bool => some [.bool]
    | some (.int k) => some [.int k]
    | some (.struct fs) => match flatFields P (flat P d) fs.toList 0 with
      | some l => if l.length = P.cellsOf t then some l else none
      | none => none
    | _ => none

/-- Cells that are of these kinds, each number one of its kind. -/
def Fits : List Leaf → List Value → Prop
  | [], cs => cs = []
  | .bool :: l, cs => ∃ b r, cs = .bool b :: r ∧ Fits l r
  | .int k :: l, cs => ∃ n r, cs = .int k n :: r ∧ (k.min ≤ n ∧ n ≤ k.max) ∧ Fits l r

theorem Fits.append : ∀ {l m : List Leaf} {a b : List Value}, Fits l a → Fits m b → Fits (l ++ m) (a ++ b)
  | [], m, a, b, h, k => by simp only [Fits] at h; subst h; simpa using k
  | .bool :: l, m, a, b, h, k => by simp only [Fits] at h; obtain ⟨x, r, rfl, h⟩ := h; simp only [List.cons_append, Fits]; exact ⟨x, _, rfl, Fits.append h k⟩
  | .int q :: l, m, a, b, h, k => by simp only [Fits] at h; obtain ⟨x, r, rfl, hx, h⟩ := h; simp only [List.cons_append, Fits]; exact ⟨x, _, rfl, hx, Fits.append h k⟩

theorem Fits.length : ∀ {l : List Leaf} {a : List Value}, Fits l a → a.length = l.length
  | [], a, h => by simp only [Fits] at h; subst h; rfl
  | .bool :: l, a, h => by simp only [Fits] at h; obtain ⟨x, r, rfl, h⟩ := h; simp [Fits.length h]
  | .int q :: l, a, h => by simp only [Fits] at h; obtain ⟨x, r, rfl, hx, h⟩ := h; simp [Fits.length h]

section
variable {H : Type} {enc : TypeId × Value → H} {P : Program} {w : World} {base : Nat} {spare : Nat → Bool} {held : Bool}

theorem flat_fits : ∀ (d : Nat) (t : TypeId) (l : List Leaf) (fuel : Nat) (cs : List Value) (x : DataW H × List MemPlace), flat P d t = some l → DataW.trod enc P w base spare held fuel t cs = some x → Fits l cs ∧ x.2 = [] := by
  intro d
  induction d with
  | zero => intro t l fuel cs x h; simp [flat] at h
  | succ d ih =>
    intro t l fuel cs x h hx
    cases fuel with
    | zero => simp [DataW.trod] at hx
    | succ fuel =>
      have hfields : ∀ (fs : List Field) (o : Nat) (l : List Leaf) (xs : List (DataW H × List MemPlace)), flatFields P (flat P d) fs o = some l →
          (fs.mapM fun f => DataW.trod enc P w base spare held fuel f.type ((cs.drop f.offset).take (P.cellsOf f.type))) = some xs → Fits l ((cs.drop o).take l.length) ∧ xs.flatMap (·.2) = [] := by
        intro fs
        induction fs with
        | nil => intro o l xs h1 h2; simp only [flatFields, Option.some.injEq] at h1; subst h1; simp at h2; subst h2; simp [Fits]
        | cons f fs ihf =>
          intro o l xs h1 h2
          simp only [flatFields] at h1
          split at h1
          · rename_i ho
            split at h1
            · rename_i lf hlf
              split at h1
              · rename_i hlen
                split at h1
                · rename_i r hr
                  simp only [Option.some.injEq] at h1
                  subst h1
                  rw [List.mapM_cons] at h2
                  simp only [Option.bind_eq_bind, Option.bind_eq_some_iff, Option.pure_def, Option.some.injEq] at h2
                  obtain ⟨y, hy, ys, hys, rfl⟩ := h2
                  obtain ⟨g1, g2⟩ := ih f.type lf fuel _ y hlf hy
                  obtain ⟨k1, k2⟩ := ihf (o + lf.length) r ys hr hys
                  rw [ho, ← hlen] at g1
                  refine ⟨?_, by simp [g2, k2]⟩
                  have := Fits.append g1 k1
                  rw [List.length_append, ← List.take_append_drop lf.length ((cs.drop o).take (lf.length + r.length)), List.take_take, List.drop_take, List.drop_drop]
                  rw [Nat.min_eq_left (by omega), show lf.length + r.length - lf.length = r.length by omega]
                  exact this
                · cases h1
              · cases h1
            · cases h1
          · cases h1
      simp only [flat] at h
      cases hu : P.underlying t with
      | none => simp [hu] at h
      | some desc =>
        rw [hu] at h
        match desc, hu, h with
        | .bool, hu, h =>
          simp only [Option.some.injEq] at h
          subst h
          obtain ⟨b, rfl, rfl⟩ := DataW.trod_bool hu hx
          exact ⟨by simp only [Fits]; exact ⟨b, [], rfl, rfl⟩, rfl⟩
        | .int k, hu, h =>
          simp only [Option.some.injEq] at h
          subst h
          obtain ⟨n, rfl, rfl, hn⟩ := DataW.trod_int hu hx
          refine ⟨?_, rfl⟩
          simp only [Fits]
          simp only [Lit.wf, Bool.and_eq_true, decide_eq_true_eq] at hn
          exact ⟨n, [], rfl, hn, rfl⟩
        | .struct fs, hu, h =>
          unfold DataW.trod at hx
          rw [hu] at hx
          simp only at hx h
          split at h
          · rename_i lf hlf
            split at h
            · rename_i hlen
              simp only [Option.some.injEq] at h
              subst h
              split at hx
              · rename_i hcl
                simp only [Option.map_eq_some_iff] at hx
                obtain ⟨xs, hxs, rfl⟩ := hx
                obtain ⟨g1, g2⟩ := hfields fs.toList 0 lf xs hlf hxs
                refine ⟨?_, g2⟩
                rw [List.drop_zero, hlen, ← hcl, List.take_length] at g1
                exact g1
              · cases hx
            · cases h
          · cases h

/-- An argument that is a struct of numbers and bools. -/
theorem open_flat {r : Reach} {b0 : Nat} {t : TypeId} {fs : Array Field} {l : List Leaf} {v : Value} {d : DataW H} {p : List MemPlace} (hs : P.underlying t = some (.struct fs)) (hl : flat P 8 t = some l)
    (hv : Value.okWide P w r b0 t v) (h : DataW.Trod enc P w base spare held t v d p) : ∃ cs : Array Value, v = .agg cs ∧ Fits l cs.toList ∧ p = [] := by
  obtain ⟨cs, rfl, hsz⟩ := WideShapes.okWide_struct hs hv
  obtain ⟨fuel, hf⟩ := h
  obtain ⟨h1, h2⟩ := flat_fits 8 t l fuel _ _ hl hf
  exact ⟨cs, rfl, h1, h2⟩

end

/-- Cells that are written out. -/
theorem arr_of {cs : Array Value} {l : List Value} (h : cs.toList = l) : cs = l.toArray := by rw [← h]

end Go.Sky

/- Tables of functions of which it is known what they give. -/
set_option linter.unusedSimpArgs false
set_option linter.unusedVariables false
namespace Go.Sky
open Go.RowKit (Below)

mutual
/-- A value without its marks. -/
def untag : AV → AV
  | .bool _ b => .bool false b
  | .int k _ n => .int k false n
  | .str _ s => .str false s
  | .iface t x => .iface t (untag x)
  | .agg cs => .agg (untagL cs)
  | .tuple cs => .tuple (untagL cs)
  | .func fn f c => .func fn (untagL f) (untagL c)
  | .ptr a => .ptr a
  | .slice a n k => .slice a n k
  | .nilFunc => .nilFunc
  | .nilIface => .nilIface
  | .junk => .junk
  | .fptr cs o => .fptr (untagL cs) o
  | .list e l => .list e l
def untagL : List AV → List AV
  | [] => []
  | x :: xs => untag x :: untagL xs
end

theorem untagL_length : ∀ l : List AV, (untagL l).length = l.length
  | [] => rfl
  | x :: xs => by simp [untagL, untagL_length xs]

mutual
theorem untag_rel {φ : Ren} : ∀ (x : AV) (v : Value), ARel φ x v → ARel φ (untag x) v
  | .bool _ _, _, e => by simpa only [untag, ARel] using e
  | .int _ _ _, _, e => by simpa only [untag, ARel] using e
  | .str _ _, _, e => by simpa only [untag, ARel] using e
  | .ptr _, _, e => e
  | .slice _ _ _, _, e => e
  | .func _ fs cs, _, e => by
    simp only [untag, ARel] at e ⊢; obtain ⟨fs', cs', rfl, h1, h2⟩ := e; exact ⟨fs', cs', rfl, untagL_rel fs _ h1, untagL_rel cs _ h2⟩
  | .nilFunc, _, e => e
  | .iface _ x, _, e => by simp only [untag, ARel] at e ⊢; obtain ⟨y, rfl, h1⟩ := e; exact ⟨y, rfl, untag_rel x y h1⟩
  | .nilIface, _, e => e
  | .agg cs, _, e => by simp only [untag, ARel] at e ⊢; obtain ⟨cs', rfl, h1⟩ := e; exact ⟨cs', rfl, untagL_rel cs _ h1⟩
  | .tuple cs, _, e => by simp only [untag, ARel] at e ⊢; obtain ⟨cs', rfl, h1⟩ := e; exact ⟨cs', rfl, untagL_rel cs _ h1⟩
  | .junk, _, e => e
  | .fptr cs o, _, e => by
    simp only [untag, ARel] at e ⊢; obtain ⟨c, base, cells, h1, rfl, h2, h3⟩ := e
    exact ⟨c, base, cells, h1, rfl, by rw [untagL_length]; exact h2, by rw [untagL_length]; exact untagL_rel cs _ h3⟩
  | .list _ _, _, e => e
theorem untagL_rel {φ : Ren} : ∀ (x : List AV) (v : List Value), LRel φ x v → LRel φ (untagL x) v
  | [], _, e => e
  | x :: xs, _, e => by
    simp only [untagL, LRel] at e ⊢; obtain ⟨y, ys, rfl, h1, h2⟩ := e; exact ⟨y, ys, rfl, untag_rel x y h1, untagL_rel xs ys h2⟩
end

mutual
/-- A value with all marks. -/
def tagA : AV → AV
  | .bool _ b => .bool true b
  | .int k _ n => .int k true n
  | .str _ s => .str true s
  | .iface t x => .iface t (tagA x)
  | .agg cs => .agg (tagL cs)
  | .tuple cs => .tuple (tagL cs)
  | .func fn f c => .func fn (tagL f) (tagL c)
  | .ptr a => .ptr a
  | .slice a n k => .slice a n k
  | .nilFunc => .nilFunc
  | .nilIface => .nilIface
  | .junk => .junk
  | .fptr cs o => .fptr (tagL cs) o
  | .list e l => .list e l
def tagL : List AV → List AV
  | [] => []
  | x :: xs => tagA x :: tagL xs
end

mutual
/-- Is all of a value marked? -/
def litA : AV → Bool
  | .bool l _ => l
  | .int _ l _ => l
  | .str l _ => l
  | .iface _ x => litA x
  | .agg cs => litL cs
  | .tuple cs => litL cs
  | .func _ f c => litL f && litL c
  | .fptr cs _ => litL cs
  | .list _ _ => false
  | _ => true
def litL : List AV → Bool
  | [] => true
  | x :: xs => litA x && litL xs
end

theorem tagL_length : ∀ l : List AV, (tagL l).length = l.length
  | [] => rfl
  | x :: xs => by simp [tagL, tagL_length xs]

mutual
theorem tagA_rel {φ : Ren} : ∀ (x : AV) (v : Value), ARel φ x v → ARel φ (tagA x) v
  | .bool _ _, _, e => by simpa only [tagA, ARel] using e
  | .int _ _ _, _, e => by simpa only [tagA, ARel] using e
  | .str _ _, _, e => by simpa only [tagA, ARel] using e
  | .ptr _, _, e => e
  | .slice _ _ _, _, e => e
  | .func _ fs cs, _, e => by
    simp only [tagA, ARel] at e ⊢; obtain ⟨fs', cs', rfl, h1, h2⟩ := e; exact ⟨fs', cs', rfl, tagL_rel fs _ h1, tagL_rel cs _ h2⟩
  | .nilFunc, _, e => e
  | .iface _ x, _, e => by simp only [tagA, ARel] at e ⊢; obtain ⟨y, rfl, h1⟩ := e; exact ⟨y, rfl, tagA_rel x y h1⟩
  | .nilIface, _, e => e
  | .agg cs, _, e => by simp only [tagA, ARel] at e ⊢; obtain ⟨cs', rfl, h1⟩ := e; exact ⟨cs', rfl, tagL_rel cs _ h1⟩
  | .tuple cs, _, e => by simp only [tagA, ARel] at e ⊢; obtain ⟨cs', rfl, h1⟩ := e; exact ⟨cs', rfl, tagL_rel cs _ h1⟩
  | .junk, _, e => e
  | .fptr cs o, _, e => by
    simp only [tagA, ARel] at e ⊢; obtain ⟨c, base, cells, h1, rfl, h2, h3⟩ := e
    exact ⟨c, base, cells, h1, rfl, by rw [tagL_length]; exact h2, by rw [tagL_length]; exact tagL_rel cs _ h3⟩
  | .list _ _, _, e => e
theorem tagL_rel {φ : Ren} : ∀ (x : List AV) (v : List Value), LRel φ x v → LRel φ (tagL x) v
  | [], _, e => e
  | x :: xs, _, e => by
    simp only [tagL, LRel] at e ⊢; obtain ⟨y, ys, rfl, h1, h2⟩ := e; exact ⟨y, ys, rfl, tagA_rel x y h1, tagL_rel xs ys h2⟩
end

abbrev Entry := List AV → Option (Tr AV)

def table : List (FuncId × Entry) → Table
  | [], _, _ => none
  | (g, e) :: r, f, args => match Nat.beq f g with
    | true => match litL args with
      | true => match e (untagL args) with | some t => some (t.bind fun v => .leaf (tagA v)) | none => none
      | false => e (untagL args)
    | false => table r f args

def EntryOk (P : Program) (f : FuncId) (e : Entry) : Prop :=
  ∀ args t v, e args = some t → t.run = some v → ∀ (φ : Ren) (w : World) (cargs : Array Value), FOk φ.frz w → LRel φ args cargs.toList → CallOk P f cargs w fun u w' => Gives φ w v u w'

theorem table_nil {P : Program} : TableOk P (table []) := fun f args t v h => by cases h

theorem table_cons {P : Program} {g : FuncId} {e : Entry} {l : List (FuncId × Entry)} (he : EntryOk P g e) (hl : TableOk P (table l)) : TableOk P (table ((g, e) :: l)) := by
  intro f args t v h ht φ w cargs hF hr
  simp only [table] at h
  split at h
  · rename_i hb
    have := Nat.eq_of_beq_eq_true hb
    subst this
    split at h
    · split at h
      · rename_i t' hv
        cases h
        obtain ⟨v', hv', ht⟩ := run_bind_some ht
        cases ht
        exact (he _ t' v' hv hv' φ w cargs hF (untagL_rel _ _ hr)).mono fun u w' h => h.map fun ψ => tagA_rel _ _
      · cases h
    · exact he _ t v h ht φ w cargs hF (untagL_rel _ _ hr)
  · exact hl f args t v h ht φ w cargs hF hr

mutual
theorem pureAV_untag : ∀ x : AV, pureAV (untag x) = pureAV x
  | .bool _ _ => rfl
  | .int _ _ _ => rfl
  | .str _ _ => rfl
  | .iface _ x => by simp only [untag, pureAV]; exact pureAV_untag x
  | .agg cs => by simp only [untag, pureAV]; exact pureL_untag cs
  | .tuple cs => by simp only [untag, pureAV]; exact pureL_untag cs
  | .func _ f c => by simp only [untag, pureAV]; rw [pureL_untag f, pureL_untag c]
  | .ptr _ => rfl
  | .slice _ _ _ => rfl
  | .nilFunc => rfl
  | .nilIface => rfl
  | .junk => rfl
  | .fptr cs _ => by simp only [untag, pureAV]; exact pureL_untag cs
  | .list _ _ => rfl
theorem pureL_untag : ∀ x : List AV, pureL (untagL x) = pureL x
  | [] => rfl
  | x :: xs => by simp only [untagL, pureL]; rw [pureAV_untag x, pureL_untag xs]
end

/-- What the evaluator gives of a function, memory and marks aside. -/
def evV (P : Program) (T : Table) (L n : Nat) (O : Known) (f : FuncId) (args : List AV) : Tr AV := (evFun P T L n O f args []).bind fun r => .leaf (untag r.1)

theorem evV_run {P : Program} {T : Table} {L n : Nat} {O : Known} {f : FuncId} {args : List AV} {v : AV} (h : (evV P T L n O f args).run = some v) : ∃ v' h', (evFun P T L n O f args []).run = some (v', h') ∧ untag v' = v := by
  obtain ⟨⟨v', h'⟩, h1, h2⟩ := run_bind_some h
  simp only [Tr.run, Option.some.injEq] at h2
  exact ⟨v', h', h1, h2⟩

def noKnown : Known := fun _ => none

theorem noKnown_ok {P : Program} {l : List (Nat × Code)} : KnownOk P noKnown l := fun id b X h => by cases h

/-- An entry out of the evaluator. -/
theorem entry_ok {P : Program} (hp : ProgOk P) {T : Table} (hT : TableOk P T) (L n : Nat) (O : Known) {f : FuncId} {e : Entry} (hk : ∀ fn c, P.funcs[f]? = some fn → fn.body = some c → KnownOk P O (blocksOf c))
    (h : ∀ args t v, e args = some t → t.run = some v → pureL args = true ∧ pureAV v = true ∧ ∀ φ cs, LRel φ args cs → (evV P T L n O f args).run = some v) : EntryOk P f e := by
  intro args t v he ht φ w cargs hF hl
  obtain ⟨h1, h2, h3⟩ := h args t v he ht
  obtain ⟨v', h', hr, rfl⟩ := evV_run (h3 φ _ hl)
  rw [pureAV_untag] at h2
  obtain ⟨g1, g2⟩ := contract hp hT hk hr h1 h2 φ w cargs hF hl
  refine .inr ⟨g1, g2.mono fun e w' h => ?_⟩
  cases e with
  | returned u => exact h.map fun ψ => untag_rel _ _
  | panicked c => exact h
  | outgrown => exact h

/-- The ranges of all numbers in what is told of cells. -/
def DIn : Sh → Dat → Prop
  | .int k, d => InR k d.toInt
  | .cons a b, d => DIn a d.head ∧ DIn b d.tail
  | .list e, d => InR .i64 (d.items.length : Int) ∧ ∀ x ∈ d.items, DIn e x
  | _, _ => True

theorem din_of {F : Nat → Option (Array Value)} : ∀ (e : Sh) (d : Dat) (vs : List Value), CRel F e d vs → DIn e d
  | .int _, d, vs, h => by simp only [CRel] at h; exact h.2
  | .bool, _, _, _ => trivial
  | .str, _, _, _ => trivial
  | .nil, _, _, _ => trivial
  | .cons a b, d, vs, h => by simp only [CRel] at h; obtain ⟨u, w, _, h1, h2⟩ := h; exact ⟨din_of a _ _ h1, din_of b _ _ h2⟩
  | .list e, d, vs, h => by
    simp only [CRel] at h
    obtain ⟨a, k, _, h1, h2⟩ := h
    refine ⟨h1, fun x hx => ?_⟩
    obtain ⟨i, hi⟩ := List.getElem?_of_mem hx
    obtain ⟨_, _, _, _, _, _, h3⟩ := h2 i x hi
    exact din_of e _ _ h3

/-- The ranges of all numbers in a value, ahead of 'K'. -/
def rng : AV → Prop → Prop
  | .int k _ n, K => InR k n ∧ K
  | .agg cs, K => rngL cs K
  | .tuple cs, K => rngL cs K
  | .list e l, K => DIn (.list e) (.list l) ∧ K
  | _, K => K
where rngL : List AV → Prop → Prop
  | [], K => K
  | x :: xs, K => rng x (rngL xs K)

mutual
theorem rng_of {φ : Ren} : ∀ (x : AV) (v : Value) (K : Prop), ARel φ x v → K → rng x K
  | .bool _ _, _, _, _, k => by simpa only [rng] using k
  | .int _ _ _, _, _, e, k => by simp only [ARel] at e; simp only [rng]; exact ⟨e.2, k⟩
  | .str _ _, _, _, _, k => by simpa only [rng] using k
  | .ptr _, _, _, _, k => by simpa only [rng] using k
  | .slice _ _ _, _, _, _, k => by simpa only [rng] using k
  | .func _ _ _, _, _, _, k => by simpa only [rng] using k
  | .nilFunc, _, _, _, k => by simpa only [rng] using k
  | .iface _ _, _, _, _, k => by simpa only [rng] using k
  | .nilIface, _, _, _, k => by simpa only [rng] using k
  | .junk, _, _, _, k => by simpa only [rng] using k
  | .fptr _ _, _, _, _, k => by simpa only [rng] using k
  | .list _ _, _, _, e, k => by simp only [ARel] at e; simp only [rng]; exact ⟨din_of _ _ _ e, k⟩
  | .agg cs, _, K, e, k => by simp only [ARel] at e; obtain ⟨cs', _, h1⟩ := e; simp only [rng]; exact rngL_of cs _ K h1 k
  | .tuple cs, _, K, e, k => by simp only [ARel] at e; obtain ⟨cs', _, h1⟩ := e; simp only [rng]; exact rngL_of cs _ K h1 k
theorem rngL_of {φ : Ren} : ∀ (x : List AV) (v : List Value) (K : Prop), LRel φ x v → K → rng.rngL x K
  | [], _, _, _, k => by simpa only [rng.rngL] using k
  | x :: xs, _, K, e, k => by
    simp only [LRel] at e; obtain ⟨y, ys, _, h1, h2⟩ := e
    simp only [rng.rngL]
    exact rng_of x y _ h1 (rngL_of xs ys K h2 k)
end

/-! ### short words -/
def i6 (n : Int) : AV := .int .i64 false n
def u6 (n : Int) : AV := .int .u64 false n
def bb (b : Bool) : AV := .bool false b

structure V3 where
  x : Int
  y : Int
  z : Int

def vecA (v : V3) : AV := .agg [i6 v.x, i6 v.y, i6 v.z]

/-- A library function without a body of the text, or one that a contract tells. -/
theorem entry_of_calls {P : Program} (hp : ProgOk P) {f : FuncId} {e : Entry} (hb : ∃ fn c, P.funcs[f]? = some fn ∧ fn.body = some c)
    (h : ∀ args t v, e args = some t → t.run = some v → ∀ φ (w : World) (cargs : Array Value), LRel φ args cargs.toList → Calls P f cargs w fun e w' => ∃ u, e = .returned u ∧ (∀ ψ, ARel ψ v u) ∧ Below w.heap.size w w') : EntryOk P f e := by
  intro args t v he ht φ w cargs hF hl
  obtain ⟨fn, c, hf, hc⟩ := hb
  refine .inr ⟨callFunc_enter hp hf hc cargs w, (h args t v he ht φ w cargs hl).mono fun e w' h => ?_⟩
  obtain ⟨u, rfl, h2⟩ := h
  exact Gives.of hF h2.1 h2.2

end Go.Sky

/- Numbers: what the lowest layers give. -/
set_option linter.unusedSimpArgs false
set_option linter.unusedVariables false
namespace Go.Sky

/-- A number held between the least and the greatest int. -/
def sat (n : Int) : Int := if n < -9223372036854775808 then -9223372036854775808 else if n > 9223372036854775807 then 9223372036854775807 else n

theorem inR_i64 {n : Int} : InR .i64 n ↔ -9223372036854775808 ≤ n ∧ n ≤ 9223372036854775807 := by
  unfold InR
  simp only [IntKind.min, IntKind.max, IntKind.bits, IntKind.signed, if_true]
  constructor <;> intro h <;> (constructor <;> omega)

theorem inR_u64 {n : Int} : InR .u64 n ↔ 0 ≤ n ∧ n ≤ 18446744073709551615 := by
  unfold InR
  simp only [IntKind.min, IntKind.max, IntKind.bits, IntKind.signed]
  constructor <;> intro h <;> simp at * <;> omega

theorem wrap_i64 (n : Int) : IntKind.i64.wrap n = (n + 9223372036854775808) % 18446744073709551616 - 9223372036854775808 := by
  simp only [IntKind.wrap, IntKind.bits, IntKind.signed, Bool.true_and]
  split <;> simp at * <;> omega

theorem wrap_u64 (n : Int) : IntKind.u64.wrap n = n % 18446744073709551616 := by simp [IntKind.wrap, IntKind.bits, IntKind.signed]

theorem wrap_i64_id {n : Int} (h : -9223372036854775808 ≤ n ∧ n ≤ 9223372036854775807) : IntKind.i64.wrap n = n := by rw [wrap_i64]; omega
theorem wrap_u64_id {n : Int} (h : 0 ≤ n ∧ n ≤ 18446744073709551615) : IntKind.u64.wrap n = n := by rw [wrap_u64]; omega

theorem sat_id {n : Int} (h : -9223372036854775808 ≤ n ∧ n ≤ 9223372036854775807) : sat n = n := by unfold sat; omega
theorem sat_r (n : Int) : -9223372036854775808 ≤ sat n ∧ sat n ≤ 9223372036854775807 := by unfold sat; omega

theorem max_r (x y : Int) : mm true x y = if y > x then y else x := by simp [mm]
theorem min_r (x y : Int) : mm false x y = if y < x then y else x := by simp [mm]

theorem toInt_neg (b : BitVec 64) : (b.toInt < 0) ↔ b.msb = true := by
  rw [BitVec.toInt_eq_msb_cond]
  cases h : b.msb
  · simp
  · simp; omega

theorem ofInt_neg (x : Int) (hx : InR .i64 x) : (BitVec.ofInt 64 x).msb = decide (x < 0) := by
  rw [inR_i64] at hx
  have h := toInt_neg (BitVec.ofInt 64 x)
  rw [BitVec.toInt_ofInt, Int.bmod_def] at h
  by_cases hx0 : x < 0
  · simp only [hx0, decide_true]; apply h.1; omega
  · simp only [hx0, decide_false]
    cases hm : (BitVec.ofInt 64 x).msb
    · rfl
    · have := h.2 hm; omega

theorem wrap_toNat (b : BitVec 64) : IntKind.i64.wrap (b.toNat : Int) = b.toInt := by
  rw [wrap_i64, BitVec.toInt_eq_toNat_bmod, Int.bmod_def]
  have := b.isLt
  omega

theorem toInt_r (b : BitVec 64) : InR .i64 b.toInt := by
  rw [inR_i64]
  have h1 := b.toInt_lt
  have h2 := b.le_toInt
  simp at h1 h2
  omega

theorem bits_xor (x y : Int) : Go.bits .xor .i64 x y = (BitVec.ofInt 64 x ^^^ BitVec.ofInt 64 y).toInt := wrap_toNat _
theorem bits_and (x y : Int) : Go.bits .and .i64 x y = (BitVec.ofInt 64 x &&& BitVec.ofInt 64 y).toInt := wrap_toNat _

/-- The sign of 'x ^ y'. -/
theorem xor_neg {x y : Int} (hx : InR .i64 x) (hy : InR .i64 y) : (Go.bits .xor .i64 x y < 0) ↔ ((x < 0) ↔ ¬ (y < 0)) := by
  rw [bits_xor, toInt_neg, BitVec.msb_xor, ofInt_neg x hx, ofInt_neg y hy]
  by_cases h1 : x < 0 <;> by_cases h2 : y < 0 <;> simp [h1, h2]
theorem xor_r (x y : Int) : InR .i64 (Go.bits .xor .i64 x y) := by rw [bits_xor]; exact toInt_r _
/-- The sign of 'x & y'. -/
theorem and_neg {x y : Int} (hx : InR .i64 x) (hy : InR .i64 y) : (Go.bits .and .i64 x y < 0) ↔ ((x < 0) ∧ (y < 0)) := by
  rw [bits_and, toInt_neg, BitVec.msb_and, ofInt_neg x hx, ofInt_neg y hy]
  by_cases h1 : x < 0 <;> by_cases h2 : y < 0 <;> simp [h1, h2]

theorem size_mul (a b : Int) : (if a < 0 then -a else a) * (if b < 0 then -b else b) = if (a < 0 ↔ ¬ (b < 0)) then - (a * b) else a * b := by
  by_cases h1 : a < 0 <;> by_cases h2 : b < 0 <;> simp [h1, h2, Int.neg_mul, Int.mul_neg]

theorem mul_sign (a b : Int) : ((a < 0 ↔ ¬ (b < 0)) → a * b ≤ 0) ∧ (¬ (a < 0 ↔ ¬ (b < 0)) → 0 ≤ a * b) := by
  constructor <;> intro h
  · by_cases h1 : a < 0
    · have : 0 ≤ b := by simp [h1] at h; omega
      exact Int.mul_nonpos_of_nonpos_of_nonneg (by omega) this
    · have : b < 0 := by simp [h1] at h; omega
      exact Int.mul_nonpos_of_nonneg_of_nonpos (by omega) (by omega)
  · by_cases h1 : a < 0
    · have : b < 0 := by simp [h1] at h; omega
      exact Int.mul_nonneg_of_nonpos_of_nonpos (by omega) (by omega)
    · have : 0 ≤ b := by simp [h1] at h; omega
      exact Int.mul_nonneg (by omega) (by omega)

/-- How great a number is. -/
def sz (n : Int) : Int := if n < 0 then -n else n

theorem times_law {a b : Int} (P : Int) (hP : P = sz a * sz b) (s : Prop) (hs : s ↔ (a < 0 ↔ ¬ (b < 0))) : (s → a * b = -P ∧ 0 ≤ P) ∧ (¬ s → a * b = P ∧ 0 ≤ P) := by
  have h := size_mul a b
  have hm := mul_sign a b
  unfold sz at hP
  rw [hs]
  constructor <;> intro g
  · have := hm.1 g
    rw [if_pos g] at h; omega
  · have := hm.2 g
    rw [if_neg g] at h; omega

end Go.Sky

/- Entries out of contracts of the shelf, and of functions without a body. -/
set_option linter.unusedSimpArgs false
set_option linter.unusedVariables false
namespace Go.Sky
open Go.RowKit (Below)

theorem entry_calls {P : Program} (hp : ProgOk P) {f : FuncId} {e : Entry} (hb : ((P.funcs[f]?).bind (·.body)).isSome = true)
    (h : ∀ args t v, e args = some t → t.run = some v → ∀ φ cs, LRel φ args cs → ∃ u, (∀ ψ, ARel ψ v u) ∧ ∀ w, Calls P f cs.toArray w fun x w' => x = .returned u ∧ w' = w) : EntryOk P f e := by
  refine entry_of_calls hp ?_ ?_
  · cases hf : P.funcs[f]? with
    | none => rw [hf] at hb; cases hb
    | some fn =>
      rw [hf] at hb
      cases hc : fn.body with
      | none => simp [hc] at hb
      | some c => exact ⟨fn, c, rfl, hc⟩
  · intro args t v he ht φ w cargs hl
    obtain ⟨u, h1, h2⟩ := h args t v he ht φ _ hl
    refine (h2 w).mono fun x w' hx => ?_
    obtain ⟨rfl, rfl⟩ := hx
    exact ⟨u, rfl, h1, Below.refl _ _⟩

/-- A call out of an entry. -/
theorem calls_of_entry {P : Program} (hp : ProgOk P) {f : FuncId} {e : Entry} (he : EntryOk P f e) (hb : ((P.funcs[f]?).bind (·.body)).isSome = true) {args : List AV} {v : AV} (h : e args = some (.leaf v)) (hs : solid v = true) {φ : Ren} {w : World} {cargs : Array Value}
    (hF : FOk φ.frz w) (hl : LRel φ args cargs.toList) : Calls P f cargs w fun x w' => ∃ u, x = .returned u ∧ (∀ ψ, ARel ψ v u) ∧ Below w.heap.size w w' := by
  cases hf : P.funcs[f]? with
  | none => rw [hf] at hb; cases hb
  | some fn =>
    rw [hf] at hb
    cases hc : fn.body with
    | none => simp [hc] at hb
    | some c =>
      have h0 := callFunc_enter hp hf hc cargs w
      rcases he args _ v h rfl φ w cargs hF hl with ⟨u, h1, _⟩ | ⟨_, h2⟩
      · rw [h0] at h1; cases h1
      · refine h2.mono fun x w' hx => ?_
        cases x with
        | returned u =>
          obtain ⟨F', h1, h2, h3, h4, h5⟩ := hx
          exact ⟨u, rfl, fun ψ => solid_rel (φ := { φ with frz := F' }) _ _ hs (h4 _ rfl), h5⟩
        | panicked c => exact hx.elim
        | outgrown => exact hx.elim

theorem ints1 {φ : Ren} {k : IntKind} {l : Bool} {x : Int} {cs : List Value} (h : LRel φ [.int k l x] cs) : cs = [.int k x] ∧ InR k x := by
  simp only [LRel, ARel] at h
  obtain ⟨_, _, rfl, ⟨rfl, h1⟩, rfl⟩ := h
  exact ⟨rfl, h1⟩

theorem ints2 {φ : Ren} {k k' : IntKind} {l l' : Bool} {x y : Int} {cs : List Value} (h : LRel φ [.int k l x, .int k' l' y] cs) : cs = [.int k x, .int k' y] ∧ InR k x ∧ InR k' y := by
  simp only [LRel, ARel] at h
  obtain ⟨_, _, rfl, ⟨rfl, h1⟩, _, _, rfl, ⟨rfl, h2⟩, rfl⟩ := h
  exact ⟨rfl, h1, h2⟩

theorem ints3 {φ : Ren} {k k' k'' : IntKind} {l l' l'' : Bool} {x y z : Int} {cs : List Value} (h : LRel φ [.int k l x, .int k' l' y, .int k'' l'' z] cs) :
    cs = [.int k x, .int k' y, .int k'' z] ∧ InR k x ∧ InR k' y ∧ InR k'' z := by
  simp only [LRel, ARel] at h
  obtain ⟨_, _, rfl, ⟨rfl, h1⟩, _, _, rfl, ⟨rfl, h2⟩, _, _, rfl, ⟨rfl, h3⟩, rfl⟩ := h
  exact ⟨rfl, h1, h2, h3⟩

theorem rel_int {k : IntKind} {n : Int} (h : InR k n) : ∀ ψ, ARel ψ (.int k false n) (.int k n) := fun ψ => by simp only [ARel]; exact ⟨trivial, h⟩
theorem rel_pair {k k' : IntKind} {n m : Int} (h : InR k n) (h' : InR k' m) : ∀ ψ, ARel ψ (.tuple [.int k false n, .int k' false m]) (.tuple #[.int k n, .int k' m]) := fun ψ => by
  simp only [ARel, LRel]
  exact ⟨_, rfl, _, _, rfl, ⟨rfl, h⟩, _, _, rfl, ⟨rfl, h'⟩, rfl⟩

/-- A function without a body of the text. -/
theorem entry_ext {P : Program} {f : FuncId} {e : Entry} (h : ∀ args t v, e args = some t → t.run = some v → ∀ φ cs, LRel φ args cs → ∃ u, (∀ ψ, ARel ψ v u) ∧ ∀ w, (callFunc f cs.toArray).run P w = .ok (.value u) w) : EntryOk P f e := by
  intro args t v he ht φ w cargs hF hl
  obtain ⟨u, h1, h2⟩ := h args t v he ht φ _ hl
  exact .inl ⟨u, h2 w, Gives.of hF h1 (Below.refl _ _)⟩

theorem bitLen_r (x : Int) (h0 : 0 ≤ x) (h1 : x ≤ 18446744073709551615) : -9223372036854775808 ≤ ((Lib.bitLen x.toNat : Nat) : Int) ∧ ((Lib.bitLen x.toNat : Nat) : Int) ≤ 9223372036854775807 := by
  have : Lib.bitLen x.toNat ≤ 64 := Go.Proofs.Any.bitLen_le64 x h0 h1
  omega

end Go.Sky

/- Pieces of code, loops mostly, of which it is known what they leave. -/
set_option linter.unusedSimpArgs false
set_option linter.unusedVariables false
namespace Go.Sky
open Go.RowKit (Below)

mutual
theorem untag_inv {φ : Ren} : ∀ (x : AV) (v : Value), ARel φ (untag x) v → ARel φ x v
  | .bool _ _, _, e => by simpa only [untag, ARel] using e
  | .int _ _ _, _, e => by simpa only [untag, ARel] using e
  | .str _ _, _, e => by simpa only [untag, ARel] using e
  | .ptr _, _, e => e
  | .slice _ _ _, _, e => e
  | .func _ fs cs, _, e => by
    simp only [untag, ARel] at e ⊢; obtain ⟨fs', cs', rfl, h1, h2⟩ := e; exact ⟨fs', cs', rfl, untagL_inv fs _ h1, untagL_inv cs _ h2⟩
  | .nilFunc, _, e => e
  | .iface _ x, _, e => by simp only [untag, ARel] at e ⊢; obtain ⟨y, rfl, h1⟩ := e; exact ⟨y, rfl, untag_inv x y h1⟩
  | .nilIface, _, e => e
  | .agg cs, _, e => by simp only [untag, ARel] at e ⊢; obtain ⟨cs', rfl, h1⟩ := e; exact ⟨cs', rfl, untagL_inv cs _ h1⟩
  | .tuple cs, _, e => by simp only [untag, ARel] at e ⊢; obtain ⟨cs', rfl, h1⟩ := e; exact ⟨cs', rfl, untagL_inv cs _ h1⟩
  | .junk, _, e => e
  | .fptr cs o, _, e => by
    simp only [untag, ARel] at e ⊢; obtain ⟨c, base, cells, h1, rfl, h2, h3⟩ := e
    rw [untagL_length] at h2 h3
    exact ⟨c, base, cells, h1, rfl, h2, untagL_inv cs _ h3⟩
  | .list _ _, _, e => e
theorem untagL_inv {φ : Ren} : ∀ (x : List AV) (v : List Value), LRel φ (untagL x) v → LRel φ x v
  | [], _, e => e
  | x :: xs, _, e => by
    simp only [untagL, LRel] at e ⊢; obtain ⟨y, ys, rfl, h1, h2⟩ := e; exact ⟨y, ys, rfl, untag_inv x y h1, untagL_inv xs ys h2⟩
end

theorem untagL_map (l : List AV) : untagL l = l.map untag := by
  induction l with
  | nil => rfl
  | cons x xs ih => simp only [untagL, List.map_cons, ih]

theorem HRel.untag {B : Nat} {w0 : World} {φ : Ren} {h : AH} {w : World} (R : HRel B w0 φ h w) : HRel B w0 φ (h.map untagL) w := by
  refine ⟨?_, R.inj, ?_, R.rng, R.below, R.base, R.fok, R.dis, R.bas⟩
  · intro b cs h
    rw [List.getElem?_map] at h
    simp only [Option.map_eq_some_iff] at h
    obtain ⟨cs0, h0, rfl⟩ := h
    obtain ⟨c, cs', e, h1, h2, h3⟩ := R.cells b cs0 h0
    exact ⟨c, cs', e, h1, h2, untagL_rel _ _ h3⟩
  · intro b c h; have := R.dom b c h; simpa using this

theorem HRel.untag_inv {B : Nat} {w0 : World} {φ : Ren} {h : AH} {w : World} (R : HRel B w0 φ (h.map untagL) w) : HRel B w0 φ h w := by
  refine ⟨?_, R.inj, ?_, R.rng, R.below, R.base, R.fok, R.dis, R.bas⟩
  · intro b cs h
    obtain ⟨c, cs', e, h1, h2, h3⟩ := R.cells b (untagL cs) (by rw [List.getElem?_map, h]; rfl)
    exact ⟨c, cs', e, h1, h2, untagL_inv _ _ h3⟩
  · intro b c h; have := R.dom b c h; simpa using this

theorem SRel.untag {B : Nat} {w0 : World} {φ : Ren} {s : St} {a : Act} {w : World} (R : SRel B w0 φ s a w) : SRel B w0 φ ⟨untagL s.tmps, s.heap.map untagL⟩ a w := ⟨R.heap.untag, untagL_rel _ _ R.tmps, R.defers⟩

/-- A block's code, by the function and the block's number. -/
def blockOf (P : Program) (f : FuncId) (id : Nat) : Code :=
  match P.funcs[f]? with
  | some fn => match fn.body with
    | some c => match (blocksOf c).lookup id with | some b => b | none => .skip
    | none => .skip
  | none => .skip

def once : List Nat → Bool
  | [] => true
  | x :: r => !(r.contains x) && once r

def onceB (P : Program) (f : FuncId) : Bool :=
  match P.funcs[f]? with
  | some fn => match fn.body with
    | some c => once ((blocksOf c).map (·.1))
    | none => true
  | none => true

theorem lookup_once : ∀ {l : List (Nat × Code)} {id : Nat} {b : Code}, once (l.map (·.1)) = true → (id, b) ∈ l → l.lookup id = some b
  | (i, c) :: r, id, b, h, hm => by
    simp only [List.map_cons, once, Bool.and_eq_true, Bool.not_eq_true'] at h
    rw [List.lookup_cons]
    rcases List.mem_cons.1 hm with e | hm2
    · cases e; simp
    · have hne : (id == i) = false := by
        rw [beq_eq_false_iff_ne]
        rintro rfl
        have : (r.map (·.1)).contains id = true := by
          rw [List.contains_iff_mem]
          exact List.mem_map.2 ⟨(id, b), hm2, rfl⟩
        rw [this] at h
        cases h.1
      rw [hne]
      exact lookup_once h.2 hm2

/-- The slots behind a piece: those told, those written (as they are), the others (as they were). -/
def mask (k : Nat) (W : List Nat) (outs : List (Nat × AV)) (f l : List AV) : List AV :=
  (List.range k).map fun j => match outs.lookup j with
    | some v => v
    | none => match W.contains j with
      | true => f.getD j .undef
      | false => l.getD j .undef

/-- What a piece is told to leave: how it is left, slots, memory; out of some slots, and memory. -/
abbrev PieceTold := List AV → AH → Tr (Ex × List (Nat × AV) × AH)

def pieceX (k : Nat) (W ins : List Nat) (g : PieceTold) (fin : St → Ex → List (Nat × AV) → AH → List AV) : St → Tr (Ex × St) := fun s =>
  match Nat.beq s.tmps.length k with
  | true => (g (ins.map fun j => untag (s.tmps.getD j .undef)) (s.heap.map untagL)).bind fun r => .leaf (r.1, ⟨mask k W r.2.1 (fin s r.1 r.2.1 r.2.2) s.tmps, r.2.2⟩)
  | false => .bad

/-! ### what a loop's round laid is forgotten behind it -/

mutual
/-- A value, of which blocks from 'n' on are forgotten. -/
def weak (n : Nat) : AV → AV
  | .ptr (some (b, o)) => match Nat.blt b n with | true => .ptr (some (b, o)) | false => .junk
  | .slice (some (b, o)) l c => match Nat.blt b n with | true => .slice (some (b, o)) l c | false => .junk
  | .func fn f c => .func fn (weakL n f) (weakL n c)
  | .iface t x => .iface t (weak n x)
  | .agg cs => .agg (weakL n cs)
  | .tuple cs => .tuple (weakL n cs)
  | .fptr cs o => .fptr (weakL n cs) o
  | x => x
def weakL (n : Nat) : List AV → List AV
  | [] => []
  | x :: xs => weak n x :: weakL n xs
end

def gw : Option Nat → List AV → List AV
  | none, l => l
  | some n, l => weakL n l

def gcSt : Option Nat → St → St
  | none, s => s
  | some n, s => ⟨weakL n s.tmps, (s.heap.take n).map (weakL n)⟩

theorem gcSt_tmps (g : Option Nat) (s : St) : (gcSt g s).tmps = gw g s.tmps := by cases g <;> rfl

/-- A loop, some rounds of it at the most; behind each what it laid is forgotten. -/
def loopIterG (g : Option Nat) (body : St → Tr (Ex × St)) : Nat → St → Tr (Ex × St)
  | 0, _ => .bad
  | n + 1, s => (body s).bind fun r => match r.1 with
    | .normal => loopIterG g body n (gcSt g r.2)
    | e => .leaf (e, gcSt g r.2)

def Ren.cut (φ : Ren) (n : Nat) : Ren := { φ with own := fun b => if b < n then φ b else none }

theorem weakL_length (n : Nat) : ∀ l : List AV, (weakL n l).length = l.length
  | [] => rfl
  | x :: xs => by simp [weakL, weakL_length n xs]

mutual
theorem weak_rel {φ : Ren} (n : Nat) : ∀ (x : AV) (v : Value), ARel φ x v → ARel (φ.cut n) (weak n x) v
  | .bool _ _, _, e => by simpa only [weak, ARel] using e
  | .int _ _ _, _, e => by simpa only [weak, ARel] using e
  | .str _ _, _, e => by simpa only [weak, ARel] using e
  | .ptr none, _, e => by simpa only [weak, ARel] using e
  | .ptr (some (b, _)), _, e => by
    simp only [ARel] at e; obtain ⟨c, hc, rfl⟩ := e
    simp only [weak]
    split
    · rename_i hb; simp only [ARel]; exact ⟨c, by unfold Ren.cut; simp only; rw [Nat.blt_eq] at hb; rw [if_pos hb]; exact hc, rfl⟩
    · rfl
  | .slice none _ _, _, e => by simpa only [weak, ARel] using e
  | .slice (some (b, _)) _ _, _, e => by
    simp only [ARel] at e; obtain ⟨c, hc, rfl⟩ := e
    simp only [weak]
    split
    · rename_i hb; simp only [ARel]; exact ⟨c, by unfold Ren.cut; simp only; rw [Nat.blt_eq] at hb; rw [if_pos hb]; exact hc, rfl⟩
    · rfl
  | .func _ fs cs, _, e => by
    simp only [weak, ARel] at e ⊢; obtain ⟨fs', cs', rfl, h1, h2⟩ := e; exact ⟨fs', cs', rfl, weakL_rel n fs _ h1, weakL_rel n cs _ h2⟩
  | .nilFunc, _, e => by simpa only [weak, ARel] using e
  | .iface _ x, _, e => by simp only [weak, ARel] at e ⊢; obtain ⟨y, rfl, h1⟩ := e; exact ⟨y, rfl, weak_rel n x y h1⟩
  | .nilIface, _, e => by simpa only [weak, ARel] using e
  | .agg cs, _, e => by simp only [weak, ARel] at e ⊢; obtain ⟨cs', rfl, h1⟩ := e; exact ⟨cs', rfl, weakL_rel n cs _ h1⟩
  | .tuple cs, _, e => by simp only [weak, ARel] at e ⊢; obtain ⟨cs', rfl, h1⟩ := e; exact ⟨cs', rfl, weakL_rel n cs _ h1⟩
  | .junk, _, e => by simpa only [weak, ARel] using e
  | .fptr cs o, _, e => by
    simp only [weak, ARel] at e ⊢; obtain ⟨c, base, cells, h1, rfl, h2, h3⟩ := e
    exact ⟨c, base, cells, h1, rfl, by rw [weakL_length]; exact h2, by rw [weakL_length]; exact weakL_rel n cs _ h3⟩
  | .list _ _, _, e => by simp only [weak, ARel] at e ⊢; exact e
theorem weakL_rel {φ : Ren} (n : Nat) : ∀ (x : List AV) (v : List Value), LRel φ x v → LRel (φ.cut n) (weakL n x) v
  | [], _, e => by simpa only [weakL, LRel] using e
  | x :: xs, _, e => by
    simp only [weakL, LRel] at e ⊢; obtain ⟨y, ys, rfl, h1, h2⟩ := e; exact ⟨y, ys, rfl, weak_rel n x y h1, weakL_rel n xs ys h2⟩
end

mutual
/-- Of what leads to blocks below 'n' alone nothing is forgotten. -/
theorem weak_id {φ : Ren} {n : Nat} (hn : ∀ b c, φ b = some c → b < n) : ∀ (x : AV) (v : Value), ARel φ x v → weak n x = x
  | .bool _ _, _, _ => by simp only [weak]
  | .int _ _ _, _, _ => by simp only [weak]
  | .str _ _, _, _ => by simp only [weak]
  | .ptr none, _, _ => by simp only [weak]
  | .ptr (some (b, _)), _, e => by
    simp only [ARel] at e; obtain ⟨c, hc, rfl⟩ := e
    simp only [weak]; rw [show Nat.blt b n = true by rw [Nat.blt_eq]; exact hn _ _ hc]
  | .slice none _ _, _, _ => by simp only [weak]
  | .slice (some (b, _)) _ _, _, e => by
    simp only [ARel] at e; obtain ⟨c, hc, rfl⟩ := e
    simp only [weak]; rw [show Nat.blt b n = true by rw [Nat.blt_eq]; exact hn _ _ hc]
  | .func _ fs cs, _, e => by simp only [ARel] at e; obtain ⟨fs', cs', rfl, h1, h2⟩ := e; simp only [weak]; rw [weakL_id hn fs _ h1, weakL_id hn cs _ h2]
  | .nilFunc, _, _ => by simp only [weak]
  | .iface _ x, _, e => by simp only [ARel] at e; obtain ⟨y, rfl, h1⟩ := e; simp only [weak]; rw [weak_id hn x y h1]
  | .nilIface, _, _ => by simp only [weak]
  | .agg cs, _, e => by simp only [ARel] at e; obtain ⟨cs', rfl, h1⟩ := e; simp only [weak]; rw [weakL_id hn cs _ h1]
  | .tuple cs, _, e => by simp only [ARel] at e; obtain ⟨cs', rfl, h1⟩ := e; simp only [weak]; rw [weakL_id hn cs _ h1]
  | .junk, _, _ => by simp only [weak]
  | .fptr cs o, _, e => by simp only [ARel] at e; obtain ⟨c, base, cells, h1, rfl, h2, h3⟩ := e; simp only [weak]; rw [weakL_id hn cs _ h3]
  | .list _ _, _, _ => by simp only [weak]
theorem weakL_id {φ : Ren} {n : Nat} (hn : ∀ b c, φ b = some c → b < n) : ∀ (x : List AV) (v : List Value), LRel φ x v → weakL n x = x
  | [], _, _ => by simp only [weakL]
  | x :: xs, _, e => by simp only [LRel] at e; obtain ⟨y, ys, rfl, h1, h2⟩ := e; simp only [weakL]; rw [weak_id hn x y h1, weakL_id hn xs ys h2]
end

mutual
theorem weak_weak (n : Nat) : ∀ x : AV, weak n (weak n x) = weak n x
  | .bool _ _ => by simp only [weak]
  | .int _ _ _ => by simp only [weak]
  | .str _ _ => by simp only [weak]
  | .ptr none => by simp only [weak]
  | .ptr (some (b, _)) => by
    simp only [weak]
    cases h : Nat.blt b n <;> simp only [weak, h]
  | .slice none _ _ => by simp only [weak]
  | .slice (some (b, _)) _ _ => by
    simp only [weak]
    cases h : Nat.blt b n <;> simp only [weak, h]
  | .func _ fs cs => by simp only [weak]; rw [weakL_weakL n fs, weakL_weakL n cs]
  | .nilFunc => by simp only [weak]
  | .iface _ x => by simp only [weak]; rw [weak_weak n x]
  | .nilIface => by simp only [weak]
  | .agg cs => by simp only [weak]; rw [weakL_weakL n cs]
  | .tuple cs => by simp only [weak]; rw [weakL_weakL n cs]
  | .junk => by simp only [weak]
  | .fptr cs o => by simp only [weak]; rw [weakL_weakL n cs]
  | .list _ _ => by simp only [weak]
theorem weakL_weakL (n : Nat) : ∀ x : List AV, weakL n (weakL n x) = weakL n x
  | [] => by simp only [weakL]
  | x :: xs => by simp only [weakL]; rw [weak_weak n x, weakL_weakL n xs]
end

mutual
theorem untag_weak (n : Nat) : ∀ x : AV, untag (weak n x) = weak n (untag x)
  | .bool _ _ => by simp only [weak, untag]
  | .int _ _ _ => by simp only [weak, untag]
  | .str _ _ => by simp only [weak, untag]
  | .ptr none => by simp only [weak, untag]
  | .ptr (some (b, _)) => by
    simp only [weak, untag]
    cases h : Nat.blt b n <;> simp only [untag]
  | .slice none _ _ => by simp only [weak, untag]
  | .slice (some (b, _)) _ _ => by
    simp only [weak, untag]
    cases h : Nat.blt b n <;> simp only [untag]
  | .func _ fs cs => by simp only [weak, untag]; rw [untagL_weakL n fs, untagL_weakL n cs]
  | .nilFunc => by simp only [weak, untag]
  | .iface _ x => by simp only [weak, untag]; rw [untag_weak n x]
  | .nilIface => by simp only [weak, untag]
  | .agg cs => by simp only [weak, untag]; rw [untagL_weakL n cs]
  | .tuple cs => by simp only [weak, untag]; rw [untagL_weakL n cs]
  | .junk => by simp only [weak, untag]
  | .fptr cs o => by simp only [weak, untag]; rw [untagL_weakL n cs]
  | .list _ _ => by simp only [weak, untag]
theorem untagL_weakL (n : Nat) : ∀ x : List AV, untagL (weakL n x) = weakL n (untagL x)
  | [] => by simp only [weakL, untagL]
  | x :: xs => by simp only [weakL, untagL]; rw [untag_weak n x, untagL_weakL n xs]
end

theorem weakL_map (n : Nat) (l : List AV) : weakL n l = l.map (weak n) := by
  induction l with
  | nil => rfl
  | cons x xs ih => simp only [weakL, List.map_cons, ih]

theorem weakL_getD (n : Nat) (tm : List AV) (j : Nat) : (weakL n tm).getD j .undef = weak n (tm.getD j .undef) := by
  rw [weakL_map]
  simp only [List.getD_eq_getElem?_getD, List.getElem?_map]
  cases tm[j]? <;> simp [weak, weakL]

theorem HRel.gc {B : Nat} {w0 : World} {φ : Ren} {h : AH} {w : World} (R : HRel B w0 φ h w) (n : Nat) : HRel B w0 (φ.cut n) ((h.take n).map (weakL n)) w := by
  have cutS : ∀ {b c}, φ.cut n b = some c → b < n ∧ φ b = some c := by
    intro b c e
    unfold Ren.cut at e
    simp only at e
    split at e
    · rename_i hb; exact ⟨hb, e⟩
    · cases e
  refine ⟨?_, fun b b' c e e' => R.inj _ _ _ (cutS e).2 (cutS e').2, ?_, fun b c e => R.rng _ _ (cutS e).2, R.below, R.base, R.fok, fun b c e => R.dis _ _ (cutS e).2, R.bas⟩
  · intro b cs h
    rw [List.getElem?_map] at h
    simp only [Option.map_eq_some_iff] at h
    obtain ⟨cs0, h0, rfl⟩ := h
    rw [List.getElem?_take] at h0
    split at h0
    · rename_i hb
      obtain ⟨c, cs', e, h1, h2, h3⟩ := R.cells b cs0 h0
      exact ⟨c, cs', e, by unfold Ren.cut; simp only; rw [if_pos hb]; exact h1, h2, weakL_rel n _ _ h3⟩
    · cases h0
  · intro b c e
    have := R.dom _ _ (cutS e).2
    have h2 := (cutS e).1
    simp; omega

theorem SRel.gc {B : Nat} {w0 : World} {φ : Ren} {s : St} {a : Act} {w : World} (R : SRel B w0 φ s a w) (n : Nat) : SRel B w0 (φ.cut n) (gcSt (some n) s) a w := ⟨R.heap.gc n, weakL_rel n _ _ R.tmps, R.defers⟩

theorem gc_step {B : Nat} {w0 : World} {φ φ' : Ren} {s : St} {a : Act} {w : World} {g : Option Nat} (hle : φ.le φ') (hd : ∀ k, g = some k → ∀ b c, φ b = some c → b < k) (R : SRel B w0 φ' s a w) :
    ∃ φ2, φ.le φ2 ∧ SRel B w0 φ2 (gcSt g s) a w := by
  cases g with
  | none => exact ⟨φ', hle, R⟩
  | some k => exact ⟨φ'.cut k, ⟨fun b c e => by unfold Ren.cut; simp only; rw [if_pos (hd k rfl b c e)]; exact hle.own _ _ e, hle.frz, hle.new, hle.base⟩, R.gc k⟩

/-- A loop whose rounds' blocks are forgotten. -/
theorem loopG_rounds {P : Program} {B : Nat} {w0 : World} {call : CallA} {L : Nat} {O : Known} (hm : P.follows .mixedOrders = true) (hc : CallsOk P call) {x : Code} (hk : KnownOk P O (blocksOf x)) (g : Option Nat) {φ : Ren} (hd : ∀ k, g = some k → ∀ b c, φ b = some c → b < k) {e : Ex} {s' : St} :
    ∀ (n : Nat) (s : St) (φ1 : Ren) (a : Act) (w : World), φ.le φ1 → (∀ k, g = some k → ∀ b c, φ1 b = some c → b < k) → (loopIterG g (evCode P call L O x) n s).run = some (e, s') → SRel B w0 φ1 s a w → Code.rounds P x (Post B w0 φ e s') n a w := by
  intro n
  induction n with
  | zero => intro s φ1 a w _ _ h; simp [loopIterG, Tr.run] at h
  | succ n ihn =>
    intro s φ1 a w hle hd1 h R
    simp only [loopIterG] at h
    obtain ⟨⟨e1, s1⟩, h1, h2⟩ := run_bind_some h
    rw [rounds_succ]
    refine wp_mono (code_wp hm hc x hk s e1 s1 h1 φ1 a w R) ?_
    rintro e' a' w' ⟨φ', hle', rfl, R'⟩
    have R2 : ∃ φ2, φ1.le φ2 ∧ SRel B w0 φ2 (gcSt g s1) a' w' ∧ (∀ k, g = some k → ∀ b c, φ2 b = some c → b < k) := by
      cases g with
      | none => exact ⟨φ', hle', R', fun k e => by cases e⟩
      | some k => exact ⟨φ'.cut k, ⟨fun b c e => by unfold Ren.cut; simp only; rw [if_pos (hd1 k rfl b c e)]; exact hle'.own _ _ e, hle'.frz, hle'.new, hle'.base⟩, R'.gc k, fun k' e b c hb => by
          cases e
          unfold Ren.cut at hb
          simp only at hb
          split at hb
          · assumption
          · cases hb⟩
    obtain ⟨φ2, g1, g2, g3⟩ := R2
    cases e1 with
    | normal => exact ihn _ φ2 a' w' (Ren.le_trans hle g1) g3 h2 g2
    | exit j =>
      simp only [Tr.run, Option.some.injEq, Prod.mk.injEq] at h2
      obtain ⟨rfl, rfl⟩ := h2
      exact ⟨φ2, Ren.le_trans hle g1, rfl, g2⟩
    | ret =>
      simp only [Tr.run, Option.some.injEq, Prod.mk.injEq] at h2
      obtain ⟨rfl, rfl⟩ := h2
      exact ⟨φ2, Ren.le_trans hle g1, rfl, g2⟩

/-- The slots that are not written, without marks. -/
def keepL (k : Nat) (W : List Nat) (l : List AV) : List AV := (List.range k).map fun j => match W.contains j with
  | true => .undef
  | false => untag (l.getD j .undef)

/-- 's'' is as told, marks aside. -/
structure Leaves (g : Option Nat) (k : Nat) (W : List Nat) (tm : List AV) (outs : List (Nat × AV)) (hp : AH) (s' : St) : Prop where
  heap : s'.heap.map untagL = hp.map untagL
  len : s'.tmps.length = k
  outs : outs.map (fun p => untag (s'.tmps.getD p.1 .undef)) = outs.map (fun p => untag p.2)
  keep : keepL k W s'.tmps = gw g (keepL k W tm)

theorem gw_gw (g : Option Nat) (l : List AV) : gw g (gw g l) = gw g l := by cases g with | none => rfl | some n => exact weakL_weakL n l

mutual
theorem untag_untag : ∀ x : AV, untag (untag x) = untag x
  | .bool _ _ => rfl
  | .int _ _ _ => rfl
  | .str _ _ => rfl
  | .iface _ x => by simp only [untag]; rw [untag_untag x]
  | .agg cs => by simp only [untag]; rw [untagL_untagL cs]
  | .tuple cs => by simp only [untag]; rw [untagL_untagL cs]
  | .func _ f c => by simp only [untag]; rw [untagL_untagL f, untagL_untagL c]
  | .ptr _ => rfl
  | .slice _ _ _ => rfl
  | .nilFunc => rfl
  | .nilIface => rfl
  | .junk => rfl
  | .fptr cs _ => by simp only [untag]; rw [untagL_untagL cs]
  | .list _ _ => rfl
theorem untagL_untagL : ∀ x : List AV, untagL (untagL x) = untagL x
  | [] => rfl
  | x :: xs => by simp only [untagL]; rw [untag_untag x, untagL_untagL xs]
end

theorem map_mem {α β : Type} {f g : α → β} : ∀ {l : List α} {x : α}, l.map f = l.map g → x ∈ l → f x = g x
  | y :: ys, x, h, hm => by
    simp only [List.map_cons, List.cons.injEq] at h
    rcases List.mem_cons.1 hm with e | hm2
    · subst e; exact h.1
    · exact map_mem h.2 hm2

theorem tmps_eq {k : Nat} {tm : List AV} (h : tm.length = k) : untagL tm = (List.range k).map fun j => untag (tm.getD j .undef) := by
  subst h
  rw [untagL_map]
  apply List.ext_getElem
  · simp
  · intro i h1 h2
    simp at h1
    simp [List.getD_eq_getElem?_getD, h1]

theorem untagL_getD (tm : List AV) (j : Nat) : (untagL tm).getD j .undef = untag (tm.getD j .undef) := by
  rw [untagL_map]
  simp only [List.getD_eq_getElem?_getD, List.getElem?_map]
  cases tm[j]? <;> rfl

theorem keepL_gw (g : Option Nat) (k : Nat) (W : List Nat) (l : List AV) : keepL k W (gw g l) = gw g (keepL k W l) := by
  cases g with
  | none => rfl
  | some n =>
    simp only [gw]
    rw [weakL_map n (keepL k W l)]
    unfold keepL
    rw [List.map_map]
    apply List.map_congr_left
    intro j _
    simp only [Function.comp]
    cases hw : W.contains j
    · rw [weakL_getD, untag_weak]
    · simp [weak, weakL]

theorem Leaves.of {g : Option Nat} {k : Nat} {W : List Nat} {tm tm' : List AV} {outs : List (Nat × AV)} {hp : AH} {s' s1 : St} (h : Leaves g k W tm outs hp s') (hs : tm = (gcSt g s1).tmps) (hk : keepL k W s1.tmps = keepL k W tm') : Leaves g k W tm' outs hp s' :=
  ⟨h.heap, h.len, h.outs, by rw [h.keep, hs, gcSt_tmps, keepL_gw, gw_gw, hk]⟩

theorem Leaves.stop {g : Option Nat} {k : Nat} {W : List Nat} {tm' : List AV} {outs : List (Nat × AV)} {hp : AH} {s1 : St} (hh : (gcSt g s1).heap.map untagL = hp.map untagL) (hl : (gcSt g s1).tmps.length = k)
    (ho : outs.map (fun p => untag ((gcSt g s1).tmps.getD p.1 .undef)) = outs.map (fun p => untag p.2)) (hk : keepL k W s1.tmps = keepL k W tm') : Leaves g k W tm' outs hp (gcSt g s1) :=
  ⟨hh, hl, ho, by rw [gcSt_tmps, keepL_gw, hk]⟩

def loopOf (P : Program) (f : FuncId) (id : Nat) : Code := match blockOf P f id with | .loop a => a | _ => .skip

def outOf (id : Nat) : Ex → Ex
  | .exit j => if j = id then .normal else .exit j
  | e => e

/-- 's'' is what the piece leaves of 's'. -/
def Good (P : Program) (T : Table) (O' : Known) (f : FuncId) (id k : Nat) (W : List Nat) (s : St) (e : Ex) (outs : List (Nat × AV)) (hp : AH) (s' : St) : Prop :=
  ∃ g L Lc n N e1, (∀ k, g = some k → s.heap.length ≤ k) ∧ blockOf P f id = .loop (loopOf P f id) ∧ e = outOf id e1 ∧
    (loopIterG g (evCode P (evCall P T Lc n) L O' (loopOf P f id)) N ⟨untagL s.tmps, s.heap.map untagL⟩).run = some (e1, s') ∧ Leaves g k W (untagL s.tmps) outs hp s'

open Classical in
noncomputable def finOf (P : Program) (T : Table) (O' : Known) (f : FuncId) (id k : Nat) (W : List Nat) (s : St) (e : Ex) (outs : List (Nat × AV)) (hp : AH) : List AV :=
  if h : ∃ s', Good P T O' f id k W s e outs hp s' then (Classical.choose h).tmps else []

noncomputable def piece (P : Program) (T : Table) (O' : Known) (f : FuncId) (id k : Nat) (W ins : List Nat) (g : PieceTold) : St → Tr (Ex × St) := pieceX k W ins g (finOf P T O' f id k W)

theorem lookup_mem : ∀ {l : List (Nat × AV)} {j : Nat} {v : AV}, l.lookup j = some v → (j, v) ∈ l
  | (i, x) :: r, j, v, h => by
    rw [List.lookup_cons] at h
    split at h
    · rename_i hb; cases h; have := eq_of_beq hb; subst this; exact List.mem_cons_self
    · exact List.mem_cons_of_mem _ (lookup_mem h)

theorem LRel.of_getD {φ : Ren} : ∀ {l : List AV} {m : List Value}, l.length = m.length → (∀ j, j < l.length → ARel φ (l.getD j .undef) (m.getD j Go.undef)) → LRel φ l m
  | [], [], _, _ => rfl
  | x :: xs, y :: ys, hl, h => by
    simp only [LRel]
    refine ⟨y, ys, rfl, by simpa using h 0 (by simp), LRel.of_getD (by simpa using hl) fun j hj => ?_⟩
    have := h (j + 1) (by simpa using hj)
    simpa using this

theorem piece_wp {P : Program} (hp : ProgOk P) {T : Table} (hT : TableOk P T) {O' : Known} {f : FuncId} {id k : Nat} {W ins : List Nat} {g : PieceTold} (hO : KnownOk P O' (blocksOf (.block id (blockOf P f id))))
    (h : ∀ s e outs hp, s.tmps.length = k → (g (ins.map fun j => untag (s.tmps.getD j .undef)) (s.heap.map untagL)).run = some (e, outs, hp) → ∃ s', Good P T O' f id k W s e outs hp s') :
    ∀ s e s', (piece P T O' f id k W ins g s).run = some (e, s') → ∀ B w0 φ a w, SRel B w0 φ s a w → (Code.block id (blockOf P f id)).wp P (Post B w0 φ e s') a w := by
  intro s e s' hx B w0 φ a w R
  unfold piece pieceX at hx
  split at hx
  · rename_i hk
    have hk := Nat.eq_of_beq_eq_true hk
    obtain ⟨⟨e1, outs, hh⟩, h1, h2⟩ := run_bind_some hx
    simp only [Tr.run, Option.some.injEq, Prod.mk.injEq] at h2
    obtain ⟨rfl, rfl⟩ := h2
    have hex := h s e1 outs hh hk h1
    have hg := Classical.choose_spec hex
    have hfin : finOf P T O' f id k W s e1 outs hh = (Classical.choose hex).tmps := by unfold finOf; rw [dif_pos hex]
    rw [hfin]
    generalize Classical.choose hex = s1 at hg
    obtain ⟨g, L, Lc, n, N, e2, hlen, hbl, he2, hr, g1, g2, g3, g4⟩ := hg
    have hdom : ∀ k, g = some k → ∀ b c, φ b = some c → b < k := fun k e b c hb => Nat.lt_of_lt_of_le (R.heap.dom b c hb) (hlen k e)
    have g3 := fun j v hm => map_mem (x := ((j : Nat), (v : AV))) g3 hm
    have hid : gw g (keepL k W (untagL s.tmps)) = keepL k W (untagL s.tmps) := by
      cases g with
      | none => rfl
      | some m =>
        show weakL m _ = _
        rw [weakL_map]
        unfold keepL
        rw [List.map_map]
        apply List.map_congr_left
        intro j _
        simp only [Function.comp]
        cases hw : W.contains j
        · rw [untagL_getD, untag_untag]
          exact weak_id (hdom m rfl) _ _ (untag_rel _ _ (LRel.getD j R.tmps))
        · simp [weak, weakL]
    rw [hid] at g4
    have g4 : ∀ j, j < k → W.contains j = false → untag (s1.tmps.getD j .undef) = untag (s.tmps.getD j .undef) := fun j hj hw => by
      have := map_mem (x := j) g4 (List.mem_range.2 hj)
      simp only [hw] at this
      rw [this, untagL_getD, untag_untag]
    have hO' : KnownOk P O' (blocksOf (loopOf P f id)) := fun i b X h1 h2 => hO i b X h1 (by rw [hbl]; simp [blocksOf, h2])
    have hloop := wp_loop_rounds N (loopG_rounds hp.mixed (evCall_ok hp hT n) hO' g hdom N _ φ a w (Ren.le_refl _) hdom hr R.untag)
    rw [hbl]
    refine wp_block (wp_mono hloop ?_)
    rintro e' a' w' ⟨φ', hle, he, R'⟩
    have fin : SRel B w0 φ' ⟨mask k W outs s1.tmps s.tmps, hh⟩ a' w' → Exit.inBlock id (Post B w0 φ e1 ⟨mask k W outs s1.tmps s.tmps, hh⟩) e' a' w' := by
      intro hS
      rw [he, he2]
      cases e2 with
      | normal => exact ⟨φ', hle, rfl, hS⟩
      | ret => exact ⟨φ', hle, rfl, hS⟩
      | exit j =>
        simp only [exOf, Exit.inBlock, outOf]
        by_cases hj : j = id
        · rw [if_pos hj, if_pos hj]; exact ⟨φ', hle, rfl, hS⟩
        · rw [if_neg hj, if_neg hj]; exact ⟨φ', hle, rfl, hS⟩
    refine fin ⟨HRel.untag_inv (by rw [← g1]; exact R'.heap.untag), ?_, R'.defers⟩
    have hlen := LRel.length R'.tmps
    refine LRel.of_getD (by simp [mask]; simpa using g2.symm.trans hlen) fun j hj => ?_
    have hj : j < k := by simpa [mask] using hj
    have hrel := LRel.getD j R'.tmps
    have e0 : (mask k W outs s1.tmps s.tmps).getD j .undef = (match outs.lookup j with | some v => v | none => match W.contains j with | true => s1.tmps.getD j .undef | false => s.tmps.getD j .undef) := by
      simp [mask, List.getD_eq_getElem?_getD, hj]
    have e1' : a'.tmps.toList.getD j Go.undef = a'.tmps.getD j Go.undef := by simp [List.getD_eq_getElem?_getD]
    rw [e0, e1']
    cases ho : outs.lookup j with
    | some v => exact untag_inv _ _ (by rw [← g3 j v (lookup_mem ho)]; exact untag_rel _ _ hrel)
    | none =>
      simp only
      cases hw : W.contains j with
      | true => exact hrel
      | false => exact untag_inv _ _ (by rw [← g4 j hj hw]; exact untag_rel _ _ hrel)
  · simp [Tr.run] at hx

def known (id : Nat) (X : St → Tr (Ex × St)) (O : Known) : Known := fun i => match Nat.beq i id with | true => some X | false => O i

theorem known_ok {P : Program} {f : FuncId} (hf : onceB P f = true) {id : Nat} {X : St → Tr (Ex × St)} {O : Known}
    (hX : ∀ s e s', (X s).run = some (e, s') → ∀ B w0 φ a w, SRel B w0 φ s a w → (Code.block id (blockOf P f id)).wp P (Post B w0 φ e s') a w)
    (hO : ∀ fn c, P.funcs[f]? = some fn → fn.body = some c → KnownOk P O (blocksOf c)) : ∀ fn c, P.funcs[f]? = some fn → fn.body = some c → KnownOk P (known id X O) (blocksOf c) := by
  intro fn c h1 h2 i b Y hY hm
  unfold known at hY
  split at hY
  · rename_i hi
    have hi := Nat.eq_of_beq_eq_true hi
    subst hi
    cases hY
    have : blockOf P f i = b := by
      unfold blockOf
      unfold onceB at hf
      rw [h1] at hf ⊢
      simp only [h2] at hf ⊢
      rw [lookup_once hf hm]
    rw [← this]
    exact hX
  · exact hO fn c h1 h2 i b Y hY hm

theorem good_loop {P : Program} {T : Table} {O' : Known} {f : FuncId} {id k : Nat} {W : List Nat} {tm : List AV} {h : AH} {e1 : Ex} {outs : List (Nat × AV)} {hp : AH} {s' : St} {g : Option Nat} (hb : blockOf P f id = .loop (loopOf P f id)) (hg : ∀ k, g = some k → h.length ≤ k) (Lc n N : Nat)
    (h1 : ∀ L, (loopIterG g (evCode P (evCall P T Lc n) L O' (loopOf P f id)) (N + 1) ⟨untagL tm, h.map untagL⟩).run = some (e1, s')) (hl : Leaves g k W (untagL tm) outs hp s') :
    Good P T O' f id k W ⟨tm, h⟩ (outOf id e1) outs hp s' :=
  ⟨g, 0, Lc, n, N + 1, e1, hg, hb, rfl, h1 0, hl⟩

theorem run_t {α : Type} {b : Bool} {t e : Tr α} (h : b = true) : (Tr.node b t e).run = t.run := by simp [Tr.run, h]
theorem run_f {α : Type} {b : Bool} {t e : Tr α} (h : b = false) : (Tr.node b t e).run = e.run := by simp [Tr.run, h]

end Go.Sky
namespace Go.Sky
theorem blocks_mem {c : Code} : ∀ {l : List (Nat × Code)} {id : Nat}, l.lookup id = some c → (id, c) ∈ l
  | (i, x) :: r, j, h => by
    rw [List.lookup_cons] at h
    split at h
    · rename_i hb; cases h; have := eq_of_beq hb; subst this; exact List.mem_cons_self
    · exact List.mem_cons_of_mem _ (blocks_mem h)

theorem blocks_sub : ∀ {c : Code} {id : Nat} {b : Code}, (id, b) ∈ blocksOf c → ∀ p ∈ blocksOf b, p ∈ blocksOf c := by
  intro c
  induction c with
  | seq x y ihx ihy =>
    intro id b h p hp
    simp only [blocksOf, List.mem_append] at h ⊢
    rcases h with h | h
    · exact .inl (ihx h p hp)
    · exact .inr (ihy h p hp)
  | cond q x y ihx ihy =>
    intro id b h p hp
    simp only [blocksOf, List.mem_append] at h ⊢
    rcases h with h | h
    · exact .inl (ihx h p hp)
    · exact .inr (ihy h p hp)
  | block i x ih =>
    intro id b h p hp
    simp only [blocksOf, List.mem_cons] at h ⊢
    rcases h with h | h
    · cases h; exact .inr hp
    · exact .inr (ih h p hp)
  | loop x ih => intro id b h p hp; simp only [blocksOf] at h ⊢; exact ih h p hp
  | scope x ih => intro id b h p hp; simp only [blocksOf] at h ⊢; exact ih h p hp
  | _ => intro id b h; simp [blocksOf] at h

/-- Is there a block of that number? -/
def hasB (P : Program) (f : FuncId) (id : Nat) : Bool :=
  match P.funcs[f]? with
  | some fn => match fn.body with
    | some c => ((blocksOf c).lookup id).isSome
    | none => false
  | none => false

theorem known_in {P : Program} {f : FuncId} {id : Nat} {O : Known} (hh : hasB P f id = true) (hO : ∀ fn c, P.funcs[f]? = some fn → fn.body = some c → KnownOk P O (blocksOf c)) : KnownOk P O (blocksOf (.block id (blockOf P f id))) := by
  unfold hasB at hh
  cases hf : P.funcs[f]? with
  | none => rw [hf] at hh; cases hh
  | some fn =>
    cases hc : fn.body with
    | none => rw [hf] at hh; simp [hc] at hh
    | some c =>
      rw [hf] at hh
      simp only [hc] at hh
      cases hl : (blocksOf c).lookup id with
      | none => rw [hl] at hh; cases hh
      | some b =>
        have hb : blockOf P f id = b := by unfold blockOf; rw [hf]; simp only [hc, hl]
        have hm := blocks_mem hl
        intro i x X h1 h2
        refine hO fn c hf hc i x X h1 ?_
        rw [hb] at h2
        simp only [blocksOf, List.mem_cons] at h2
        rcases h2 with h2 | h2
        · cases h2; exact hm
        · exact blocks_sub hm _ h2
end Go.Sky

/- Trees of functions, and what they come to. -/
set_option linter.unusedSimpArgs false
set_option linter.unusedVariables false
namespace Go.Sky
set_option maxRecDepth 100000

/-! num.size -/
def tr_num_size (n : Int) : Tr AV := Tr.node (decide (n < 0)) (Tr.leaf (AV.int IntKind.u64 false (IntKind.u64.wrap (0 - IntKind.u64.wrap n)))) (Tr.leaf (AV.int IntKind.u64 false (IntKind.u64.wrap n)))
theorem run_num_size (n : Int) (h_n : InR .i64 n) : (tr_num_size n).run = some (u6 (sz n)) := by
  unfold tr_num_size
  have h := inR_i64.1 h_n
  simp only [Tr.run, sz, u6, wrap_u64, decide_eq_true_eq]
  split
  · congr 2; omega
  · congr 2; omega

/-! num.Times -/
def tr_num_Times (a : Int) (b : Int) : Tr AV := Tr.node (sz a * sz b / (18446744073709551616 : Int) == 0) (Tr.node (decide (sz a * sz b % (18446744073709551616 : Int) ≤ 9223372036854775807)) (Tr.node (decide (bits BinOp.xor IntKind.i64 a b < 0)) (Tr.leaf (AV.int IntKind.i64 false (IntKind.i64.wrap (0 - IntKind.i64.wrap (sz a * sz b % 18446744073709551616))))) (Tr.node (sz a * sz b / (18446744073709551616 : Int) == 0) (Tr.node (decide (sz a * sz b % (18446744073709551616 : Int) ≤ 9223372036854775807)) (Tr.leaf (AV.int IntKind.i64 false (IntKind.i64.wrap (sz a * sz b % 18446744073709551616)))) (Tr.node (decide (bits BinOp.xor IntKind.i64 a b < 0)) (Tr.leaf (AV.int IntKind.i64 false (-9223372036854775808))) (Tr.leaf (AV.int IntKind.i64 false 9223372036854775807)))) (Tr.node (decide (bits BinOp.xor IntKind.i64 a b < 0)) (Tr.leaf (AV.int IntKind.i64 false (-9223372036854775808))) (Tr.leaf (AV.int IntKind.i64 false 9223372036854775807))))) (Tr.node (sz a * sz b / (18446744073709551616 : Int) == 0) (Tr.node (decide (sz a * sz b % (18446744073709551616 : Int) ≤ 9223372036854775807)) (Tr.leaf (AV.int IntKind.i64 false (IntKind.i64.wrap (sz a * sz b % 18446744073709551616)))) (Tr.node (decide (bits BinOp.xor IntKind.i64 a b < 0)) (Tr.leaf (AV.int IntKind.i64 false (-9223372036854775808))) (Tr.leaf (AV.int IntKind.i64 false 9223372036854775807)))) (Tr.node (decide (bits BinOp.xor IntKind.i64 a b < 0)) (Tr.leaf (AV.int IntKind.i64 false (-9223372036854775808))) (Tr.leaf (AV.int IntKind.i64 false 9223372036854775807))))) (Tr.node (sz a * sz b / (18446744073709551616 : Int) == 0) (Tr.node (decide (sz a * sz b % (18446744073709551616 : Int) ≤ 9223372036854775807)) (Tr.leaf (AV.int IntKind.i64 false (IntKind.i64.wrap (sz a * sz b % 18446744073709551616)))) (Tr.node (decide (bits BinOp.xor IntKind.i64 a b < 0)) (Tr.leaf (AV.int IntKind.i64 false (-9223372036854775808))) (Tr.leaf (AV.int IntKind.i64 false 9223372036854775807)))) (Tr.node (decide (bits BinOp.xor IntKind.i64 a b < 0)) (Tr.leaf (AV.int IntKind.i64 false (-9223372036854775808))) (Tr.leaf (AV.int IntKind.i64 false 9223372036854775807))))
theorem run_num_Times (a : Int) (b : Int) (h_a : InR .i64 a) (h_b : InR .i64 b) : (tr_num_Times a b).run = some (i6 (sat (a * b))) := by
  unfold tr_num_Times
  obtain ⟨h1, h2⟩ := times_law (sz a * sz b) rfl (Go.bits BinOp.xor IntKind.i64 a b < 0) (xor_neg h_a h_b)
  generalize sz a * sz b = P at h1 h2 ⊢
  generalize a * b = p at h1 h2 ⊢
  by_cases hs : Go.bits BinOp.xor IntKind.i64 a b < 0
  · obtain ⟨h3, h4⟩ := h1 hs
    simp only [Tr.run, i6, decide_eq_true_eq, beq_iff_eq, hs, if_true, wrap_i64, sat]
    by_cases g1 : P / 18446744073709551616 = 0 <;> by_cases g2 : P % 18446744073709551616 ≤ 9223372036854775807 <;> simp only [g1, g2, if_true, if_false] <;> congr 2 <;> omega
  · obtain ⟨h3, h4⟩ := h2 hs
    simp only [Tr.run, i6, decide_eq_true_eq, beq_iff_eq, hs, if_false, wrap_i64, sat]
    by_cases g1 : P / 18446744073709551616 = 0 <;> by_cases g2 : P % 18446744073709551616 ≤ 9223372036854775807 <;> simp only [g1, g2, if_true, if_false] <;> congr 2 <;> omega

/-! num.Plus -/
def tr_num_Plus (a : Int) (b : Int) : Tr AV := Tr.node (decide (bits BinOp.and IntKind.i64 (bits BinOp.xor IntKind.i64 a (IntKind.i64.wrap (a + b))) (bits BinOp.xor IntKind.i64 b (IntKind.i64.wrap (a + b))) ≥ 0)) (Tr.leaf (AV.int IntKind.i64 false (IntKind.i64.wrap (a + b)))) (Tr.node (decide (a < 0)) (Tr.leaf (AV.int IntKind.i64 false (-9223372036854775808))) (Tr.leaf (AV.int IntKind.i64 false 9223372036854775807)))
theorem run_num_Plus (a : Int) (b : Int) (h_a : InR .i64 a) (h_b : InR .i64 b) : (tr_num_Plus a b).run = some (i6 (sat (a + b))) := by
  unfold tr_num_Plus
  have ha := inR_i64.1 h_a
  have hb := inR_i64.1 h_b
  have hw : InR .i64 (IntKind.i64.wrap (a + b)) := by rw [inR_i64, wrap_i64]; omega
  have h1 := xor_neg h_a hw
  have h2 := xor_neg h_b hw
  have h3 := and_neg (xor_r a (IntKind.i64.wrap (a + b))) (xor_r b (IntKind.i64.wrap (a + b)))
  rw [h1, h2] at h3
  clear h1 h2 hw
  generalize Go.bits BinOp.and IntKind.i64 (Go.bits BinOp.xor IntKind.i64 a (IntKind.i64.wrap (a + b))) (Go.bits BinOp.xor IntKind.i64 b (IntKind.i64.wrap (a + b))) = c at h3 ⊢
  simp only [Tr.run, i6, decide_eq_true_eq, wrap_i64, sat] at h3 ⊢
  split
  · congr 2; omega
  · split
    · congr 2; omega
    · congr 2; omega

end Go.Sky

/- Square roots, rounded down. -/
set_option linter.unusedSimpArgs false
set_option linter.unusedVariables false
namespace Go.Sky

/-- Bit by bit. -/
def isqGo : Nat → Int → Int → Int
  | 0, _, r => r
  | i + 1, n, r => if (r + 2 ^ i) * (r + 2 ^ i) ≤ n then isqGo i n (r + 2 ^ i) else isqGo i n r

def isq (n : Int) : Int := isqGo 64 n 0

theorem isqGo_spec : ∀ (i : Nat) (n r : Int), 0 ≤ r → r * r ≤ n → n < (r + 2 ^ i) * (r + 2 ^ i) → r ≤ isqGo i n r ∧ isqGo i n r < r + 2 ^ i ∧ isqGo i n r * isqGo i n r ≤ n ∧ n < (isqGo i n r + 1) * (isqGo i n r + 1)
  | 0, n, r, h0, h1, h2 => by simp only [isqGo]; simp at h2; exact ⟨Int.le_refl _, by simp; omega, h1, h2⟩
  | i + 1, n, r, h0, h1, h2 => by
    have hp : (0 : Int) < 2 ^ i := Int.pow_pos (by decide)
    have e : (2 : Int) ^ (i + 1) = 2 ^ i + 2 ^ i := by rw [Int.pow_succ]; omega
    rw [e] at h2 ⊢
    simp only [isqGo]
    split
    · rename_i h
      obtain ⟨g1, g2, g3, g4⟩ := isqGo_spec i n (r + 2 ^ i) (by omega) h (by rw [show r + 2 ^ i + 2 ^ i = r + (2 ^ i + 2 ^ i) by omega]; exact h2)
      exact ⟨by omega, by omega, g3, g4⟩
    · rename_i h
      obtain ⟨g1, g2, g3, g4⟩ := isqGo_spec i n r h0 h1 (by omega)
      exact ⟨g1, by omega, g3, g4⟩

theorem sq_lt {a b : Int} (ha : 0 ≤ a) (hb : 0 ≤ b) (h : a * a < b * b) : a < b := by
  rcases (show a < b ∨ b ≤ a by omega) with h1 | h1
  · exact h1
  · have := Int.mul_le_mul h1 h1 hb ha; omega

theorem root_unique {n s t : Int} (hs : 0 ≤ s) (ht : 0 ≤ t) (h1 : s * s ≤ n) (h2 : n < (s + 1) * (s + 1)) (h3 : t * t ≤ n) (h4 : n < (t + 1) * (t + 1)) : s = t := by
  have a := sq_lt (a := s) (b := t + 1) hs (by omega) (by omega)
  have b := sq_lt (a := t) (b := s + 1) ht (by omega) (by omega)
  omega

theorem isq_spec {n : Int} (h0 : 0 ≤ n) (h1 : n < 340282366920938463463374607431768211456) : 0 ≤ isq n ∧ isq n < 18446744073709551616 ∧ isq n * isq n ≤ n ∧ n < (isq n + 1) * (isq n + 1) := by
  have := isqGo_spec 64 n 0 (by omega) (by omega) (by simpa using h1)
  unfold isq
  simp at this
  omega

theorem isq_eq {n s : Int} (h0 : 0 ≤ n) (h1 : n < 340282366920938463463374607431768211456) (hs : 0 ≤ s) (h2 : s * s ≤ n) (h3 : n < (s + 1) * (s + 1)) : isq n = s := by
  obtain ⟨a, b, c, d⟩ := isq_spec h0 h1
  exact root_unique a hs c d h2 h3

/-- Small ones. -/
theorem isq_32 {n : Int} (h0 : 0 ≤ n) (h1 : n < 18446744073709551616) : isq n < 4294967296 := by
  obtain ⟨a, b, c, d⟩ := isq_spec h0 (by omega)
  exact sq_lt a (by omega) (by omega)

/-- One step of Newton's. -/
theorem newton {n s r : Int} (hs : 0 ≤ s) (h1 : s * s ≤ n) (h2 : n < (s + 1) * (s + 1)) (hr : 0 < r) (hsr : s ≤ r) : s ≤ (r + n / r) / 2 ∧ ((r + n / r) / 2 ≥ r → r = s) := by
  have hq := Int.mul_ediv_add_emod n r
  have hm := Int.emod_nonneg n (show r ≠ 0 by omega)
  have hm2 := Int.emod_lt_of_pos n hr
  generalize n / r = q at hq ⊢
  generalize n % r = m at hq hm hm2
  constructor
  · -- n < r (q + 1), so (r + q + 1)² ≥ 4 r (q + 1) > 4 n ≥ (2 s)²
    have hq0 : 0 ≤ q := by
      rcases (show q < 0 ∨ 0 ≤ q by omega) with h | h
      · have : r * q ≤ r * (-1) := Int.mul_le_mul_of_nonneg_left (by omega) (by omega)
        have : 0 ≤ s * s := Int.mul_nonneg hs hs
        omega
      · exact h
    have h3 : (2 * s) * (2 * s) < (r + q + 1) * (r + q + 1) := by
      have e : (r + q + 1) * (r + q + 1) = (r - q - 1) * (r - q - 1) + 4 * (r * q + r) := by grind
      have e2 : (2 * s) * (2 * s) = 4 * (s * s) := by grind
      have h4 : 0 ≤ (r - q - 1) * (r - q - 1) := by
        rcases (show (r - q - 1) < 0 ∨ 0 ≤ (r - q - 1) by omega) with h | h
        · exact Int.mul_nonneg_of_nonpos_of_nonpos (by omega) (by omega)
        · exact Int.mul_nonneg h h
      omega
    have := sq_lt (by omega) (by omega) h3
    omega
  · intro h
    have h5 : r ≤ q := by omega
    have h6 : r * r ≤ r * q := Int.mul_le_mul_of_nonneg_left h5 (by omega)
    have := sq_lt (a := r) (b := s + 1) (by omega) (by omega) (by omega)
    omega

theorem div_small {n s r : Int} (hs : 0 ≤ s) (h2 : n < (s + 1) * (s + 1)) (hr : 0 < r) (hsr : s ≤ r) (h1 : 1 ≤ s) : n / r ≤ s + 2 := by
  have h3 : n < r * (s + 3) := by
    have a : s * (s + 3) ≤ r * (s + 3) := Int.mul_le_mul_of_nonneg_right hsr (by omega)
    have e : (s + 1) * (s + 1) = s * (s + 3) - s + 1 := by grind
    omega
  have := Int.ediv_lt_of_lt_mul hr (by rw [Int.mul_comm]; exact h3)
  omega

theorem root_start {n : Int} (h0 : 0 < n) (h1 : n ≤ 18446744073709551615) :
    ∃ r, IntKind.u64.wrap (1 * 2 ^ min (IntKind.i64.wrap ((IntKind.i64.wrap (((Lib.bitLen n.toNat : Nat) : Int) + 1)).tdiv 2)).toNat 64) = r ∧ isq n ≤ r ∧ 0 < r ∧ r ≤ 4294967296 ∧
      ¬ (IntKind.i64.wrap ((IntKind.i64.wrap (((Lib.bitLen n.toNat : Nat) : Int) + 1)).tdiv 2) < 0) := by
  have hb := Go.Proofs.Any.bitLen_le64 n (by omega) h1
  have g1 : n.toNat < 2 ^ Lib.bitLen n.toNat := (Lib.bitLenAux_bounds 64 n.toNat (by omega) (by omega)).2.2
  obtain ⟨s0, s1, s2, s3⟩ := isq_spec (n := n) (by omega) (by omega)
  generalize Lib.bitLen n.toNat = b at hb g1 ⊢
  have e0 : IntKind.i64.wrap ((b : Int) + 1) = b + 1 := wrap_i64_id (by omega)
  have e1 : ((b : Int) + 1).tdiv 2 = ((b + 1) / 2 : Nat) := by rw [Int.tdiv_eq_ediv_of_nonneg (by omega)]; omega
  have e2 : IntKind.i64.wrap (((b + 1) / 2 : Nat) : Int) = ((b + 1) / 2 : Nat) := wrap_i64_id (by omega)
  rw [e0, e1, e2]
  have e3 : min (((b + 1) / 2 : Nat) : Int).toNat 64 = (b + 1) / 2 := by omega
  rw [e3, Int.one_mul]
  have hk : (b + 1) / 2 ≤ 32 := by omega
  have hb2 : b ≤ (b + 1) / 2 + (b + 1) / 2 := by omega
  generalize (b + 1) / 2 = k at hk hb2 ⊢
  have p0 : (0 : Int) < 2 ^ k := Int.pow_pos (by decide)
  have p1 : (2 : Int) ^ k ≤ 2 ^ 32 := by
    have := Nat.pow_le_pow_right (n := 2) (by decide) hk
    exact_mod_cast this
  have p2 : n < 2 ^ k * 2 ^ k := by
    have a : (2 : Nat) ^ b ≤ 2 ^ (k + k) := Nat.pow_le_pow_right (by decide) hb2
    have c : n.toNat < 2 ^ k * 2 ^ k := by rw [← Nat.pow_add]; omega
    have d : ((2 ^ k * 2 ^ k : Nat) : Int) = 2 ^ k * 2 ^ k := by push_cast; rfl
    rw [← d]; omega
  refine ⟨2 ^ k, wrap_u64_id (by omega), ?_, p0, by omega, by omega⟩
  have := sq_lt s0 (by omega) (show isq n * isq n < 2 ^ k * 2 ^ k by omega)
  omega

end Go.Sky

/- Trees of functions, and what they come to. -/
set_option linter.unusedSimpArgs false
set_option linter.unusedVariables false
namespace Go.Sky
set_option maxRecDepth 100000

/-! num.Root, block 0 -/
def st_num_Root_0 (n : Int) (r : Int) (x1 x2 x4 x5 x6 x7 x8 x9 x10 x11 x12 x13 x14 x15 x16 x17 x18 x19 x20 x21 x22 x23 : AV) (h : AH) : St := ⟨[.int .u64 false n, x1, x2, .int .u64 false r, x4, x5, x6, x7, x8, x9, x10, x11, x12, x13, x14, x15, x16, x17, x18, x19, x20, x21, x22, x23], h⟩
def kl_num_Root_0 (n : Int) (r : Int) (x1 x2 x4 x5 x6 x7 x8 x9 x10 x11 x12 x13 x14 x15 x16 x17 x18 x19 x20 x21 x22 x23 : AV) (h : AH) : List AV := [untag (.int .u64 false n), untag x1, .undef, .undef, .undef, untag x5, untag x6, untag x7, untag x8, untag x9, untag x10, untag x11, .undef, .undef, .undef, .undef, .undef, .undef, .undef, .undef, .undef, .undef, .undef, .undef]
def sl_num_Root_0_1 (n : Int) (r : Int) (x1 x2 x4 x5 x6 x7 x8 x9 x10 x11 x12 x13 x14 x15 x16 x17 x18 x19 x20 x21 x22 x23 : AV) (h : AH) : St := ⟨[AV.int IntKind.u64 false n, x1, AV.int IntKind.i64 false (IntKind.i64.wrap r), AV.int IntKind.u64 false r, AV.int IntKind.u64 false (IntKind.u64.wrap ((IntKind.u64.wrap (r + IntKind.u64.wrap (n.tdiv r))).tdiv 2)), x5, x6, x7, x8, x9, x10, x11, AV.int IntKind.u64 false r, AV.int IntKind.u64 false n, AV.int IntKind.u64 false r, AV.int IntKind.u64 false (IntKind.u64.wrap (n.tdiv r)), AV.int IntKind.u64 false (IntKind.u64.wrap (r + IntKind.u64.wrap (n.tdiv r))), AV.int IntKind.u64 false (IntKind.u64.wrap ((IntKind.u64.wrap (r + IntKind.u64.wrap (n.tdiv r))).tdiv 2)), AV.int IntKind.u64 false (IntKind.u64.wrap ((IntKind.u64.wrap (r + IntKind.u64.wrap (n.tdiv r))).tdiv 2)), AV.int IntKind.u64 false r, AV.bool false (decide (IntKind.u64.wrap ((IntKind.u64.wrap (r + IntKind.u64.wrap (n.tdiv r))).tdiv 2) ≥ r)), AV.int IntKind.u64 false r, AV.int IntKind.i64 false (IntKind.i64.wrap r), x23], h⟩
def sl_num_Root_0_2 (n : Int) (r : Int) (x1 x2 x4 x5 x6 x7 x8 x9 x10 x11 x12 x13 x14 x15 x16 x17 x18 x19 x20 x21 x22 x23 : AV) (h : AH) : St := ⟨[AV.int IntKind.u64 false n, x1, x2, AV.int IntKind.u64 false (IntKind.u64.wrap ((IntKind.u64.wrap (r + IntKind.u64.wrap (n.tdiv r))).tdiv 2)), AV.int IntKind.u64 false (IntKind.u64.wrap ((IntKind.u64.wrap (r + IntKind.u64.wrap (n.tdiv r))).tdiv 2)), x5, x6, x7, x8, x9, x10, x11, AV.int IntKind.u64 false r, AV.int IntKind.u64 false n, AV.int IntKind.u64 false r, AV.int IntKind.u64 false (IntKind.u64.wrap (n.tdiv r)), AV.int IntKind.u64 false (IntKind.u64.wrap (r + IntKind.u64.wrap (n.tdiv r))), AV.int IntKind.u64 false (IntKind.u64.wrap ((IntKind.u64.wrap (r + IntKind.u64.wrap (n.tdiv r))).tdiv 2)), AV.int IntKind.u64 false (IntKind.u64.wrap ((IntKind.u64.wrap (r + IntKind.u64.wrap (n.tdiv r))).tdiv 2)), AV.int IntKind.u64 false r, AV.bool false (decide (IntKind.u64.wrap ((IntKind.u64.wrap (r + IntKind.u64.wrap (n.tdiv r))).tdiv 2) ≥ r)), x21, x22, AV.int IntKind.u64 false (IntKind.u64.wrap ((IntKind.u64.wrap (r + IntKind.u64.wrap (n.tdiv r))).tdiv 2))], h⟩
def rd_num_Root_0 (n : Int) (r : Int) (x1 x2 x4 x5 x6 x7 x8 x9 x10 x11 x12 x13 x14 x15 x16 x17 x18 x19 x20 x21 x22 x23 : AV) (h : AH) : Tr (Ex × St) := Tr.node (decide (r = 0)) (Tr.bad) (Tr.node (decide (IntKind.u64.wrap ((IntKind.u64.wrap (r + IntKind.u64.wrap (n.tdiv r))).tdiv 2) ≥ r)) (Tr.leaf (Ex.ret, sl_num_Root_0_1 n r x1 x2 x4 x5 x6 x7 x8 x9 x10 x11 x12 x13 x14 x15 x16 x17 x18 x19 x20 x21 x22 x23 h)) (Tr.leaf (Ex.normal, sl_num_Root_0_2 n r x1 x2 x4 x5 x6 x7 x8 x9 x10 x11 x12 x13 x14 x15 x16 x17 x18 x19 x20 x21 x22 x23 h)))
def g_num_Root_0 : PieceTold := fun l h => match l with | [.int .u64 false n, .int .u64 false r] => .node (decide (0 < n ∧ n ≤ 18446744073709551615 ∧ isq n ≤ r ∧ 0 < r ∧ r ≤ 4294967296)) (.leaf (.ret, [(2, i6 (isq n))], h)) .bad | _ => .bad
def HR_num_Root_0 (rnd : Nat → St → Tr (Ex × St)) : Prop := ∀ L (n : Int) (r : Int) (x1 x2 x4 x5 x6 x7 x8 x9 x10 x11 x12 x13 x14 x15 x16 x17 x18 x19 x20 x21 x22 x23 : AV) (h : AH), rnd L (st_num_Root_0 n r x1 x2 x4 x5 x6 x7 x8 x9 x10 x11 x12 x13 x14 x15 x16 x17 x18 x19 x20 x21 x22 x23 h) = rd_num_Root_0 n r x1 x2 x4 x5 x6 x7 x8 x9 x10 x11 x12 x13 x14 x15 x16 x17 x18 x19 x20 x21 x22 x23 h
/-- From here the loop ends so. -/
def Fin_num_Root_0 (rnd : Nat → St → Tr (Ex × St)) (n : Int) (r : Int) (e : Ex) (outs : List (Nat × AV)) (hp : AH → AH) : Prop := ∀ (x1 x2 x4 x5 x6 x7 x8 x9 x10 x11 x12 x13 x14 x15 x16 x17 x18 x19 x20 x21 x22 x23 : AV) (h : AH),
    ∃ N s', (∀ L, (loopIterG none (rnd L) (N + 1) (st_num_Root_0 n r x1 x2 x4 x5 x6 x7 x8 x9 x10 x11 x12 x13 x14 x15 x16 x17 x18 x19 x20 x21 x22 x23 h)).run = some (e, s')) ∧ Leaves none 24 [2, 3, 4, 12, 13, 14, 15, 16, 17, 18, 19, 20, 21, 22, 23] (st_num_Root_0 n r x1 x2 x4 x5 x6 x7 x8 x9 x10 x11 x12 x13 x14 x15 x16 x17 x18 x19 x20 x21 x22 x23 h).tmps outs (hp h) s'
theorem stop_num_Root_0_1 {rnd : Nat → St → Tr (Ex × St)} (hr : HR_num_Root_0 rnd) (n : Int) (r : Int) (c0 : (decide (r = 0)) = false) (c1 : (decide (IntKind.u64.wrap ((IntKind.u64.wrap (r + IntKind.u64.wrap (n.tdiv r))).tdiv 2) ≥ r)) = true) {outs : List (Nat × AV)} {hp : AH → AH} (ho : ∀ (x1 x2 x4 x5 x6 x7 x8 x9 x10 x11 x12 x13 x14 x15 x16 x17 x18 x19 x20 x21 x22 x23 : AV) (h : AH), outs.map (fun p => untag ((sl_num_Root_0_1 n r x1 x2 x4 x5 x6 x7 x8 x9 x10 x11 x12 x13 x14 x15 x16 x17 x18 x19 x20 x21 x22 x23 h).tmps.getD p.1 .undef)) = outs.map (fun p => untag p.2)) (hh : ∀ h : AH, (h).map untagL = (hp h).map untagL) : Fin_num_Root_0 rnd n r (.ret) outs hp := by
  intro x1 x2 x4 x5 x6 x7 x8 x9 x10 x11 x12 x13 x14 x15 x16 x17 x18 x19 x20 x21 x22 x23 h
  refine ⟨0, gcSt none (sl_num_Root_0_1 n r x1 x2 x4 x5 x6 x7 x8 x9 x10 x11 x12 x13 x14 x15 x16 x17 x18 x19 x20 x21 x22 x23 h), fun L => ?_, Leaves.stop (s1 := sl_num_Root_0_1 n r x1 x2 x4 x5 x6 x7 x8 x9 x10 x11 x12 x13 x14 x15 x16 x17 x18 x19 x20 x21 x22 x23 h) (hh h) rfl (ho x1 x2 x4 x5 x6 x7 x8 x9 x10 x11 x12 x13 x14 x15 x16 x17 x18 x19 x20 x21 x22 x23 h) ((show _ = kl_num_Root_0 n r x1 x2 x4 x5 x6 x7 x8 x9 x10 x11 x12 x13 x14 x15 x16 x17 x18 x19 x20 x21 x22 x23 h from rfl).trans (show kl_num_Root_0 n r x1 x2 x4 x5 x6 x7 x8 x9 x10 x11 x12 x13 x14 x15 x16 x17 x18 x19 x20 x21 x22 x23 h = _ from rfl))⟩
  rw [loopIterG, hr L n r x1 x2 x4 x5 x6 x7 x8 x9 x10 x11 x12 x13 x14 x15 x16 x17 x18 x19 x20 x21 x22 x23 h, Tr.run_bind, show (rd_num_Root_0 n r x1 x2 x4 x5 x6 x7 x8 x9 x10 x11 x12 x13 x14 x15 x16 x17 x18 x19 x20 x21 x22 x23 h).run = some (.ret, sl_num_Root_0_1 n r x1 x2 x4 x5 x6 x7 x8 x9 x10 x11 x12 x13 x14 x15 x16 x17 x18 x19 x20 x21 x22 x23 h) from (run_f c0).trans ((run_t c1).trans (rfl))]
  rfl
theorem step_num_Root_0_2 {rnd : Nat → St → Tr (Ex × St)} (hr : HR_num_Root_0 rnd) (n : Int) (r : Int) (c0 : (decide (r = 0)) = false) (c1 : (decide (IntKind.u64.wrap ((IntKind.u64.wrap (r + IntKind.u64.wrap (n.tdiv r))).tdiv 2) ≥ r)) = false) {e : Ex} {outs : List (Nat × AV)} {hp : AH → AH} (hn : Fin_num_Root_0 rnd (n) ((IntKind.u64.wrap ((IntKind.u64.wrap (r + IntKind.u64.wrap (n.tdiv r))).tdiv 2))) e outs hp) : Fin_num_Root_0 rnd n r e outs hp := by
  intro x1 x2 x4 x5 x6 x7 x8 x9 x10 x11 x12 x13 x14 x15 x16 x17 x18 x19 x20 x21 x22 x23 h
  obtain ⟨N, s', h1, h2⟩ := hn (x1) (x2) (AV.int IntKind.u64 false (IntKind.u64.wrap ((IntKind.u64.wrap (r + IntKind.u64.wrap (n.tdiv r))).tdiv 2))) (x5) (x6) (x7) (x8) (x9) (x10) (x11) (AV.int IntKind.u64 false r) (AV.int IntKind.u64 false n) (AV.int IntKind.u64 false r) (AV.int IntKind.u64 false (IntKind.u64.wrap (n.tdiv r))) (AV.int IntKind.u64 false (IntKind.u64.wrap (r + IntKind.u64.wrap (n.tdiv r)))) (AV.int IntKind.u64 false (IntKind.u64.wrap ((IntKind.u64.wrap (r + IntKind.u64.wrap (n.tdiv r))).tdiv 2))) (AV.int IntKind.u64 false (IntKind.u64.wrap ((IntKind.u64.wrap (r + IntKind.u64.wrap (n.tdiv r))).tdiv 2))) (AV.int IntKind.u64 false r) (AV.bool false (decide (IntKind.u64.wrap ((IntKind.u64.wrap (r + IntKind.u64.wrap (n.tdiv r))).tdiv 2) ≥ r))) (x21) (x22) (AV.int IntKind.u64 false (IntKind.u64.wrap ((IntKind.u64.wrap (r + IntKind.u64.wrap (n.tdiv r))).tdiv 2))) h
  refine ⟨N + 1, s', fun L => ?_, h2.of (s1 := sl_num_Root_0_2 n r x1 x2 x4 x5 x6 x7 x8 x9 x10 x11 x12 x13 x14 x15 x16 x17 x18 x19 x20 x21 x22 x23 h) rfl ((show _ = kl_num_Root_0 n r x1 x2 x4 x5 x6 x7 x8 x9 x10 x11 x12 x13 x14 x15 x16 x17 x18 x19 x20 x21 x22 x23 h from rfl).trans (show kl_num_Root_0 n r x1 x2 x4 x5 x6 x7 x8 x9 x10 x11 x12 x13 x14 x15 x16 x17 x18 x19 x20 x21 x22 x23 h = _ from rfl))⟩
  rw [loopIterG, hr L n r x1 x2 x4 x5 x6 x7 x8 x9 x10 x11 x12 x13 x14 x15 x16 x17 x18 x19 x20 x21 x22 x23 h, Tr.run_bind, show (rd_num_Root_0 n r x1 x2 x4 x5 x6 x7 x8 x9 x10 x11 x12 x13 x14 x15 x16 x17 x18 x19 x20 x21 x22 x23 h).run = some (.normal, sl_num_Root_0_2 n r x1 x2 x4 x5 x6 x7 x8 x9 x10 x11 x12 x13 x14 x15 x16 x17 x18 x19 x20 x21 x22 x23 h) from (run_f c0).trans ((run_f c1).trans (rfl))]
  exact h1 L
theorem core_num_Root_0 (rnd : Nat → St → Tr (Ex × St)) (hr : HR_num_Root_0 rnd) : ∀ (n : Int) (r : Int), 0 < n ∧ n ≤ 18446744073709551615 ∧ isq n ≤ r ∧ 0 < r ∧ r ≤ 4294967296 → Fin_num_Root_0 rnd n r (.ret) [(2, i6 (isq n))] (fun h => h) := by
  have key : ∀ (m : Nat) (n r : Int), r.toNat = m → 0 < n ∧ n ≤ 18446744073709551615 ∧ isq n ≤ r ∧ 0 < r ∧ r ≤ 4294967296 → Fin_num_Root_0 rnd n r .ret [(2, i6 (isq n))] (fun h => h) := by
    intro m
    induction m using Nat.strongRecOn with
    | _ m ih =>
      intro n r hm ⟨h1, h2, h3, h4, h5⟩
      obtain ⟨s0, s1, s2, s3⟩ := isq_spec (n := n) (by omega) (by omega)
      obtain ⟨nw1, nw2⟩ := newton s0 s2 s3 h4 h3
      have hs1 : 1 ≤ isq n := by
        rcases (show isq n = 0 ∨ 1 ≤ isq n by omega) with e | e
        · rw [e] at s3; omega
        · exact e
      have hq := div_small s0 s3 h4 h3 hs1
      have hq0 : 0 ≤ n / r := Int.ediv_nonneg (by omega) (by omega)
      have s4 := isq_32 (n := n) (by omega) (by omega)
      have e1 : n.tdiv r = n / r := Int.tdiv_eq_ediv_of_nonneg (by omega)
      have e2 : IntKind.u64.wrap (n.tdiv r) = n / r := by rw [e1]; exact wrap_u64_id (by omega)
      have e3 : IntKind.u64.wrap (r + n / r) = r + n / r := wrap_u64_id (by omega)
      have e4 : (r + n / r).tdiv 2 = (r + n / r) / 2 := Int.tdiv_eq_ediv_of_nonneg (by omega)
      have e5 : IntKind.u64.wrap ((r + n / r) / 2) = (r + n / r) / 2 := wrap_u64_id (by omega)
      have c0 : decide (r = 0) = false := decide_eq_false (by omega)
      by_cases hc : (r + n / r) / 2 ≥ r
      · have hr' := nw2 hc
        refine stop_num_Root_0_1 hr n r c0 (by rw [e2, e3, e4, e5]; exact decide_eq_true hc) ?_ (fun h => rfl)
        intros
        simp only [sl_num_Root_0_1, List.map_cons, List.map_nil, List.getD_cons_succ, List.getD_cons_zero, untag, i6]
        rw [wrap_i64_id (by omega), ← hr']
      · refine step_num_Root_0_2 hr n r c0 (by rw [e2, e3, e4, e5]; exact decide_eq_false hc) ?_
        rw [e2, e3, e4, e5]
        exact ih _ (by omega) n _ rfl ⟨h1, h2, nw1, by omega, by omega⟩
  exact fun n r hc => key _ n r rfl hc
theorem piece_num_Root_0 {P : Program} {T : Table} {O' : Known} {f : FuncId} (hb : blockOf P f 0 = .loop (loopOf P f 0)) (hid : O' 0 = none)
    (hr : HR_num_Root_0 (fun L => evCode P (evCall P T 16 4) L O' (loopOf P f 0))) :
    ∀ (s : St) (e : Ex) (outs : List (Nat × AV)) (hp : AH), s.tmps.length = 24 → (g_num_Root_0 (([0, 3] : List Nat).map fun j => untag (s.tmps.getD j .undef)) (s.heap.map untagL)).run = some (e, outs, hp) → ∃ s', Good P T O' f 0 24 [2, 3, 4, 12, 13, 14, 15, 16, 17, 18, 19, 20, 21, 22, 23] s e outs hp s' := by
  intro s e outs hp hk hg
  obtain ⟨tm, h⟩ := s
  have htm : untagL tm = [untag (tm.getD 0 .undef), untag (tm.getD 1 .undef), untag (tm.getD 2 .undef), untag (tm.getD 3 .undef), untag (tm.getD 4 .undef), untag (tm.getD 5 .undef), untag (tm.getD 6 .undef), untag (tm.getD 7 .undef), untag (tm.getD 8 .undef), untag (tm.getD 9 .undef), untag (tm.getD 10 .undef), untag (tm.getD 11 .undef), untag (tm.getD 12 .undef), untag (tm.getD 13 .undef), untag (tm.getD 14 .undef), untag (tm.getD 15 .undef), untag (tm.getD 16 .undef), untag (tm.getD 17 .undef), untag (tm.getD 18 .undef), untag (tm.getD 19 .undef), untag (tm.getD 20 .undef), untag (tm.getD 21 .undef), untag (tm.getD 22 .undef), untag (tm.getD 23 .undef)] := tmps_eq hk
  unfold g_num_Root_0 at hg
  simp only [List.map_cons, List.map_nil] at hg
  split at hg
  · rename_i n r heq
    simp only [List.cons.injEq, and_true] at heq
    obtain ⟨e0, e3⟩ := heq
    simp only [Tr.run] at hg
    split at hg
    · rename_i hc
      simp only [Option.some.injEq, Prod.mk.injEq] at hg
      obtain ⟨rfl, rfl, rfl⟩ := hg
      rw [e0, e3] at htm
      obtain ⟨N, s', h1, h2⟩ := core_num_Root_0 (fun L => evCode P (evCall P T 16 4) L O' (loopOf P f 0)) hr n r (of_decide_eq_true hc) (untag (tm.getD 1 .undef)) (untag (tm.getD 2 .undef)) (untag (tm.getD 4 .undef)) (untag (tm.getD 5 .undef)) (untag (tm.getD 6 .undef)) (untag (tm.getD 7 .undef)) (untag (tm.getD 8 .undef)) (untag (tm.getD 9 .undef)) (untag (tm.getD 10 .undef)) (untag (tm.getD 11 .undef)) (untag (tm.getD 12 .undef)) (untag (tm.getD 13 .undef)) (untag (tm.getD 14 .undef)) (untag (tm.getD 15 .undef)) (untag (tm.getD 16 .undef)) (untag (tm.getD 17 .undef)) (untag (tm.getD 18 .undef)) (untag (tm.getD 19 .undef)) (untag (tm.getD 20 .undef)) (untag (tm.getD 21 .undef)) (untag (tm.getD 22 .undef)) (untag (tm.getD 23 .undef)) (h.map untagL)
      exact ⟨s', good_loop (g := none) (e1 := .ret) hb (fun k e => by cases e) 16 4 N (by rw [htm]; exact h1) (by rw [htm]; exact h2)⟩
    · cases hg
  · cases hg

/-! num.Root -/
def tr_num_Root (n : Int) : Tr AV := Tr.node (n == 0) (Tr.leaf (AV.int IntKind.i64 false 0)) (Tr.node (decide (IntKind.i64.wrap ((IntKind.i64.wrap (↑(Lib.bitLen n.toNat) + 1)).tdiv 2) < 0)) Tr.bad (Tr.node (decide (0 < n ∧ n ≤ 18446744073709551615 ∧ isq n ≤ IntKind.u64.wrap (1 * 2 ^ min (IntKind.i64.wrap ((IntKind.i64.wrap (↑(Lib.bitLen n.toNat) + 1)).tdiv 2)).toNat 64) ∧ 0 < IntKind.u64.wrap (1 * 2 ^ min (IntKind.i64.wrap ((IntKind.i64.wrap (↑(Lib.bitLen n.toNat) + 1)).tdiv 2)).toNat 64) ∧ IntKind.u64.wrap (1 * 2 ^ min (IntKind.i64.wrap ((IntKind.i64.wrap (↑(Lib.bitLen n.toNat) + 1)).tdiv 2)).toNat 64) ≤ 4294967296)) (Tr.leaf (AV.int IntKind.i64 false (isq n))) Tr.bad))
theorem run_num_Root (n : Int) (h_n : InR .u64 n) : (tr_num_Root n).run = some (i6 (isq n)) := by
  unfold tr_num_Root
  have hn := inR_u64.1 h_n
  by_cases h0 : n = 0
  · subst h0; rfl
  · obtain ⟨r, e1, e2, e3, e4, e5⟩ := root_start (n := n) (by omega) (by omega)
    rw [e1]
    refine (run_f (by simpa using h0)).trans ((run_f (decide_eq_false e5)).trans (run_t (decide_eq_true ⟨by omega, by omega, e2, e3, e4⟩)))

/-! skylightref01.Root, block 0 -/
def st_skylightref01_Root_0 (n : Int) (r : Int) (i : Int) (x1 x2 x5 x6 x7 x8 x9 x10 x11 x12 x13 x14 x15 x16 x17 x18 x19 x20 x21 : AV) (h : AH) : St := ⟨[.int .u64 false n, x1, x2, .int .u64 false r, .int .i64 false i, x5, x6, x7, x8, x9, x10, x11, x12, x13, x14, x15, x16, x17, x18, x19, x20, x21], h⟩
def kl_skylightref01_Root_0 (n : Int) (r : Int) (i : Int) (x1 x2 x5 x6 x7 x8 x9 x10 x11 x12 x13 x14 x15 x16 x17 x18 x19 x20 x21 : AV) (h : AH) : List AV := [untag (.int .u64 false n), untag x1, untag x2, .undef, .undef, .undef, .undef, .undef, .undef, .undef, .undef, .undef, .undef, .undef, .undef, .undef, .undef, .undef, .undef, .undef, untag x20, untag x21]
def sl_skylightref01_Root_0_1 (n : Int) (r : Int) (i : Int) (x1 x2 x5 x6 x7 x8 x9 x10 x11 x12 x13 x14 x15 x16 x17 x18 x19 x20 x21 : AV) (h : AH) : St := ⟨[AV.int IntKind.u64 false n, x1, x2, AV.int IntKind.u64 false (IntKind.u64.wrap (r + IntKind.u64.wrap (1 * 2 ^ min i.toNat 64))), AV.int IntKind.i64 false (IntKind.i64.wrap (i - 1)), AV.int IntKind.u64 false (IntKind.u64.wrap (r + IntKind.u64.wrap (1 * 2 ^ min i.toNat 64))), AV.int IntKind.i64 false i, AV.bool false (decide (i ≥ 0)), AV.int IntKind.i64 false i, AV.int IntKind.i64 false (IntKind.i64.wrap (i - 1)), AV.int IntKind.u64 false r, AV.int IntKind.i64 false i, AV.int IntKind.u64 false (IntKind.u64.wrap (1 * 2 ^ min i.toNat 64)), AV.int IntKind.u64 false (IntKind.u64.wrap (r + IntKind.u64.wrap (1 * 2 ^ min i.toNat 64))), AV.int IntKind.u64 false (IntKind.u64.wrap (r + IntKind.u64.wrap (1 * 2 ^ min i.toNat 64))), AV.int IntKind.u64 false (IntKind.u64.wrap (r + IntKind.u64.wrap (1 * 2 ^ min i.toNat 64))), AV.int IntKind.u64 false (IntKind.u64.wrap (IntKind.u64.wrap (r + IntKind.u64.wrap (1 * 2 ^ min i.toNat 64)) * IntKind.u64.wrap (r + IntKind.u64.wrap (1 * 2 ^ min i.toNat 64)))), AV.int IntKind.u64 false n, AV.bool false (decide (IntKind.u64.wrap (IntKind.u64.wrap (r + IntKind.u64.wrap (1 * 2 ^ min i.toNat 64)) * IntKind.u64.wrap (r + IntKind.u64.wrap (1 * 2 ^ min i.toNat 64))) ≤ n)), AV.int IntKind.u64 false (IntKind.u64.wrap (r + IntKind.u64.wrap (1 * 2 ^ min i.toNat 64))), x20, x21], h⟩
def sl_skylightref01_Root_0_2 (n : Int) (r : Int) (i : Int) (x1 x2 x5 x6 x7 x8 x9 x10 x11 x12 x13 x14 x15 x16 x17 x18 x19 x20 x21 : AV) (h : AH) : St := ⟨[AV.int IntKind.u64 false n, x1, x2, AV.int IntKind.u64 false r, AV.int IntKind.i64 false (IntKind.i64.wrap (i - 1)), AV.int IntKind.u64 false (IntKind.u64.wrap (r + IntKind.u64.wrap (1 * 2 ^ min i.toNat 64))), AV.int IntKind.i64 false i, AV.bool false (decide (i ≥ 0)), AV.int IntKind.i64 false i, AV.int IntKind.i64 false (IntKind.i64.wrap (i - 1)), AV.int IntKind.u64 false r, AV.int IntKind.i64 false i, AV.int IntKind.u64 false (IntKind.u64.wrap (1 * 2 ^ min i.toNat 64)), AV.int IntKind.u64 false (IntKind.u64.wrap (r + IntKind.u64.wrap (1 * 2 ^ min i.toNat 64))), AV.int IntKind.u64 false (IntKind.u64.wrap (r + IntKind.u64.wrap (1 * 2 ^ min i.toNat 64))), AV.int IntKind.u64 false (IntKind.u64.wrap (r + IntKind.u64.wrap (1 * 2 ^ min i.toNat 64))), AV.int IntKind.u64 false (IntKind.u64.wrap (IntKind.u64.wrap (r + IntKind.u64.wrap (1 * 2 ^ min i.toNat 64)) * IntKind.u64.wrap (r + IntKind.u64.wrap (1 * 2 ^ min i.toNat 64)))), AV.int IntKind.u64 false n, AV.bool false (decide (IntKind.u64.wrap (IntKind.u64.wrap (r + IntKind.u64.wrap (1 * 2 ^ min i.toNat 64)) * IntKind.u64.wrap (r + IntKind.u64.wrap (1 * 2 ^ min i.toNat 64))) ≤ n)), x19, x20, x21], h⟩
def sl_skylightref01_Root_0_3 (n : Int) (r : Int) (i : Int) (x1 x2 x5 x6 x7 x8 x9 x10 x11 x12 x13 x14 x15 x16 x17 x18 x19 x20 x21 : AV) (h : AH) : St := ⟨[AV.int IntKind.u64 false n, x1, x2, AV.int IntKind.u64 false r, AV.int IntKind.i64 false i, x5, AV.int IntKind.i64 false i, AV.bool false (decide (i ≥ 0)), x8, x9, x10, x11, x12, x13, x14, x15, x16, x17, x18, x19, x20, x21], h⟩
def rd_skylightref01_Root_0 (n : Int) (r : Int) (i : Int) (x1 x2 x5 x6 x7 x8 x9 x10 x11 x12 x13 x14 x15 x16 x17 x18 x19 x20 x21 : AV) (h : AH) : Tr (Ex × St) := Tr.node (decide (i ≥ 0)) (Tr.node (decide (i < 0)) (Tr.bad) (Tr.node (decide (IntKind.u64.wrap (IntKind.u64.wrap (r + IntKind.u64.wrap (1 * 2 ^ min i.toNat 64)) * IntKind.u64.wrap (r + IntKind.u64.wrap (1 * 2 ^ min i.toNat 64))) ≤ n)) (Tr.leaf (Ex.normal, sl_skylightref01_Root_0_1 n r i x1 x2 x5 x6 x7 x8 x9 x10 x11 x12 x13 x14 x15 x16 x17 x18 x19 x20 x21 h)) (Tr.leaf (Ex.normal, sl_skylightref01_Root_0_2 n r i x1 x2 x5 x6 x7 x8 x9 x10 x11 x12 x13 x14 x15 x16 x17 x18 x19 x20 x21 h)))) (Tr.leaf (Ex.exit 0, sl_skylightref01_Root_0_3 n r i x1 x2 x5 x6 x7 x8 x9 x10 x11 x12 x13 x14 x15 x16 x17 x18 x19 x20 x21 h))
def g_skylightref01_Root_0 : PieceTold := fun l h => match l with | [.int .u64 false n, .int .u64 false r, .int .i64 false i] => .node (decide (0 ≤ n ∧ n ≤ 18446744073709551615 ∧ 0 ≤ r ∧ -1 ≤ i ∧ i ≤ 31 ∧ r + 2 ^ (i + 1).toNat ≤ 4294967296)) (.leaf (.normal, [(3, u6 (isqGo (i + 1).toNat n r))], h)) .bad | _ => .bad
def HR_skylightref01_Root_0 (rnd : Nat → St → Tr (Ex × St)) : Prop := ∀ L (n : Int) (r : Int) (i : Int) (x1 x2 x5 x6 x7 x8 x9 x10 x11 x12 x13 x14 x15 x16 x17 x18 x19 x20 x21 : AV) (h : AH), rnd L (st_skylightref01_Root_0 n r i x1 x2 x5 x6 x7 x8 x9 x10 x11 x12 x13 x14 x15 x16 x17 x18 x19 x20 x21 h) = rd_skylightref01_Root_0 n r i x1 x2 x5 x6 x7 x8 x9 x10 x11 x12 x13 x14 x15 x16 x17 x18 x19 x20 x21 h
/-- From here the loop ends so. -/
def Fin_skylightref01_Root_0 (rnd : Nat → St → Tr (Ex × St)) (n : Int) (r : Int) (i : Int) (e : Ex) (outs : List (Nat × AV)) (hp : AH → AH) : Prop := ∀ (x1 x2 x5 x6 x7 x8 x9 x10 x11 x12 x13 x14 x15 x16 x17 x18 x19 x20 x21 : AV) (h : AH),
    ∃ N s', (∀ L, (loopIterG none (rnd L) (N + 1) (st_skylightref01_Root_0 n r i x1 x2 x5 x6 x7 x8 x9 x10 x11 x12 x13 x14 x15 x16 x17 x18 x19 x20 x21 h)).run = some (e, s')) ∧ Leaves none 22 [3, 4, 5, 6, 7, 8, 9, 10, 11, 12, 13, 14, 15, 16, 17, 18, 19] (st_skylightref01_Root_0 n r i x1 x2 x5 x6 x7 x8 x9 x10 x11 x12 x13 x14 x15 x16 x17 x18 x19 x20 x21 h).tmps outs (hp h) s'
theorem step_skylightref01_Root_0_1 {rnd : Nat → St → Tr (Ex × St)} (hr : HR_skylightref01_Root_0 rnd) (n : Int) (r : Int) (i : Int) (c0 : (decide (i ≥ 0)) = true) (c1 : (decide (i < 0)) = false) (c2 : (decide (IntKind.u64.wrap (IntKind.u64.wrap (r + IntKind.u64.wrap (1 * 2 ^ min i.toNat 64)) * IntKind.u64.wrap (r + IntKind.u64.wrap (1 * 2 ^ min i.toNat 64))) ≤ n)) = true) {e : Ex} {outs : List (Nat × AV)} {hp : AH → AH} (hn : Fin_skylightref01_Root_0 rnd (n) ((IntKind.u64.wrap (r + IntKind.u64.wrap (1 * 2 ^ min i.toNat 64)))) ((IntKind.i64.wrap (i - 1))) e outs hp) : Fin_skylightref01_Root_0 rnd n r i e outs hp := by
  intro x1 x2 x5 x6 x7 x8 x9 x10 x11 x12 x13 x14 x15 x16 x17 x18 x19 x20 x21 h
  obtain ⟨N, s', h1, h2⟩ := hn (x1) (x2) (AV.int IntKind.u64 false (IntKind.u64.wrap (r + IntKind.u64.wrap (1 * 2 ^ min i.toNat 64)))) (AV.int IntKind.i64 false i) (AV.bool false (decide (i ≥ 0))) (AV.int IntKind.i64 false i) (AV.int IntKind.i64 false (IntKind.i64.wrap (i - 1))) (AV.int IntKind.u64 false r) (AV.int IntKind.i64 false i) (AV.int IntKind.u64 false (IntKind.u64.wrap (1 * 2 ^ min i.toNat 64))) (AV.int IntKind.u64 false (IntKind.u64.wrap (r + IntKind.u64.wrap (1 * 2 ^ min i.toNat 64)))) (AV.int IntKind.u64 false (IntKind.u64.wrap (r + IntKind.u64.wrap (1 * 2 ^ min i.toNat 64)))) (AV.int IntKind.u64 false (IntKind.u64.wrap (r + IntKind.u64.wrap (1 * 2 ^ min i.toNat 64)))) (AV.int IntKind.u64 false (IntKind.u64.wrap (IntKind.u64.wrap (r + IntKind.u64.wrap (1 * 2 ^ min i.toNat 64)) * IntKind.u64.wrap (r + IntKind.u64.wrap (1 * 2 ^ min i.toNat 64))))) (AV.int IntKind.u64 false n) (AV.bool false (decide (IntKind.u64.wrap (IntKind.u64.wrap (r + IntKind.u64.wrap (1 * 2 ^ min i.toNat 64)) * IntKind.u64.wrap (r + IntKind.u64.wrap (1 * 2 ^ min i.toNat 64))) ≤ n))) (AV.int IntKind.u64 false (IntKind.u64.wrap (r + IntKind.u64.wrap (1 * 2 ^ min i.toNat 64)))) (x20) (x21) h
  refine ⟨N + 1, s', fun L => ?_, h2.of (s1 := sl_skylightref01_Root_0_1 n r i x1 x2 x5 x6 x7 x8 x9 x10 x11 x12 x13 x14 x15 x16 x17 x18 x19 x20 x21 h) rfl ((show _ = kl_skylightref01_Root_0 n r i x1 x2 x5 x6 x7 x8 x9 x10 x11 x12 x13 x14 x15 x16 x17 x18 x19 x20 x21 h from rfl).trans (show kl_skylightref01_Root_0 n r i x1 x2 x5 x6 x7 x8 x9 x10 x11 x12 x13 x14 x15 x16 x17 x18 x19 x20 x21 h = _ from rfl))⟩
  rw [loopIterG, hr L n r i x1 x2 x5 x6 x7 x8 x9 x10 x11 x12 x13 x14 x15 x16 x17 x18 x19 x20 x21 h, Tr.run_bind, show (rd_skylightref01_Root_0 n r i x1 x2 x5 x6 x7 x8 x9 x10 x11 x12 x13 x14 x15 x16 x17 x18 x19 x20 x21 h).run = some (.normal, sl_skylightref01_Root_0_1 n r i x1 x2 x5 x6 x7 x8 x9 x10 x11 x12 x13 x14 x15 x16 x17 x18 x19 x20 x21 h) from (run_t c0).trans ((run_f c1).trans ((run_t c2).trans (rfl)))]
  exact h1 L
theorem step_skylightref01_Root_0_2 {rnd : Nat → St → Tr (Ex × St)} (hr : HR_skylightref01_Root_0 rnd) (n : Int) (r : Int) (i : Int) (c0 : (decide (i ≥ 0)) = true) (c1 : (decide (i < 0)) = false) (c2 : (decide (IntKind.u64.wrap (IntKind.u64.wrap (r + IntKind.u64.wrap (1 * 2 ^ min i.toNat 64)) * IntKind.u64.wrap (r + IntKind.u64.wrap (1 * 2 ^ min i.toNat 64))) ≤ n)) = false) {e : Ex} {outs : List (Nat × AV)} {hp : AH → AH} (hn : Fin_skylightref01_Root_0 rnd (n) (r) ((IntKind.i64.wrap (i - 1))) e outs hp) : Fin_skylightref01_Root_0 rnd n r i e outs hp := by
  intro x1 x2 x5 x6 x7 x8 x9 x10 x11 x12 x13 x14 x15 x16 x17 x18 x19 x20 x21 h
  obtain ⟨N, s', h1, h2⟩ := hn (x1) (x2) (AV.int IntKind.u64 false (IntKind.u64.wrap (r + IntKind.u64.wrap (1 * 2 ^ min i.toNat 64)))) (AV.int IntKind.i64 false i) (AV.bool false (decide (i ≥ 0))) (AV.int IntKind.i64 false i) (AV.int IntKind.i64 false (IntKind.i64.wrap (i - 1))) (AV.int IntKind.u64 false r) (AV.int IntKind.i64 false i) (AV.int IntKind.u64 false (IntKind.u64.wrap (1 * 2 ^ min i.toNat 64))) (AV.int IntKind.u64 false (IntKind.u64.wrap (r + IntKind.u64.wrap (1 * 2 ^ min i.toNat 64)))) (AV.int IntKind.u64 false (IntKind.u64.wrap (r + IntKind.u64.wrap (1 * 2 ^ min i.toNat 64)))) (AV.int IntKind.u64 false (IntKind.u64.wrap (r + IntKind.u64.wrap (1 * 2 ^ min i.toNat 64)))) (AV.int IntKind.u64 false (IntKind.u64.wrap (IntKind.u64.wrap (r + IntKind.u64.wrap (1 * 2 ^ min i.toNat 64)) * IntKind.u64.wrap (r + IntKind.u64.wrap (1 * 2 ^ min i.toNat 64))))) (AV.int IntKind.u64 false n) (AV.bool false (decide (IntKind.u64.wrap (IntKind.u64.wrap (r + IntKind.u64.wrap (1 * 2 ^ min i.toNat 64)) * IntKind.u64.wrap (r + IntKind.u64.wrap (1 * 2 ^ min i.toNat 64))) ≤ n))) (x19) (x20) (x21) h
  refine ⟨N + 1, s', fun L => ?_, h2.of (s1 := sl_skylightref01_Root_0_2 n r i x1 x2 x5 x6 x7 x8 x9 x10 x11 x12 x13 x14 x15 x16 x17 x18 x19 x20 x21 h) rfl ((show _ = kl_skylightref01_Root_0 n r i x1 x2 x5 x6 x7 x8 x9 x10 x11 x12 x13 x14 x15 x16 x17 x18 x19 x20 x21 h from rfl).trans (show kl_skylightref01_Root_0 n r i x1 x2 x5 x6 x7 x8 x9 x10 x11 x12 x13 x14 x15 x16 x17 x18 x19 x20 x21 h = _ from rfl))⟩
  rw [loopIterG, hr L n r i x1 x2 x5 x6 x7 x8 x9 x10 x11 x12 x13 x14 x15 x16 x17 x18 x19 x20 x21 h, Tr.run_bind, show (rd_skylightref01_Root_0 n r i x1 x2 x5 x6 x7 x8 x9 x10 x11 x12 x13 x14 x15 x16 x17 x18 x19 x20 x21 h).run = some (.normal, sl_skylightref01_Root_0_2 n r i x1 x2 x5 x6 x7 x8 x9 x10 x11 x12 x13 x14 x15 x16 x17 x18 x19 x20 x21 h) from (run_t c0).trans ((run_f c1).trans ((run_f c2).trans (rfl)))]
  exact h1 L
theorem stop_skylightref01_Root_0_3 {rnd : Nat → St → Tr (Ex × St)} (hr : HR_skylightref01_Root_0 rnd) (n : Int) (r : Int) (i : Int) (c0 : (decide (i ≥ 0)) = false) {outs : List (Nat × AV)} {hp : AH → AH} (ho : ∀ (x1 x2 x5 x6 x7 x8 x9 x10 x11 x12 x13 x14 x15 x16 x17 x18 x19 x20 x21 : AV) (h : AH), outs.map (fun p => untag ((sl_skylightref01_Root_0_3 n r i x1 x2 x5 x6 x7 x8 x9 x10 x11 x12 x13 x14 x15 x16 x17 x18 x19 x20 x21 h).tmps.getD p.1 .undef)) = outs.map (fun p => untag p.2)) (hh : ∀ h : AH, (h).map untagL = (hp h).map untagL) : Fin_skylightref01_Root_0 rnd n r i (.exit 0) outs hp := by
  intro x1 x2 x5 x6 x7 x8 x9 x10 x11 x12 x13 x14 x15 x16 x17 x18 x19 x20 x21 h
  refine ⟨0, gcSt none (sl_skylightref01_Root_0_3 n r i x1 x2 x5 x6 x7 x8 x9 x10 x11 x12 x13 x14 x15 x16 x17 x18 x19 x20 x21 h), fun L => ?_, Leaves.stop (s1 := sl_skylightref01_Root_0_3 n r i x1 x2 x5 x6 x7 x8 x9 x10 x11 x12 x13 x14 x15 x16 x17 x18 x19 x20 x21 h) (hh h) rfl (ho x1 x2 x5 x6 x7 x8 x9 x10 x11 x12 x13 x14 x15 x16 x17 x18 x19 x20 x21 h) ((show _ = kl_skylightref01_Root_0 n r i x1 x2 x5 x6 x7 x8 x9 x10 x11 x12 x13 x14 x15 x16 x17 x18 x19 x20 x21 h from rfl).trans (show kl_skylightref01_Root_0 n r i x1 x2 x5 x6 x7 x8 x9 x10 x11 x12 x13 x14 x15 x16 x17 x18 x19 x20 x21 h = _ from rfl))⟩
  rw [loopIterG, hr L n r i x1 x2 x5 x6 x7 x8 x9 x10 x11 x12 x13 x14 x15 x16 x17 x18 x19 x20 x21 h, Tr.run_bind, show (rd_skylightref01_Root_0 n r i x1 x2 x5 x6 x7 x8 x9 x10 x11 x12 x13 x14 x15 x16 x17 x18 x19 x20 x21 h).run = some (.exit 0, sl_skylightref01_Root_0_3 n r i x1 x2 x5 x6 x7 x8 x9 x10 x11 x12 x13 x14 x15 x16 x17 x18 x19 x20 x21 h) from (run_f c0).trans (rfl)]
  rfl
theorem core_skylightref01_Root_0 (rnd : Nat → St → Tr (Ex × St)) (hr : HR_skylightref01_Root_0 rnd) : ∀ (n : Int) (r : Int) (i : Int), 0 ≤ n ∧ n ≤ 18446744073709551615 ∧ 0 ≤ r ∧ -1 ≤ i ∧ i ≤ 31 ∧ r + 2 ^ (i + 1).toNat ≤ 4294967296 → Fin_skylightref01_Root_0 rnd n r i (.exit 0) [(3, u6 (isqGo (i + 1).toNat n r))] (fun h => h) := by
  have key : ∀ (m : Nat) (n r i : Int), (i + 1).toNat = m → 0 ≤ n ∧ n ≤ 18446744073709551615 ∧ 0 ≤ r ∧ -1 ≤ i ∧ i ≤ 31 ∧ r + 2 ^ (i + 1).toNat ≤ 4294967296 → Fin_skylightref01_Root_0 rnd n r i (.exit 0) [(3, u6 (isqGo (i + 1).toNat n r))] (fun h => h) := by
    intro m
    induction m with
    | zero =>
      intro n r i hm ⟨h1, h2, h3, h4, h5, h6⟩
      refine stop_skylightref01_Root_0_3 hr n r i (decide_eq_false (by omega)) ?_ (fun h => rfl)
      intros
      rw [hm]; rfl
    | succ m ih =>
      intro n r i hm ⟨h1, h2, h3, h4, h5, h6⟩
      have hi : i.toNat = m := by omega
      rw [hm] at h6 ⊢
      have hp : (0 : Int) < 2 ^ m := Int.pow_pos (by decide)
      have hpe : (2 : Int) ^ (m + 1) = 2 ^ m + 2 ^ m := by rw [Int.pow_succ]; omega
      have e1 : IntKind.u64.wrap (1 * 2 ^ min i.toNat 64) = 2 ^ m := by rw [hi, show min m 64 = m by omega, Int.one_mul]; exact wrap_u64_id (by omega)
      have e2 : IntKind.u64.wrap (r + 2 ^ m) = r + 2 ^ m := wrap_u64_id (by omega)
      have e3 : IntKind.u64.wrap ((r + 2 ^ m) * (r + 2 ^ m)) = (r + 2 ^ m) * (r + 2 ^ m) := by
        have a : (r + 2 ^ m) * (r + 2 ^ m) ≤ 4294967295 * 4294967295 := Int.mul_le_mul (by omega) (by omega) (by omega) (by omega)
        have b : 0 ≤ (r + 2 ^ m) * (r + 2 ^ m) := Int.mul_nonneg (by omega) (by omega)
        exact wrap_u64_id (by omega)
      have e4 : IntKind.i64.wrap (i - 1) = i - 1 := wrap_i64_id (by omega)
      have hi' : (i - 1 + 1).toNat = m := by omega
      have ee : ∀ x, isqGo (i - 1 + 1).toNat n x = isqGo m n x := fun x => by rw [hi']
      by_cases hc : (r + 2 ^ m) * (r + 2 ^ m) ≤ n
      · refine step_skylightref01_Root_0_1 hr n r i (decide_eq_true (by omega)) (decide_eq_false (by omega)) (by rw [e1, e2, e3]; exact decide_eq_true hc) ?_
        rw [e1, e2, e4]
        have := ih n (r + 2 ^ m) (i - 1) hi' ⟨h1, h2, by omega, by omega, by omega, by rw [hi']; omega⟩
        rw [ee] at this
        rw [show isqGo (m + 1) n r = isqGo m n (r + 2 ^ m) by simp only [isqGo]; rw [if_pos hc]]
        exact this
      · refine step_skylightref01_Root_0_2 hr n r i (decide_eq_true (by omega)) (decide_eq_false (by omega)) (by rw [e1, e2, e3]; exact decide_eq_false hc) ?_
        rw [e4]
        have := ih n r (i - 1) hi' ⟨h1, h2, by omega, by omega, by omega, by rw [hi']; omega⟩
        rw [ee] at this
        rw [show isqGo (m + 1) n r = isqGo m n r by simp only [isqGo]; rw [if_neg hc]]
        exact this
  exact fun n r i hc => key _ n r i rfl hc
theorem piece_skylightref01_Root_0 {P : Program} {T : Table} {O' : Known} {f : FuncId} (hb : blockOf P f 0 = .loop (loopOf P f 0)) (hid : O' 0 = none)
    (hr : HR_skylightref01_Root_0 (fun L => evCode P (evCall P T 16 4) L O' (loopOf P f 0))) :
    ∀ (s : St) (e : Ex) (outs : List (Nat × AV)) (hp : AH), s.tmps.length = 22 → (g_skylightref01_Root_0 (([0, 3, 4] : List Nat).map fun j => untag (s.tmps.getD j .undef)) (s.heap.map untagL)).run = some (e, outs, hp) → ∃ s', Good P T O' f 0 22 [3, 4, 5, 6, 7, 8, 9, 10, 11, 12, 13, 14, 15, 16, 17, 18, 19] s e outs hp s' := by
  intro s e outs hp hk hg
  obtain ⟨tm, h⟩ := s
  have htm : untagL tm = [untag (tm.getD 0 .undef), untag (tm.getD 1 .undef), untag (tm.getD 2 .undef), untag (tm.getD 3 .undef), untag (tm.getD 4 .undef), untag (tm.getD 5 .undef), untag (tm.getD 6 .undef), untag (tm.getD 7 .undef), untag (tm.getD 8 .undef), untag (tm.getD 9 .undef), untag (tm.getD 10 .undef), untag (tm.getD 11 .undef), untag (tm.getD 12 .undef), untag (tm.getD 13 .undef), untag (tm.getD 14 .undef), untag (tm.getD 15 .undef), untag (tm.getD 16 .undef), untag (tm.getD 17 .undef), untag (tm.getD 18 .undef), untag (tm.getD 19 .undef), untag (tm.getD 20 .undef), untag (tm.getD 21 .undef)] := tmps_eq hk
  unfold g_skylightref01_Root_0 at hg
  simp only [List.map_cons, List.map_nil] at hg
  split at hg
  · rename_i n r i heq
    simp only [List.cons.injEq, and_true] at heq
    obtain ⟨e0, e3, e4⟩ := heq
    simp only [Tr.run] at hg
    split at hg
    · rename_i hc
      simp only [Option.some.injEq, Prod.mk.injEq] at hg
      obtain ⟨rfl, rfl, rfl⟩ := hg
      rw [e0, e3, e4] at htm
      obtain ⟨N, s', h1, h2⟩ := core_skylightref01_Root_0 (fun L => evCode P (evCall P T 16 4) L O' (loopOf P f 0)) hr n r i (of_decide_eq_true hc) (untag (tm.getD 1 .undef)) (untag (tm.getD 2 .undef)) (untag (tm.getD 5 .undef)) (untag (tm.getD 6 .undef)) (untag (tm.getD 7 .undef)) (untag (tm.getD 8 .undef)) (untag (tm.getD 9 .undef)) (untag (tm.getD 10 .undef)) (untag (tm.getD 11 .undef)) (untag (tm.getD 12 .undef)) (untag (tm.getD 13 .undef)) (untag (tm.getD 14 .undef)) (untag (tm.getD 15 .undef)) (untag (tm.getD 16 .undef)) (untag (tm.getD 17 .undef)) (untag (tm.getD 18 .undef)) (untag (tm.getD 19 .undef)) (untag (tm.getD 20 .undef)) (untag (tm.getD 21 .undef)) (h.map untagL)
      exact ⟨s', good_loop (g := none) (e1 := .exit 0) hb (fun k e => by cases e) 16 4 N (by rw [htm]; exact h1) (by rw [htm]; exact h2)⟩
    · cases hg
  · cases hg

/-! skylightref01.Root -/
def tr_skylightref01_Root (n : Int) : Tr AV := Tr.node (decide (0 ≤ n ∧ n ≤ 18446744073709551615 ∧ (0 : Int) ≤ 0 ∧ (-1 : Int) ≤ 31 ∧ (31 : Int) ≤ 31 ∧ (4294967296 : Int) ≤ 4294967296)) (Tr.leaf (AV.int IntKind.i64 false (IntKind.i64.wrap (isqGo 32 n 0)))) Tr.bad
theorem run_skylightref01_Root (n : Int) (h_n : InR .u64 n) : (tr_skylightref01_Root n).run = some (i6 (isq n)) := by
  unfold tr_skylightref01_Root
  have hn := inR_u64.1 h_n
  refine (run_t (decide_eq_true ⟨by omega, by omega, by omega, by omega, by omega, by omega⟩)).trans ?_
  have h := isqGo_spec 32 n 0 (by omega) (by omega) (by simp; omega)
  have e : isq n = isqGo 32 n 0 := isq_eq (by omega) (by omega) (by omega) h.2.2.1 h.2.2.2
  have h32 := isq_32 (n := n) (by omega) (by omega)
  have h0 := (isq_spec (n := n) (by omega) (by omega)).1
  rw [← e, wrap_i64_id (by omega)]
  rfl

end Go.Sky

/- Vectors: what the layers of places and directions give. -/
set_option linter.unusedSimpArgs false
set_option linter.unusedVariables false
namespace Go.Sky

/-- Is a vector near? -/
def nearB (x y z : Int) : Bool := decide ((-1048576 ≤ x ∧ x ≤ 1048576) ∧ (-1048576 ≤ y ∧ y ≤ 1048576) ∧ (-1048576 ≤ z ∧ z ≤ 1048576))

theorem near_r {x y z : Int} (h : nearB x y z = true) : (-1048576 ≤ x ∧ x ≤ 1048576) ∧ (-1048576 ≤ y ∧ y ≤ 1048576) ∧ (-1048576 ≤ z ∧ z ≤ 1048576) := of_decide_eq_true h

theorem near_rot (x y z : Int) : nearB x y z = nearB z x y := by
  unfold nearB; rw [decide_eq_decide]; omega
theorem near_rot2 (x y z : Int) : nearB x y z = nearB y z x := by
  unfold nearB; rw [decide_eq_decide]; omega

def v3 (x y z : Int) : AV := .agg [i6 x, i6 y, i6 z]

def dotI (ax ay az bx b_y bz : Int) : Int := ax * bx + ay * b_y + az * bz
def dotN (ax ay az bx b_y bz : Int) : Int := if nearB ax ay az = true ∧ nearB bx b_y bz = true then dotI ax ay az bx b_y bz else 0

/-- A coordinate of a cross product: 'a c' and 'b d' the other two, 'e f' those of its own place. -/
def crN (a b c d e f : Int) : Int := if nearB e a b = true ∧ nearB f c d = true then a * d - b * c else 0

def volN (ax ay az bx b_y bz cx cy cz : Int) : Int :=
  if nearB ax ay az = true ∧ nearB bx b_y bz = true ∧ nearB cx cy cz = true then dotI ax ay az (b_y * cz - bz * cy) (bz * cx - bx * cz) (bx * cy - b_y * cx) else 0

theorem mul_near {x y : Int} (hx : -1048576 ≤ x ∧ x ≤ 1048576) (hy : -1048576 ≤ y ∧ y ≤ 1048576) : -1099511627776 ≤ x * y ∧ x * y ≤ 1099511627776 := by
  have h := Int.natAbs_mul x y
  have h2 : x.natAbs * y.natAbs ≤ 1048576 * 1048576 := Nat.mul_le_mul (by omega) (by omega)
  omega

theorem mul_near2 {x y z : Int} (hx : -1048576 ≤ x ∧ x ≤ 1048576) (hy : -1099511627776 ≤ y ∧ y ≤ 1099511627776) (hz : -1099511627776 ≤ z ∧ z ≤ 1099511627776) : -2305843009213693952 ≤ x * (y - z) ∧ x * (y - z) ≤ 2305843009213693952 := by
  have h := Int.natAbs_mul x (y - z)
  have h2 : x.natAbs * (y - z).natAbs ≤ 1048576 * 2199023255552 := Nat.mul_le_mul (by omega) (by omega)
  omega

theorem wrap_add3 {p q r : Int} (hp : -1099511627776 ≤ p ∧ p ≤ 1099511627776) (hq : -1099511627776 ≤ q ∧ q ≤ 1099511627776) (hr : -1099511627776 ≤ r ∧ r ≤ 1099511627776) :
    IntKind.i64.wrap (IntKind.i64.wrap (IntKind.i64.wrap (IntKind.i64.wrap p) + IntKind.i64.wrap q) + IntKind.i64.wrap r) = p + q + r := by
  simp only [wrap_i64]; omega

theorem wrap_add3' {p q r : Int} (hp : -2305843009213693952 ≤ p ∧ p ≤ 2305843009213693952) (hq : -2305843009213693952 ≤ q ∧ q ≤ 2305843009213693952) (hr : -2305843009213693952 ≤ r ∧ r ≤ 2305843009213693952) :
    IntKind.i64.wrap (IntKind.i64.wrap (IntKind.i64.wrap (IntKind.i64.wrap p) + IntKind.i64.wrap q) + IntKind.i64.wrap r) = p + q + r := by
  simp only [wrap_i64]; omega

theorem wrap_sub2 {p q : Int} (hp : -1099511627776 ≤ p ∧ p ≤ 1099511627776) (hq : -1099511627776 ≤ q ∧ q ≤ 1099511627776) :
    IntKind.i64.wrap (IntKind.i64.wrap p - IntKind.i64.wrap q) = p - q := by
  simp only [wrap_i64]; omega

end Go.Sky

/- The plain law of volumes. -/
set_option linter.unusedSimpArgs false
set_option linter.unusedVariables false
namespace Go.Sky

theorem volN_eq {ax ay az bx b_y bz cx cy cz : Int} (ha : nearB ax ay az = true) (hb : nearB bx b_y bz = true) (hc : nearB cx cy cz = true) :
    volN ax ay az bx b_y bz cx cy cz = ax * (b_y * cz - bz * cy) + ay * (bz * cx - bx * cz) + az * (bx * cy - b_y * cx) := by
  unfold volN dotI; rw [if_pos ⟨ha, hb, hc⟩]

theorem dotN_eq {ax ay az bx b_y bz : Int} (ha : nearB ax ay az = true) (hb : nearB bx b_y bz = true) : dotN ax ay az bx b_y bz = ax * bx + ay * b_y + az * bz := by
  unfold dotN dotI; rw [if_pos ⟨ha, hb⟩]

theorem crN_eq {a b c d e f : Int} (ha : nearB e a b = true) (hb : nearB f c d = true) : crN a b c d e f = a * d - b * c := by
  unfold crN; rw [if_pos ⟨ha, hb⟩]

theorem dotN_r {ax ay az bx b_y bz : Int} (ha : nearB ax ay az = true) (hb : nearB bx b_y bz = true) : -3298534883328 ≤ dotN ax ay az bx b_y bz ∧ dotN ax ay az bx b_y bz ≤ 3298534883328 := by
  rw [dotN_eq ha hb]
  have h1 := near_r ha; have h2 := near_r hb
  have p := mul_near h1.1 h2.1; have q := mul_near h1.2.1 h2.2.1; have r := mul_near h1.2.2 h2.2.2
  omega

theorem volN_r {ax ay az bx b_y bz cx cy cz : Int} (ha : nearB ax ay az = true) (hb : nearB bx b_y bz = true) (hc : nearB cx cy cz = true) :
    -6917529027641081856 ≤ volN ax ay az bx b_y bz cx cy cz ∧ volN ax ay az bx b_y bz cx cy cz ≤ 6917529027641081856 := by
  rw [volN_eq ha hb hc]
  have h1 := near_r ha; have h2 := near_r hb; have h3 := near_r hc
  have p := mul_near2 h1.1 (mul_near h2.2.1 h3.2.2) (mul_near h2.2.2 h3.2.1)
  have q := mul_near2 h1.2.1 (mul_near h2.2.2 h3.1) (mul_near h2.1 h3.2.2)
  have r := mul_near2 h1.2.2 (mul_near h2.1 h3.2.1) (mul_near h2.2.1 h3.1)
  omega

theorem tdiv2 (x : Int) : (0 ≤ x → 0 ≤ x.tdiv 2 ∧ 2 * x.tdiv 2 ≤ x ∧ x ≤ 2 * x.tdiv 2 + 1) ∧ (x < 0 → x.tdiv 2 ≤ 0 ∧ 2 * x.tdiv 2 - 1 ≤ x ∧ x ≤ 2 * x.tdiv 2) := by
  have h := Int.mul_tdiv_add_tmod x 2
  constructor <;> intro hx
  · have h1 := Int.tmod_nonneg 2 hx
    have h2 := Int.tmod_lt_of_pos x (show (0:Int) < 2 by omega)
    omega
  · have h2 := Int.lt_tmod_of_pos x (show (0:Int) < 2 by omega)
    have h3 : (-(-x)).tmod 2 = - ((-x).tmod 2) := Int.neg_tmod _ _
    rw [Int.neg_neg] at h3
    have h4 := Int.tmod_nonneg 2 (show 0 ≤ -x by omega)
    omega

theorem half_k {x : Int} (h : -1048576 ≤ x ∧ x ≤ 1048576) : sat (IntKind.i64.wrap (x.tdiv 2) + IntKind.i64.wrap (x.tdiv 2)) = 2 * x.tdiv 2 := by
  have := tdiv2 x
  generalize x.tdiv 2 = q at this ⊢
  rw [wrap_i64_id (by omega)]
  unfold sat; omega
theorem half_o {x k : Int} (h : -1048576 ≤ x ∧ x ≤ 1048576) (hk : -1048576 ≤ k ∧ k ≤ 1048576) : sat (x + sat (k * -1)) = x - k := by
  unfold sat; omega
theorem half_s {x k : Int} (h : -1048576 ≤ x ∧ x ≤ 1048576) (hk : -1048576 ≤ k ∧ k ≤ 1048576) : sat (k + (x - k)) = x := by
  unfold sat; omega

theorem cr_neg {a b c d e f : Int} (h1 : nearB e a b = true) (h2 : nearB f c d = true) : crN a b c d e f = sat (0 + sat (crN c d a b f e * -1)) := by
  rw [crN_eq h1 h2, crN_eq h2 h1]
  have r1 := near_r h1; have r2 := near_r h2
  have p := mul_near r1.2.1 r2.2.2
  have q := mul_near r1.2.2 r2.2.1
  rw [Int.mul_comm c b, Int.mul_comm d a]
  unfold sat; omega

/-- What the law of volumes asks. -/
theorem volume_law {ax ay az bx b_y bz cx cy cz : Int} (ha : nearB ax ay az = true) (hb : nearB bx b_y bz = true) (hc : nearB cx cy cz = true) :
    volN ax ay az ax ay az bx b_y bz = 0 ∧ volN ax ay az bx b_y bz ax ay az = 0 ∧
    volN bx b_y bz ax ay az cx cy cz = IntKind.i64.wrap (0 - volN ax ay az bx b_y bz cx cy cz) ∧
    volN bx b_y bz cx cy cz ax ay az = volN ax ay az bx b_y bz cx cy cz ∧
    volN cx cy cz bx b_y bz ax ay az = IntKind.i64.wrap (0 - volN ax ay az bx b_y bz cx cy cz) ∧
    dotN ax ay az bx b_y bz = dotN bx b_y bz ax ay az := by
  have r := volN_r ha hb hc
  rw [wrap_i64_id (by omega)]
  clear r
  rw [volN_eq ha ha hb, volN_eq ha hb ha, volN_eq hb ha hc, volN_eq hb hc ha, volN_eq hc hb ha, volN_eq ha hb hc, dotN_eq ha hb, dotN_eq hb ha]
  clear ha hb hc
  refine ⟨?_, ?_, ?_, ?_, ?_, ?_⟩ <;> grind

theorem volume_sum {ax ay az bx b_y bz cx cy cz kx ky kz : Int} (ha : nearB ax ay az = true) (hb : nearB bx b_y bz = true) (hc : nearB cx cy cz = true)
    (hk : nearB kx ky kz = true) (ho : nearB (ax - kx) (ay - ky) (az - kz) = true) :
    IntKind.i64.wrap (volN kx ky kz bx b_y bz cx cy cz + volN (ax - kx) (ay - ky) (az - kz) bx b_y bz cx cy cz) = volN ax ay az bx b_y bz cx cy cz ∧
    IntKind.i64.wrap (dotN kx ky kz bx b_y bz + dotN (ax - kx) (ay - ky) (az - kz) bx b_y bz) = dotN ax ay az bx b_y bz := by
  have r := volN_r ha hb hc
  have s := dotN_r ha hb
  have e1 : volN kx ky kz bx b_y bz cx cy cz + volN (ax - kx) (ay - ky) (az - kz) bx b_y bz cx cy cz = volN ax ay az bx b_y bz cx cy cz := by
    rw [volN_eq hk hb hc, volN_eq ho hb hc, volN_eq ha hb hc]
    clear ha hb hc hk ho r s
    grind
  have e2 : dotN kx ky kz bx b_y bz + dotN (ax - kx) (ay - ky) (az - kz) bx b_y bz = dotN ax ay az bx b_y bz := by
    rw [dotN_eq hk hb, dotN_eq ho hb, dotN_eq ha hb]
    clear ha hb hc hk ho r s e1
    grind
  rw [e1, e2]
  exact ⟨wrap_i64_id (by omega), wrap_i64_id (by omega)⟩

end Go.Sky

/- Division of 128 bits by 64. -/
set_option linter.unusedSimpArgs false
set_option linter.unusedVariables false
namespace Go.Sky

theorem dig_nonneg {yn1 yn0 un1 q rh : Int} (h1 : 2147483648 ≤ yn1 ∧ yn1 ≤ 4294967295) (h0 : 0 ≤ yn0 ∧ yn0 ≤ 4294967295) (hu : 0 ≤ un1 ∧ un1 ≤ 4294967295) (hr : 0 ≤ rh ∧ rh ≤ 4294967295) (hq : 0 ≤ q)
    (ha : q * yn1 + rh < yn1 * 4294967296 + yn0) : 0 ≤ ((q * yn1 + rh) * 4294967296 + un1) / (yn1 * 4294967296 + yn0) := by
  have : 0 ≤ q * yn1 := Int.mul_nonneg hq (by omega)
  exact Int.ediv_nonneg (by omega) (by omega)

theorem dig_lt {yn1 yn0 un1 q rh : Int} (h1 : 2147483648 ≤ yn1 ∧ yn1 ≤ 4294967295) (h0 : 0 ≤ yn0 ∧ yn0 ≤ 4294967295) (hu : 0 ≤ un1 ∧ un1 ≤ 4294967295) (hr : 0 ≤ rh ∧ rh ≤ 4294967295) (hq : 0 ≤ q)
    (ha : q * yn1 + rh < yn1 * 4294967296 + yn0) : ((q * yn1 + rh) * 4294967296 + un1) / (yn1 * 4294967296 + yn0) < 4294967296 := by
  apply Int.ediv_lt_of_lt_mul (by omega)
  generalize q * yn1 = a at *
  omega

theorem dig_q {yn1 yn0 un1 q rh : Int} (h1 : 2147483648 ≤ yn1 ∧ yn1 ≤ 4294967295) (h0 : 0 ≤ yn0 ∧ yn0 ≤ 4294967295) (hu : 0 ≤ un1 ∧ un1 ≤ 4294967295) (hr : 0 ≤ rh ∧ rh ≤ 4294967295) (hq : 0 ≤ q)
    (ha : q * yn1 + rh < yn1 * 4294967296 + yn0) : q ≤ 4294967297 := by
  have : q * yn1 < 4294967298 * yn1 := by omega
  have := Int.lt_of_mul_lt_mul_right this (by omega)
  omega

theorem dig_more {yn1 yn0 un1 q rh : Int} (h1 : 2147483648 ≤ yn1 ∧ yn1 ≤ 4294967295) (h0 : 0 ≤ yn0 ∧ yn0 ≤ 4294967295) (hu : 0 ≤ un1 ∧ un1 ≤ 4294967295) (hr : 0 ≤ rh ∧ rh ≤ 4294967295) (hq : 0 ≤ q)
    (ha : q * yn1 + rh < yn1 * 4294967296 + yn0) (ht : q * yn0 > 4294967296 * rh + un1) : ((q * yn1 + rh) * 4294967296 + un1) / (yn1 * 4294967296 + yn0) < q := by
  apply Int.ediv_lt_of_lt_mul (by omega)
  have e : q * (yn1 * 4294967296 + yn0) = q * yn1 * 4294967296 + q * yn0 := by rw [Int.mul_add, Int.mul_assoc]
  rw [e]
  omega

theorem dig_done {yn1 yn0 un1 q rh : Int} (h1 : 2147483648 ≤ yn1 ∧ yn1 ≤ 4294967295) (h0 : 0 ≤ yn0 ∧ yn0 ≤ 4294967295) (hu : 0 ≤ un1 ∧ un1 ≤ 4294967295) (hr : 0 ≤ rh ∧ rh ≤ 4294967295) (hq : 0 ≤ q)
    (ha : q * yn1 + rh < yn1 * 4294967296 + yn0) (ht : ¬ (q * yn0 > 4294967296 * rh + un1)) : q ≤ ((q * yn1 + rh) * 4294967296 + un1) / (yn1 * 4294967296 + yn0) := by
  apply Int.le_ediv_of_mul_le (by omega)
  have e : q * (yn1 * 4294967296 + yn0) = q * yn1 * 4294967296 + q * yn0 := by rw [Int.mul_add, Int.mul_assoc]
  rw [e]
  omega

theorem dig_break {yn1 yn0 un1 q rh : Int} (h1 : 2147483648 ≤ yn1 ∧ yn1 ≤ 4294967295) (h0 : 0 ≤ yn0 ∧ yn0 ≤ 4294967295) (hu : 0 ≤ un1 ∧ un1 ≤ 4294967295) (hr : 0 ≤ rh ∧ rh ≤ 4294967295) (hq : 0 ≤ q)
    (ha : q * yn1 + rh < yn1 * 4294967296 + yn0) (ht : rh + yn1 ≥ 4294967296) (h : 1 ≤ q) : q - 1 ≤ ((q * yn1 + rh) * 4294967296 + un1) / (yn1 * 4294967296 + yn0) := by
  have hq2 := dig_q h1 h0 hu hr hq ha
  apply Int.le_ediv_of_mul_le (by omega)
  have e : (q - 1) * (yn1 * 4294967296 + yn0) = q * yn1 * 4294967296 - yn1 * 4294967296 + (q - 1) * yn0 := by rw [Int.mul_add, Int.sub_mul, Int.one_mul, Int.mul_assoc]
  have e2 : (q - 1) * yn0 ≤ 4294967296 * 4294967295 := Int.mul_le_mul (by omega) (by omega) (by omega) (by omega)
  rw [e]
  omega

theorem bits_mask {x : Int} (h : 0 ≤ x ∧ x ≤ 18446744073709551615) : Go.bits .and .u64 x 4294967295 = x % 4294967296 := by
  obtain ⟨n, rfl⟩ := Int.eq_ofNat_of_zero_le h.1
  have hb : n < 2 ^ 64 := by omega
  show IntKind.u64.wrap ((BitVec.ofInt 64 (n : Int) &&& BitVec.ofInt 64 4294967295).toNat : Int) = _
  have e : (BitVec.ofInt 64 (n : Int) &&& BitVec.ofInt 64 4294967295).toNat = n % 4294967296 := by
    rw [BitVec.toNat_and]
    have e1 : (BitVec.ofInt 64 (n : Int)).toNat = n := by rw [BitVec.toNat_ofInt]; omega
    have e2 : (BitVec.ofInt 64 4294967295).toNat = 2 ^ 32 - 1 := by decide
    rw [e1, e2, Nat.and_two_pow_sub_one_eq_mod]
  rw [e, wrap_u64_id (by omega)]
  omega

theorem bits_or {s : Nat} {a b : Int} (ha : 0 ≤ a) (hb : 0 ≤ b ∧ b < 2 ^ s) (h : a * 2 ^ s + b ≤ 18446744073709551615) : Go.bits .or .u64 (a * 2 ^ s) b = a * 2 ^ s + b := by
  obtain ⟨m, rfl⟩ := Int.eq_ofNat_of_zero_le ha
  obtain ⟨n, rfl⟩ := Int.eq_ofNat_of_zero_le hb.1
  have hn : n < 2 ^ s := by have := hb.2; exact_mod_cast this
  have ec : ((m : Int) * 2 ^ s) = ((m * 2 ^ s : Nat) : Int) := by push_cast; rfl
  rw [ec] at h ⊢
  have hs : m * 2 ^ s + n ≤ 18446744073709551615 := by omega
  show IntKind.u64.wrap ((BitVec.ofInt 64 ((m * 2 ^ s : Nat) : Int) ||| BitVec.ofInt 64 (n : Int)).toNat : Int) = _
  have e : (BitVec.ofInt 64 ((m * 2 ^ s : Nat) : Int) ||| BitVec.ofInt 64 (n : Int)).toNat = m * 2 ^ s + n := by
    rw [BitVec.toNat_or]
    have e1 : (BitVec.ofInt 64 ((m * 2 ^ s : Nat) : Int)).toNat = m * 2 ^ s := by rw [BitVec.toNat_ofInt]; omega
    have e2 : (BitVec.ofInt 64 (n : Int)).toNat = n := by rw [BitVec.toNat_ofInt]; omega
    rw [e1, e2, Nat.mul_comm m, Nat.two_pow_add_eq_or_of_lt hn]
  rw [e, wrap_u64_id (by omega)]
  push_cast; rfl

/-- Two digits, one behind the other. -/
theorem knuth {U Y T : Int} (hU : 0 ≤ U ∧ U < Y) (hT : 0 ≤ T) :
    ((U * 4294967296 + T / 4294967296) / Y) * 4294967296 + (((U * 4294967296 + T / 4294967296) % Y) * 4294967296 + T % 4294967296) / Y = (U * 18446744073709551616 + T) / Y ∧
    (((U * 4294967296 + T / 4294967296) % Y) * 4294967296 + T % 4294967296) % Y = (U * 18446744073709551616 + T) % Y := by
  have hY : 0 < Y := by omega
  have e1 := Int.mul_ediv_add_emod (U * 4294967296 + T / 4294967296) Y
  generalize (U * 4294967296 + T / 4294967296) / Y = q1 at *
  generalize (U * 4294967296 + T / 4294967296) % Y = r1 at *
  have e : U * 18446744073709551616 + T = (r1 * 4294967296 + T % 4294967296) + Y * (q1 * 4294967296) := by
    have : Y * (q1 * 4294967296) = Y * q1 * 4294967296 := by rw [Int.mul_assoc]
    omega
  rw [e, Int.add_mul_ediv_left _ _ (by omega), Int.add_mul_emod_self_left]
  omega

/-- What a loop asks at its begin. -/
theorem digit_ok {A Y u : Int} (hA : 0 ≤ A ∧ A < Y) (hY : 9223372036854775808 ≤ Y ∧ Y ≤ 18446744073709551615) (hu : 0 ≤ u ∧ u ≤ 4294967295) :
    (A / (Y / 4294967296) * (Y / 4294967296) + A % (Y / 4294967296) = A) ∧ Y / 4294967296 * 4294967296 + Y % 4294967296 = Y ∧ (2147483648 ≤ Y / 4294967296 ∧ Y / 4294967296 ≤ 4294967295) ∧
    0 ≤ A / (Y / 4294967296) ∧ A / (Y / 4294967296) ≤ 18446744073709551615 ∧ 0 ≤ A % (Y / 4294967296) ∧ A % (Y / 4294967296) ≤ 4294967295 ∧ (A * 4294967296 + u) / Y ≤ A / (Y / 4294967296) ∧
    0 ≤ A / (Y / 4294967296) * (Y / 4294967296) ∧ A / (Y / 4294967296) * (Y / 4294967296) ≤ A := by
  have hd : 2147483648 ≤ Y / 4294967296 ∧ Y / 4294967296 ≤ 4294967295 := by omega
  have e2 : Y / 4294967296 * 4294967296 + Y % 4294967296 = Y := by omega
  have e1 := Int.mul_ediv_add_emod A (Y / 4294967296)
  rw [Int.mul_comm] at e1
  have m0 := Int.emod_nonneg A (show Y / 4294967296 ≠ 0 by omega)
  have m1 := Int.emod_lt_of_pos A (show 0 < Y / 4294967296 by omega)
  have q0 : 0 ≤ A / (Y / 4294967296) := Int.ediv_nonneg (by omega) (by omega)
  have p0 : 0 ≤ A / (Y / 4294967296) * (Y / 4294967296) := Int.mul_nonneg q0 (by omega)
  have q1 : A / (Y / 4294967296) ≤ A := by
    have : A / (Y / 4294967296) * 1 ≤ A / (Y / 4294967296) * (Y / 4294967296) := Int.mul_le_mul_of_nonneg_left (by omega) q0
    omega
  refine ⟨e1, e2, hd, q0, by omega, m0, by omega, ?_, p0, by omega⟩
  apply Int.le_ediv_of_mul_le (by omega)
  -- t * Y ≤ N, so t * yn1 * 2^32 ≤ A * 2^32 + u
  have t1 := Int.ediv_mul_le (A * 4294967296 + u) (show Y ≠ 0 by omega)
  have t0 : 0 ≤ (A * 4294967296 + u) / Y := Int.ediv_nonneg (by omega) (by omega)
  generalize (A * 4294967296 + u) / Y = t at *
  have t2 : t * (Y / 4294967296 * 4294967296) ≤ t * Y := Int.mul_le_mul_of_nonneg_left (by omega) t0
  rw [← Int.mul_assoc] at t2
  omega

theorem shift_facts {hi lo y : Int} (h0 : 0 ≤ hi) (h1 : hi < y) (h2 : y ≤ 18446744073709551615) (h3 : 0 ≤ lo ∧ lo ≤ 18446744073709551615) :
    ∃ s : Nat, s ≤ 63 ∧ IntKind.u64.wrap (64 - ((Lib.bitLen y.toNat : Nat) : Int)) = (s : Int) ∧ IntKind.u64.wrap (64 - (s : Int)) = ((64 - s : Nat) : Int) ∧
      IntKind.u64.wrap (y * 2 ^ s) = y * 2 ^ s ∧ (9223372036854775808 ≤ y * 2 ^ s ∧ y * 2 ^ s ≤ 18446744073709551615) ∧ IntKind.u64.wrap (hi * 2 ^ s) = hi * 2 ^ s ∧
      Go.bits .or .u64 (hi * 2 ^ s) (lo / 2 ^ (64 - s)) = hi * 2 ^ s + lo / 2 ^ (64 - s) ∧ (0 ≤ hi * 2 ^ s + lo / 2 ^ (64 - s) ∧ hi * 2 ^ s + lo / 2 ^ (64 - s) < y * 2 ^ s) ∧
      (hi * 2 ^ s + lo / 2 ^ (64 - s)) * 18446744073709551616 + IntKind.u64.wrap (lo * 2 ^ s) = (hi * 18446744073709551616 + lo) * 2 ^ s := by
  have hy0 : 0 < y := by omega
  obtain ⟨b1, b2, b3⟩ := Lib.bitLenAux_bounds 64 y.toNat (by omega) (by omega)
  have b4 : Lib.bitLen y.toNat ≤ 64 := Go.Proofs.Any.bitLen_le64 y (by omega) h2
  change 1 ≤ Lib.bitLen y.toNat at b1
  change 2 ^ (Lib.bitLen y.toNat - 1) ≤ y.toNat at b2
  change y.toNat < 2 ^ Lib.bitLen y.toNat at b3
  generalize Lib.bitLen y.toNat = b at *
  obtain ⟨n, rfl⟩ := Int.eq_ofNat_of_zero_le (show 0 ≤ y by omega)
  simp only [Int.toNat_natCast] at b2 b3
  refine ⟨64 - b, by omega, by rw [wrap_u64_id (by omega)]; omega, by rw [wrap_u64_id (by omega)]; omega, ?_⟩
  have hb : 64 - (64 - b) = b := by omega
  rw [hb]
  have hSR : (2 : Int) ^ (64 - b) * 2 ^ b = 18446744073709551616 := by rw [← Int.pow_add, show 64 - b + b = 64 by omega]; rfl
  have hS : (0 : Int) < 2 ^ (64 - b) := Int.pow_pos (by decide)
  have hR : (0 : Int) < 2 ^ b := Int.pow_pos (by decide)
  have c3 : (n : Int) < 2 ^ b := by exact_mod_cast b3
  have c2 : (2 : Int) ^ b ≤ 2 * n := by
    have : (2 : Nat) ^ b ≤ 2 * n := by
      have e : 2 ^ b = 2 * 2 ^ (b - 1) := by rw [← Nat.pow_succ']; congr 1; omega
      omega
    exact_mod_cast this
  generalize hSe : (2 : Int) ^ (64 - b) = S at *
  have hRb : ∃ r : Nat, r = b := ⟨b, rfl⟩
  generalize hRe : (2 : Int) ^ b = R at *
  have y1 : (n : Int) * S < R * S := Int.mul_lt_mul_of_pos_right c3 hS
  have y2 : R * S ≤ 2 * n * S := Int.mul_le_mul_of_nonneg_right c2 (by omega)
  rw [Int.mul_comm R S, hSR] at y1 y2
  rw [Int.mul_assoc] at y2
  have z1 : hi * S ≤ (n - 1) * S := Int.mul_le_mul_of_nonneg_right (by omega) (by omega)
  rw [Int.sub_mul, Int.one_mul] at z1
  have z0 : 0 ≤ hi * S := Int.mul_nonneg h0 (by omega)
  have l1 := Int.mul_ediv_add_emod lo R
  have l2 := Int.emod_nonneg lo (show R ≠ 0 by omega)
  have l3 := Int.emod_lt_of_pos lo hR
  have l0 : 0 ≤ lo / R := Int.ediv_nonneg h3.1 (by omega)
  have l4 : lo / R < S := by apply Int.ediv_lt_of_lt_mul hR; rw [hSR]; omega
  have l5 : lo * S = (lo / R) * 18446744073709551616 + (lo % R) * S := by rw [← hSR]; conv => lhs; rw [← l1]
                                                                          grind
  have l6 : (lo % R) * S < R * S := Int.mul_lt_mul_of_pos_right l3 hS
  rw [Int.mul_comm R S, hSR] at l6
  have l7 : 0 ≤ (lo % R) * S := Int.mul_nonneg l2 (by omega)
  have eT : IntKind.u64.wrap (lo * S) = (lo % R) * S := by rw [wrap_u64, l5]; omega
  refine ⟨wrap_u64_id (by omega), ⟨by omega, by omega⟩, wrap_u64_id (by omega), ?_, ⟨by omega, by omega⟩, ?_⟩
  · have := bits_or (s := 64 - b) (a := hi) (b := lo / R) h0 ⟨l0, by rw [hSe]; exact l4⟩ (by rw [hSe]; omega)
    rw [hSe] at this
    exact this
  · rw [eT, Int.add_mul, Int.add_mul, l5]
    have : hi * S * 18446744073709551616 = hi * 18446744073709551616 * S := by rw [Int.mul_assoc, Int.mul_comm S, ← Int.mul_assoc]
    omega

end Go.Sky
