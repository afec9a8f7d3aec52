/- Pieces of code, loops mostly, of which it is known what they leave. -/
import Derived.Test.YtfbakgcemnkcpaaQSkyX
set_option linter.unusedSimpArgs false
set_option linter.unusedVariables false
namespace Go.Sky
open Go.RowKit (Below)

mutual
theorem untag_inv {φ : Ren} : ∀ (x : AV) (v : Value), ARel φ (untag x) v → ARel φ x v
  | .bool _ _, _, e => by simpa only [untag, ARel] using e
  | .int _ _ _, _, e => by simpa only [untag, ARel] using e
  | .str _ _, _, e => by simpa only [untag, ARel] using e
  | .ptr _, _, e => e
  | .slice _ _ _, _, e => e
  | .func _ fs cs, _, e => by
    simp only [untag, ARel] at e ⊢; obtain ⟨fs', cs', rfl, h1, h2⟩ := e; exact ⟨fs', cs', rfl, untagL_inv fs _ h1, untagL_inv cs _ h2⟩
  | .nilFunc, _, e => e
  | .iface _ x, _, e => by simp only [untag, ARel] at e ⊢; obtain ⟨y, rfl, h1⟩ := e; exact ⟨y, rfl, untag_inv x y h1⟩
  | .nilIface, _, e => e
  | .agg cs, _, e => by simp only [untag, ARel] at e ⊢; obtain ⟨cs', rfl, h1⟩ := e; exact ⟨cs', rfl, untagL_inv cs _ h1⟩
  | .tuple cs, _, e => by simp only [untag, ARel] at e ⊢; obtain ⟨cs', rfl, h1⟩ := e; exact ⟨cs', rfl, untagL_inv cs _ h1⟩
theorem untagL_inv {φ : Ren} : ∀ (x : List AV) (v : List Value), LRel φ (untagL x) v → LRel φ x v
  | [], _, e => e
  | x :: xs, _, e => by
    simp only [untagL, LRel] at e ⊢; obtain ⟨y, ys, rfl, h1, h2⟩ := e; exact ⟨y, ys, rfl, untag_inv x y h1, untagL_inv xs ys h2⟩
end

theorem untagL_map (l : List AV) : untagL l = l.map untag := by
  induction l with
  | nil => rfl
  | cons x xs ih => simp only [untagL, List.map_cons, ih]

theorem HRel.untag {B : Nat} {w0 : World} {φ : Ren} {h : AH} {w : World} (R : HRel B w0 φ h w) : HRel B w0 φ (h.map untagL) w := by
  refine ⟨?_, R.inj, ?_, R.rng, R.below, R.base⟩
  · intro b cs h
    rw [List.getElem?_map] at h
    simp only [Option.map_eq_some_iff] at h
    obtain ⟨cs0, h0, rfl⟩ := h
    obtain ⟨c, cs', e, h1, h2, h3⟩ := R.cells b cs0 h0
    exact ⟨c, cs', e, h1, h2, untagL_rel _ _ h3⟩
  · intro b c h; have := R.dom b c h; simpa using this

theorem HRel.untag_inv {B : Nat} {w0 : World} {φ : Ren} {h : AH} {w : World} (R : HRel B w0 φ (h.map untagL) w) : HRel B w0 φ h w := by
  refine ⟨?_, R.inj, ?_, R.rng, R.below, R.base⟩
  · intro b cs h
    obtain ⟨c, cs', e, h1, h2, h3⟩ := R.cells b (untagL cs) (by rw [List.getElem?_map, h]; rfl)
    exact ⟨c, cs', e, h1, h2, untagL_inv _ _ h3⟩
  · intro b c h; have := R.dom b c h; simpa using this

theorem SRel.untag {B : Nat} {w0 : World} {φ : Ren} {s : St} {a : Act} {w : World} (R : SRel B w0 φ s a w) : SRel B w0 φ ⟨untagL s.tmps, s.heap.map untagL⟩ a w := ⟨R.heap.untag, untagL_rel _ _ R.tmps, R.defers⟩

/-- A block's code, by the function and the block's number. -/
def blockOf (P : Program) (f : FuncId) (id : Nat) : Code :=
  match P.funcs[f]? with
  | some fn => match fn.body with
    | some c => match (blocksOf c).lookup id with | some b => b | none => .skip
    | none => .skip
  | none => .skip

def once : List Nat → Bool
  | [] => true
  | x :: r => !(r.contains x) && once r

def onceB (P : Program) (f : FuncId) : Bool :=
  match P.funcs[f]? with
  | some fn => match fn.body with
    | some c => once ((blocksOf c).map (·.1))
    | none => true
  | none => true

theorem lookup_once : ∀ {l : List (Nat × Code)} {id : Nat} {b : Code}, once (l.map (·.1)) = true → (id, b) ∈ l → l.lookup id = some b
  | (i, c) :: r, id, b, h, hm => by
    simp only [List.map_cons, once, Bool.and_eq_true, Bool.not_eq_true'] at h
    rw [List.lookup_cons]
    rcases List.mem_cons.1 hm with e | hm2
    · cases e; simp
    · have hne : (id == i) = false := by
        rw [beq_eq_false_iff_ne]
        rintro rfl
        have : (r.map (·.1)).contains id = true := by
          rw [List.contains_iff_mem]
          exact List.mem_map.2 ⟨(id, b), hm2, rfl⟩
        rw [this] at h
        cases h.1
      rw [hne]
      exact lookup_once h.2 hm2

/-- The slots behind a piece: those told, those written (as they are), the others (as they were). -/
def mask (k : Nat) (W : List Nat) (outs : List (Nat × AV)) (f l : List AV) : List AV :=
  (List.range k).map fun j => match outs.lookup j with
    | some v => v
    | none => match W.contains j with
      | true => f.getD j .undef
      | false => l.getD j .undef

/-- What a piece is told to leave: how it is left, slots, memory; out of some slots, and memory. -/
abbrev PieceTold := List AV → AH → Tr (Ex × List (Nat × AV) × AH)

def pieceX (k : Nat) (W ins : List Nat) (g : PieceTold) (fin : St → Ex → List (Nat × AV) → AH → List AV) : St → Tr (Ex × St) := fun s =>
  match Nat.beq s.tmps.length k with
  | true => (g (ins.map fun j => untag (s.tmps.getD j .undef)) (s.heap.map untagL)).bind fun r => .leaf (r.1, ⟨mask k W r.2.1 (fin s r.1 r.2.1 r.2.2) s.tmps, r.2.2⟩)
  | false => .bad

/-- The slots that are not written, without marks. -/
def keepL (k : Nat) (W : List Nat) (l : List AV) : List AV := (List.range k).map fun j => match W.contains j with
  | true => .undef
  | false => untag (l.getD j .undef)

/-- 's'' is as told, marks aside. -/
structure Leaves (k : Nat) (W : List Nat) (tm : List AV) (outs : List (Nat × AV)) (hp : AH) (s' : St) : Prop where
  heap : s'.heap.map untagL = hp.map untagL
  len : s'.tmps.length = k
  outs : outs.map (fun p => untag (s'.tmps.getD p.1 .undef)) = outs.map (fun p => untag p.2)
  keep : keepL k W s'.tmps = keepL k W tm

theorem Leaves.of {k : Nat} {W : List Nat} {tm tm' : List AV} {outs : List (Nat × AV)} {hp : AH} {s' : St} (h : Leaves k W tm outs hp s') (hk : keepL k W tm = keepL k W tm') : Leaves k W tm' outs hp s' := ⟨h.heap, h.len, h.outs, h.keep.trans hk⟩

mutual
theorem untag_untag : ∀ x : AV, untag (untag x) = untag x
  | .bool _ _ => rfl
  | .int _ _ _ => rfl
  | .str _ _ => rfl
  | .iface _ x => by simp only [untag]; rw [untag_untag x]
  | .agg cs => by simp only [untag]; rw [untagL_untagL cs]
  | .tuple cs => by simp only [untag]; rw [untagL_untagL cs]
  | .func _ f c => by simp only [untag]; rw [untagL_untagL f, untagL_untagL c]
  | .ptr _ => rfl
  | .slice _ _ _ => rfl
  | .nilFunc => rfl
  | .nilIface => rfl
theorem untagL_untagL : ∀ x : List AV, untagL (untagL x) = untagL x
  | [] => rfl
  | x :: xs => by simp only [untagL]; rw [untag_untag x, untagL_untagL xs]
end

theorem map_mem {α β : Type} {f g : α → β} : ∀ {l : List α} {x : α}, l.map f = l.map g → x ∈ l → f x = g x
  | y :: ys, x, h, hm => by
    simp only [List.map_cons, List.cons.injEq] at h
    rcases List.mem_cons.1 hm with e | hm2
    · subst e; exact h.1
    · exact map_mem h.2 hm2

theorem tmps_eq {k : Nat} {tm : List AV} (h : tm.length = k) : untagL tm = (List.range k).map fun j => untag (tm.getD j .undef) := by
  subst h
  rw [untagL_map]
  apply List.ext_getElem
  · simp
  · intro i h1 h2
    simp at h1
    simp [List.getD_eq_getElem?_getD, h1]

theorem untagL_getD (tm : List AV) (j : Nat) : (untagL tm).getD j .undef = untag (tm.getD j .undef) := by
  rw [untagL_map]
  simp only [List.getD_eq_getElem?_getD, List.getElem?_map]
  cases tm[j]? <;> rfl

/-- 's'' is what the piece leaves of 's'. -/
def Good (P : Program) (T : Table) (O' : Known) (f : FuncId) (id k : Nat) (W : List Nat) (s : St) (e : Ex) (outs : List (Nat × AV)) (hp : AH) (s' : St) : Prop :=
  (∃ L Lc n, (evCode P (evCall P T Lc n) L O' (.block id (blockOf P f id)) ⟨untagL s.tmps, s.heap.map untagL⟩).run = some (e, s')) ∧ Leaves k W (untagL s.tmps) outs hp s'

open Classical in
noncomputable def finOf (P : Program) (T : Table) (O' : Known) (f : FuncId) (id k : Nat) (W : List Nat) (s : St) (e : Ex) (outs : List (Nat × AV)) (hp : AH) : List AV :=
  if h : ∃ s', Good P T O' f id k W s e outs hp s' then (Classical.choose h).tmps else []

noncomputable def piece (P : Program) (T : Table) (O' : Known) (f : FuncId) (id k : Nat) (W ins : List Nat) (g : PieceTold) : St → Tr (Ex × St) := pieceX k W ins g (finOf P T O' f id k W)

theorem lookup_mem : ∀ {l : List (Nat × AV)} {j : Nat} {v : AV}, l.lookup j = some v → (j, v) ∈ l
  | (i, x) :: r, j, v, h => by
    rw [List.lookup_cons] at h
    split at h
    · rename_i hb; cases h; have := eq_of_beq hb; subst this; exact List.mem_cons_self
    · exact List.mem_cons_of_mem _ (lookup_mem h)

theorem LRel.of_getD {φ : Ren} : ∀ {l : List AV} {m : List Value}, l.length = m.length → (∀ j, j < l.length → ARel φ (l.getD j .undef) (m.getD j Go.undef)) → LRel φ l m
  | [], [], _, _ => rfl
  | x :: xs, y :: ys, hl, h => by
    simp only [LRel]
    refine ⟨y, ys, rfl, by simpa using h 0 (by simp), LRel.of_getD (by simpa using hl) fun j hj => ?_⟩
    have := h (j + 1) (by simpa using hj)
    simpa using this

theorem piece_wp {P : Program} (hp : ProgOk P) {T : Table} (hT : TableOk P T) {O' : Known} {f : FuncId} {id k : Nat} {W ins : List Nat} {g : PieceTold} (hO : KnownOk P O' (blocksOf (.block id (blockOf P f id))))
    (h : ∀ s e outs hp, s.tmps.length = k → (g (ins.map fun j => untag (s.tmps.getD j .undef)) (s.heap.map untagL)).run = some (e, outs, hp) → ∃ s', Good P T O' f id k W s e outs hp s') :
    ∀ s e s', (piece P T O' f id k W ins g s).run = some (e, s') → ∀ B w0 φ a w, SRel B w0 φ s a w → (Code.block id (blockOf P f id)).wp P (Post B w0 φ e s') a w := by
  intro s e s' hx B w0 φ a w R
  unfold piece pieceX at hx
  split at hx
  · rename_i hk
    have hk := Nat.eq_of_beq_eq_true hk
    obtain ⟨⟨e1, outs, hh⟩, h1, h2⟩ := run_bind_some hx
    simp only [Tr.run, Option.some.injEq, Prod.mk.injEq] at h2
    obtain ⟨rfl, rfl⟩ := h2
    have hex := h s e1 outs hh hk h1
    have hg := Classical.choose_spec hex
    have hfin : finOf P T O' f id k W s e1 outs hh = (Classical.choose hex).tmps := by unfold finOf; rw [dif_pos hex]
    rw [hfin]
    generalize Classical.choose hex = s1 at hg
    obtain ⟨⟨L, Lc, n, hr⟩, g1, g2, g3, g4⟩ := hg
    have g3 := fun j v hm => map_mem (x := ((j : Nat), (v : AV))) g3 hm
    have g4 : ∀ j, j < k → W.contains j = false → untag (s1.tmps.getD j .undef) = untag (s.tmps.getD j .undef) := fun j hj hw => by
      have := map_mem (x := j) g4 (List.mem_range.2 hj)
      simp only [hw] at this
      rw [this, untagL_getD, untag_untag]
    refine wp_mono (code_wp hp.mixed (evCall_ok hp hT n) _ hO _ e1 s1 hr φ a w R.untag) ?_
    rintro e' a' w' ⟨φ', hle, he, R'⟩
    refine ⟨φ', hle, he, HRel.untag_inv (by rw [← g1]; exact R'.heap.untag), ?_, R'.defers⟩
    have hlen := LRel.length R'.tmps
    refine LRel.of_getD (by simp [mask]; simpa using g2.symm.trans hlen) fun j hj => ?_
    have hj : j < k := by simpa [mask] using hj
    have hrel := LRel.getD j R'.tmps
    have e0 : (mask k W outs s1.tmps s.tmps).getD j .undef = (match outs.lookup j with | some v => v | none => match W.contains j with | true => s1.tmps.getD j .undef | false => s.tmps.getD j .undef) := by
      simp [mask, List.getD_eq_getElem?_getD, hj]
    have e1' : a'.tmps.toList.getD j Go.undef = a'.tmps.getD j Go.undef := by simp [List.getD_eq_getElem?_getD]
    rw [e0, e1']
    cases ho : outs.lookup j with
    | some v => exact untag_inv _ _ (by rw [← g3 j v (lookup_mem ho)]; exact untag_rel _ _ hrel)
    | none =>
      simp only
      cases hw : W.contains j with
      | true => exact hrel
      | false => exact untag_inv _ _ (by rw [← g4 j hj hw]; exact untag_rel _ _ hrel)
  · simp [Tr.run] at hx

def known (id : Nat) (X : St → Tr (Ex × St)) (O : Known) : Known := fun i => match Nat.beq i id with | true => some X | false => O i

theorem known_ok {P : Program} {f : FuncId} (hf : onceB P f = true) {id : Nat} {X : St → Tr (Ex × St)} {O : Known}
    (hX : ∀ s e s', (X s).run = some (e, s') → ∀ B w0 φ a w, SRel B w0 φ s a w → (Code.block id (blockOf P f id)).wp P (Post B w0 φ e s') a w)
    (hO : ∀ fn c, P.funcs[f]? = some fn → fn.body = some c → KnownOk P O (blocksOf c)) : ∀ fn c, P.funcs[f]? = some fn → fn.body = some c → KnownOk P (known id X O) (blocksOf c) := by
  intro fn c h1 h2 i b Y hY hm
  unfold known at hY
  split at hY
  · rename_i hi
    have hi := Nat.eq_of_beq_eq_true hi
    subst hi
    cases hY
    have : blockOf P f i = b := by
      unfold blockOf
      unfold onceB at hf
      rw [h1] at hf ⊢
      simp only [h2] at hf ⊢
      rw [lookup_once hf hm]
    rw [← this]
    exact hX
  · exact hO fn c h1 h2 i b Y hY hm

def loopOf (P : Program) (f : FuncId) (id : Nat) : Code := match blockOf P f id with | .loop a => a | _ => .skip

def outOf (id : Nat) : Ex → Ex
  | .exit j => if j = id then .normal else .exit j
  | e => e

theorem good_loop {P : Program} {T : Table} {O' : Known} {f : FuncId} {id k : Nat} {W : List Nat} {tm : List AV} {h : AH} {e1 : Ex} {outs : List (Nat × AV)} {hp : AH} {s' : St} (hb : blockOf P f id = .loop (loopOf P f id)) (hid : O' id = none) (Lc n N : Nat)
    (h1 : ∀ L, (loopIter (evCode P (evCall P T Lc n) L O' (loopOf P f id)) (N + 1) ⟨untagL tm, h.map untagL⟩).run = some (e1, s')) (hl : Leaves k W (untagL tm) outs hp s') :
    Good P T O' f id k W ⟨tm, h⟩ (outOf id e1) outs hp s' := by
  refine ⟨⟨N + 1, Lc, n, ?_⟩, hl⟩
  simp only [evCode, hid, Tr.run_bind]
  rw [hb]
  simp only [evCode]
  rw [h1 (N + 1)]
  cases e1 <;> rfl

theorem run_t {α : Type} {b : Bool} {t e : Tr α} (h : b = true) : (Tr.node b t e).run = t.run := by simp [Tr.run, h]
theorem run_f {α : Type} {b : Bool} {t e : Tr α} (h : b = false) : (Tr.node b t e).run = e.run := by simp [Tr.run, h]

/-- A loop, round by round. -/
theorem loop_run {rnd : Nat → St → Tr (Ex × St)} (Inv : Nat → St → Prop) (Done : Ex → St → Prop)
    (h : ∀ m s, Inv m s → ∃ e s', (∀ L, (rnd L s).run = some (e, s')) ∧ (match e with | .normal => ∃ m', m' < m ∧ Inv m' s' | e => Done e s')) :
    ∀ m s, Inv m s → ∃ N e s', (∀ L, (loopIter (rnd L) (N + 1) s).run = some (e, s')) ∧ e ≠ .normal ∧ Done e s' := by
  intro m
  induction m using Nat.strongRecOn with
  | _ m ih =>
    intro s hI
    obtain ⟨e, s', h1, h2⟩ := h m s hI
    cases e with
    | normal =>
      obtain ⟨m', hm, hI'⟩ := h2
      obtain ⟨N, e, s2, h3, h4, h5⟩ := ih m' hm s' hI'
      refine ⟨N + 1, e, s2, fun L => ?_, h4, h5⟩
      rw [loopIter, Tr.run_bind, h1]
      exact h3 L
    | exit id =>
      refine ⟨0, .exit id, s', fun L => ?_, by simp, h2⟩
      rw [loopIter, Tr.run_bind, h1]
      rfl
    | ret =>
      refine ⟨0, .ret, s', fun L => ?_, by simp, h2⟩
      rw [loopIter, Tr.run_bind, h1]
      rfl

end Go.Sky
namespace Go.Sky
theorem blocks_mem {c : Code} : ∀ {l : List (Nat × Code)} {id : Nat}, l.lookup id = some c → (id, c) ∈ l
  | (i, x) :: r, j, h => by
    rw [List.lookup_cons] at h
    split at h
    · rename_i hb; cases h; have := eq_of_beq hb; subst this; exact List.mem_cons_self
    · exact List.mem_cons_of_mem _ (blocks_mem h)

theorem blocks_sub : ∀ {c : Code} {id : Nat} {b : Code}, (id, b) ∈ blocksOf c → ∀ p ∈ blocksOf b, p ∈ blocksOf c := by
  intro c
  induction c with
  | seq x y ihx ihy =>
    intro id b h p hp
    simp only [blocksOf, List.mem_append] at h ⊢
    rcases h with h | h
    · exact .inl (ihx h p hp)
    · exact .inr (ihy h p hp)
  | cond q x y ihx ihy =>
    intro id b h p hp
    simp only [blocksOf, List.mem_append] at h ⊢
    rcases h with h | h
    · exact .inl (ihx h p hp)
    · exact .inr (ihy h p hp)
  | block i x ih =>
    intro id b h p hp
    simp only [blocksOf, List.mem_cons] at h ⊢
    rcases h with h | h
    · cases h; exact .inr hp
    · exact .inr (ih h p hp)
  | loop x ih => intro id b h p hp; simp only [blocksOf] at h ⊢; exact ih h p hp
  | scope x ih => intro id b h p hp; simp only [blocksOf] at h ⊢; exact ih h p hp
  | _ => intro id b h; simp [blocksOf] at h

/-- Is there a block of that number? -/
def hasB (P : Program) (f : FuncId) (id : Nat) : Bool :=
  match P.funcs[f]? with
  | some fn => match fn.body with
    | some c => ((blocksOf c).lookup id).isSome
    | none => false
  | none => false

theorem known_in {P : Program} {f : FuncId} {id : Nat} {O : Known} (hh : hasB P f id = true) (hO : ∀ fn c, P.funcs[f]? = some fn → fn.body = some c → KnownOk P O (blocksOf c)) : KnownOk P O (blocksOf (.block id (blockOf P f id))) := by
  unfold hasB at hh
  cases hf : P.funcs[f]? with
  | none => rw [hf] at hh; cases hh
  | some fn =>
    cases hc : fn.body with
    | none => rw [hf] at hh; simp [hc] at hh
    | some c =>
      rw [hf] at hh
      simp only [hc] at hh
      cases hl : (blocksOf c).lookup id with
      | none => rw [hl] at hh; cases hh
      | some b =>
        have hb : blockOf P f id = b := by unfold blockOf; rw [hf]; simp only [hc, hl]
        have hm := blocks_mem hl
        intro i x X h1 h2
        refine hO fn c hf hc i x X h1 ?_
        rw [hb] at h2
        simp only [blocksOf, List.mem_cons] at h2
        rcases h2 with h2 | h2
        · cases h2; exact hm
        · exact blocks_sub hm _ h2
end Go.Sky
