/- The evaluator's operations against the machine's. -/
import Derived.Test.YtfbakgcemnkcpaaQSkyB
namespace Go.Sky
open Go.RowKit (Below)

theorem opt_run {α : Type} {x : Option α} {k : α → Ans} {r : AV × AH} (h : (opt x k).run = some r) : ∃ a, x = some a ∧ (k a).run = some r := by
  cases x with
  | none => simp [opt, Tr.run] at h
  | some a => exact ⟨a, rfl, h⟩

theorem val_run {v : AV} {h : AH} {r : AV × AH} (e : (val v h).run = some r) : r = (v, h) := by simp only [val, Tr.run, Option.some.injEq] at e; exact e.symm

theorem ev_rel {φ : Ren} {s : St} {a : Act} (ht : LRel φ s.tmps a.tmps.toList) {x : Operand} {u : AV} (h : s.ev x = some u) : ARel φ u (a.eval x) := by
  cases x with
  | tmp t => simp only [St.ev, Option.some.injEq] at h; subst h; exact LRel.getD t ht
  | const v => exact ofConst_rel v u h
  | global g => simp [St.ev] at h
  | func f => simp only [St.ev, Option.some.injEq] at h; subst h; simp [ARel, LRel, Act.eval]

theorem evs_rel {φ : Ren} {s : St} {a : Act} (ht : LRel φ s.tmps a.tmps.toList) : ∀ {l : List Operand} {us : List AV}, s.evs l = some us → LRel φ us (l.map a.eval)
  | [], us, h => by simp only [St.evs, Option.some.injEq] at h; subst h; simp [LRel]
  | x :: xs, us, h => by
    simp only [St.evs] at h
    cases hx : s.ev x with
    | none => simp [hx] at h
    | some u =>
      cases hl : s.evs xs with
      | none => simp [hx, hl] at h
      | some l => simp only [hx, hl, Option.some.injEq] at h; subst h; simp only [List.map_cons, LRel]; exact ⟨_, _, rfl, ev_rel ht hx, evs_rel ht hl⟩

def PRel (φ : Ren) : List (Nat × AV) → List (Nat × Value) → Prop
  | [], l => l = []
  | (i, x) :: xs, l => ∃ y ys, l = (i, y) :: ys ∧ ARel φ x y ∧ PRel φ xs ys

theorem evParts_rel {φ : Ren} {s : St} {a : Act} (ht : LRel φ s.tmps a.tmps.toList) : ∀ {l : List (Nat × Operand)} {us : List (Nat × AV)}, evParts s l = some us → PRel φ us (l.map fun p => (p.1, a.eval p.2))
  | [], us, h => by simp only [evParts, Option.some.injEq] at h; subst h; simp [PRel]
  | (i, x) :: xs, us, h => by
    simp only [evParts] at h
    cases hx : s.ev x with
    | none => simp [hx] at h
    | some u =>
      cases hl : evParts s xs with
      | none => simp [hx, hl] at h
      | some l => simp only [hx, hl, Option.some.injEq] at h; subst h; simp only [List.map_cons, PRel]; exact ⟨_, _, rfl, ev_rel ht hx, evParts_rel ht hl⟩

theorem cells_rel {φ : Ren} {x : AV} {v : Value} (h : ARel φ x v) : LRel φ x.cells v.cells.toList := by
  cases x with
  | agg cs => simp only [ARel] at h; obtain ⟨cs', rfl, h⟩ := h; exact h
  | ptr p =>
    cases p with
    | none => have h' := h; simp only [ARel] at h'; subst h'; simp only [AV.cells, Value.cells, LRel]; exact ⟨_, _, rfl, h, rfl⟩
    | some p => obtain ⟨b, o⟩ := p; have h' := h; simp only [ARel] at h'; obtain ⟨c, _, rfl⟩ := h'; simp only [AV.cells, Value.cells, LRel]; exact ⟨_, _, rfl, h, rfl⟩
  | slice p n k =>
    cases p with
    | none => have h' := h; simp only [ARel] at h'; subst h'; simp only [AV.cells, Value.cells, LRel]; exact ⟨_, _, rfl, h, rfl⟩
    | some p => obtain ⟨b, o⟩ := p; have h' := h; simp only [ARel] at h'; obtain ⟨c, _, rfl⟩ := h'; simp only [AV.cells, Value.cells, LRel]; exact ⟨_, _, rfl, h, rfl⟩
  | func fn f c => have h' := h; simp only [ARel] at h'; obtain ⟨_, _, rfl, _⟩ := h'; simp only [AV.cells, Value.cells, LRel]; exact ⟨_, _, rfl, h, rfl⟩
  | iface t x => have h' := h; simp only [ARel] at h'; obtain ⟨_, rfl, _⟩ := h'; simp only [AV.cells, Value.cells, LRel]; exact ⟨_, _, rfl, h, rfl⟩
  | tuple vs => have h' := h; simp only [ARel] at h'; obtain ⟨_, rfl, _⟩ := h'; simp only [AV.cells, Value.cells, LRel]; exact ⟨_, _, rfl, h, rfl⟩
  | int k l n => have h' := h; simp only [ARel] at h'; obtain ⟨rfl, _⟩ := h'; simp only [AV.cells, Value.cells, LRel]; exact ⟨_, _, rfl, h, rfl⟩
  | _ => have h' := h; simp only [ARel] at h'; subst h'; simp only [AV.cells, Value.cells, LRel]; exact ⟨_, _, rfl, h, rfl⟩

/-! ### types -/
section
variable {P : Program} {w : World}

theorem run_info {t : TypeId} {i : TypeInfo} (h : P.info? t = some i) : (typeInfo t).run P w = .ok i w := by simp [typeInfo, h]

theorem zeroA_rel {φ : Ren} {t : TypeId} {z : AV} (h : zeroA P t = some z) : ∃ v, (zeroValue t).run P w = .ok v w ∧ ARel φ z v := by
  unfold zeroA at h
  cases hi : P.info? t with
  | none => simp [hi] at h
  | some i =>
    simp only [hi] at h
    cases hz : i.zero with
    | none => simp [hz] at h
    | some v => simp only [hz] at h; exact ⟨v, by simp [zeroValue, run_info hi, hz], ofConst_rel v z h⟩

theorem sizeA_run {t : TypeId} {n : Nat} (h : sizeA P t = some n) : (sizeOf t).run P w = .ok n w := by
  unfold sizeA at h
  cases hi : P.info? t with
  | none => simp [hi] at h
  | some i => simp only [hi, Option.map_some, Option.some.injEq] at h; subst h; simp [sizeOf, run_info hi]

theorem isAggA_run {t : TypeId} {b : Bool} (h : isAggA P t = some b) : (isAgg t).run P w = .ok b w := by
  unfold isAggA at h
  cases hu : P.underlying t with
  | none => simp [hu] at h
  | some d =>
    simp only [hu] at h
    simp only [isAgg, Sem.run_bind, run_underlying hu, Result.andThen_ok]
    cases d <;> simp_all

theorem sizeA_info {t : TypeId} {i : TypeInfo} (h : P.info? t = some i) : sizeA P t = some i.size := by simp [sizeA, h]

theorem part_rel {φ : Ren} {t : TypeId} {cs : List AV} {cs' : Array Value} {off : Nat} {r : AV} (hc : LRel φ cs cs'.toList) (h : partA P t cs off = some r) :
    ∃ v, (part t cs' off).run P w = .ok v w ∧ ARel φ r v := by
  unfold partA eqA.part at h
  cases hi : P.info? t with
  | none => simp [hi] at h
  | some i =>
    cases hu : P.underlying t with
    | none => simp [hi, hu] at h
    | some d =>
      have key : isAggA P t = some true → r = .agg ((cs.take (off + i.size)).drop off) → ∃ v, (part t cs' off).run P w = .ok v w ∧ ARel φ r v := by
        intro hag hr
        refine ⟨.agg (cs'.extract off (off + i.size)), by simp [part, isAggA_run hag, sizeA_run (sizeA_info hi)], ?_⟩
        subst hr
        simp only [ARel]
        refine ⟨_, rfl, ?_⟩
        rw [Array.toList_extract, List.extract_eq_take_drop, List.drop_take]
        have : off + i.size - off = i.size := by omega
        rw [this]
        exact LRel.take _ (LRel.drop _ hc)
      have key2 : isAggA P t = some false → cs[off]? = some r → ∃ v, (part t cs' off).run P w = .ok v w ∧ ARel φ r v := by
        intro hag hr
        obtain ⟨v, hv, hrel⟩ := LRel.get hc hr
        rw [Array.getElem?_toList] at hv
        exact ⟨v, by simp [part, isAggA_run hag, hv], hrel⟩
      cases d <;> simp only [hi, hu] at h
      case struct f => exact key (by simp [isAggA, hu]) (by simpa using h.symm)
      case array n e => exact key (by simp [isAggA, hu]) (by simpa using h.symm)
      all_goals exact key2 (by simp [isAggA, hu]) h

end

theorem setFrom_rel {φ : Ren} : ∀ {vs : List AV} {us : List Value} {cells : List AV} {cells' : Array Value} {off : Nat} {j : Nat},
    LRel φ vs us → LRel φ cells cells'.toList →
    LRel φ (fillA.setFrom cells (off + j) vs) ((us.zipIdx j).foldl (fun cs (p : Value × Nat) => cs.setIfInBounds (off + p.2) p.1) cells').toList
  | [], us, cells, cells', off, j, hv, hc => by simp only [LRel] at hv; subst hv; simpa [fillA.setFrom] using hc
  | x :: xs, us, cells, cells', off, j, hv, hc => by
    simp only [LRel] at hv
    obtain ⟨u, us, rfl, h1, h2⟩ := hv
    simp only [fillA.setFrom, List.zipIdx_cons, List.foldl_cons]
    have := setFrom_rel (cells := cells.set (off + j) x) (cells' := cells'.setIfInBounds (off + j) u) (off := off) (j := j + 1) h2 (by rw [Array.toList_setIfInBounds]; exact LRel.set h1 hc)
    simpa [Nat.add_assoc] using this

theorem setFrom_length : ∀ (vs : List AV) (cells : List AV) (off : Nat), (fillA.setFrom cells off vs).length = cells.length
  | [], _, _ => rfl
  | _ :: vs, _, _ => by simp [fillA.setFrom, setFrom_length vs]

theorem fill_rel {φ : Ren} {place : Nat → Option (Nat × Nat)} : ∀ {ps : List (Nat × AV)} {qs : List (Nat × Value)} {cells : List AV} {cells' : Array Value} {r : List AV},
    PRel φ ps qs → LRel φ cells cells'.toList → fillA place cells ps = some r → ∃ r', Instr.fill place cells' qs = some r' ∧ LRel φ r r'.toList
  | [], qs, cells, cells', r, hp, hc, h => by simp only [PRel] at hp; subst hp; simp only [fillA, Option.some.injEq] at h; subst h; exact ⟨cells', rfl, hc⟩
  | (i, x) :: ps, qs, cells, cells', r, hp, hc, h => by
    simp only [PRel] at hp
    obtain ⟨y, ys, rfl, h1, h2⟩ := hp
    simp only [fillA] at h
    simp only [Instr.fill]
    cases hpl : place i with
    | none => simp [hpl] at h
    | some q =>
      obtain ⟨off, size⟩ := q
      simp only [hpl] at h ⊢
      have hl := LRel.length (cells_rel h1)
      have hl2 := LRel.length hc
      simp only [Array.length_toList] at hl hl2
      split at h
      · cases h
      · rename_i hn
        rw [if_neg (by rw [← hl, ← hl2]; simpa using hn)]
        have hs := setFrom_rel (off := off) (j := 0) (cells_rel h1) hc
        simp only [Nat.add_zero] at hs
        refine fill_rel h2 ?_ h
        rw [← Array.foldl_toList, Array.toList_zipIdx]
        exact hs

end Go.Sky
