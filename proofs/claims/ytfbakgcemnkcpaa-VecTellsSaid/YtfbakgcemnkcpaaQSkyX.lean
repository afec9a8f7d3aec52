/- Entries out of contracts of the shelf, and of functions without a body. -/
import Derived.Test.YtfbakgcemnkcpaaQSkyNum
import Derived.Laws.Externs
import Derived.Shelf.Small.Bits
set_option linter.unusedSimpArgs false
set_option linter.unusedVariables false
namespace Go.Sky
open Go.RowKit (Below)

theorem entry_calls {P : Program} (hp : ProgOk P) {f : FuncId} {e : Entry} (hb : ((P.funcs[f]?).bind (·.body)).isSome = true)
    (h : ∀ args t v, e args = some t → t.run = some v → ∀ φ cs, LRel φ args cs → ∃ u, (∀ ψ, ARel ψ v u) ∧ ∀ w, Calls P f cs.toArray w fun x w' => x = .returned u ∧ w' = w) : EntryOk P f e := by
  refine entry_of_calls hp ?_ ?_
  · cases hf : P.funcs[f]? with
    | none => rw [hf] at hb; cases hb
    | some fn =>
      rw [hf] at hb
      cases hc : fn.body with
      | none => simp [hc] at hb
      | some c => exact ⟨fn, c, rfl, hc⟩
  · intro args t v he ht φ w cargs hl
    obtain ⟨u, h1, h2⟩ := h args t v he ht φ _ hl
    refine (h2 w).mono fun x w' hx => ?_
    obtain ⟨rfl, rfl⟩ := hx
    exact ⟨u, rfl, h1, Below.refl _ _⟩

/-- A call out of an entry. -/
theorem calls_of_entry {P : Program} (hp : ProgOk P) {f : FuncId} {e : Entry} (he : EntryOk P f e) (hb : ((P.funcs[f]?).bind (·.body)).isSome = true) {args : List AV} {v : AV} (h : e args = some (.leaf v)) {φ : Ren} {w : World} {cargs : Array Value}
    (hl : LRel φ args cargs.toList) : Calls P f cargs w fun x w' => ∃ u, x = .returned u ∧ (∀ ψ, ARel ψ v u) ∧ Below w.heap.size w w' := by
  cases hf : P.funcs[f]? with
  | none => rw [hf] at hb; cases hb
  | some fn =>
    rw [hf] at hb
    cases hc : fn.body with
    | none => simp [hc] at hb
    | some c =>
      have h0 := callFunc_enter hp hf hc cargs w
      rcases he args _ v h rfl φ w cargs hl with ⟨u, h1, _⟩ | ⟨_, h2⟩
      · rw [h0] at h1; cases h1
      · refine h2.mono fun x w' hx => ?_
        cases x with
        | returned u => exact ⟨u, rfl, hx⟩
        | panicked c => exact hx.elim
        | outgrown => exact hx.elim

theorem ints1 {φ : Ren} {k : IntKind} {l : Bool} {x : Int} {cs : List Value} (h : LRel φ [.int k l x] cs) : cs = [.int k x] ∧ InR k x := by
  simp only [LRel, ARel] at h
  obtain ⟨_, _, rfl, ⟨rfl, h1⟩, rfl⟩ := h
  exact ⟨rfl, h1⟩

theorem ints2 {φ : Ren} {k k' : IntKind} {l l' : Bool} {x y : Int} {cs : List Value} (h : LRel φ [.int k l x, .int k' l' y] cs) : cs = [.int k x, .int k' y] ∧ InR k x ∧ InR k' y := by
  simp only [LRel, ARel] at h
  obtain ⟨_, _, rfl, ⟨rfl, h1⟩, _, _, rfl, ⟨rfl, h2⟩, rfl⟩ := h
  exact ⟨rfl, h1, h2⟩

theorem ints3 {φ : Ren} {k k' k'' : IntKind} {l l' l'' : Bool} {x y z : Int} {cs : List Value} (h : LRel φ [.int k l x, .int k' l' y, .int k'' l'' z] cs) :
    cs = [.int k x, .int k' y, .int k'' z] ∧ InR k x ∧ InR k' y ∧ InR k'' z := by
  simp only [LRel, ARel] at h
  obtain ⟨_, _, rfl, ⟨rfl, h1⟩, _, _, rfl, ⟨rfl, h2⟩, _, _, rfl, ⟨rfl, h3⟩, rfl⟩ := h
  exact ⟨rfl, h1, h2, h3⟩

theorem rel_int {k : IntKind} {n : Int} (h : InR k n) : ∀ ψ, ARel ψ (.int k false n) (.int k n) := fun ψ => by simp only [ARel]; exact ⟨trivial, h⟩
theorem rel_pair {k k' : IntKind} {n m : Int} (h : InR k n) (h' : InR k' m) : ∀ ψ, ARel ψ (.tuple [.int k false n, .int k' false m]) (.tuple #[.int k n, .int k' m]) := fun ψ => by
  simp only [ARel, LRel]
  exact ⟨_, rfl, _, _, rfl, ⟨rfl, h⟩, _, _, rfl, ⟨rfl, h'⟩, rfl⟩

/-- A function without a body of the text. -/
theorem entry_ext {P : Program} {f : FuncId} {e : Entry} (h : ∀ args t v, e args = some t → t.run = some v → ∀ φ cs, LRel φ args cs → ∃ u, (∀ ψ, ARel ψ v u) ∧ ∀ w, (callFunc f cs.toArray).run P w = .ok (.value u) w) : EntryOk P f e := by
  intro args t v he ht φ w cargs hl
  obtain ⟨u, h1, h2⟩ := h args t v he ht φ _ hl
  exact .inl ⟨u, h2 w, h1, Below.refl _ _⟩

theorem bitLen_r (x : Int) (h0 : 0 ≤ x) (h1 : x ≤ 18446744073709551615) : -9223372036854775808 ≤ ((Lib.bitLen x.toNat : Nat) : Int) ∧ ((Lib.bitLen x.toNat : Nat) : Int) ≤ 9223372036854775807 := by
  have : Lib.bitLen x.toNat ≤ 64 := Go.Proofs.Any.bitLen_le64 x h0 h1
  omega

end Go.Sky
