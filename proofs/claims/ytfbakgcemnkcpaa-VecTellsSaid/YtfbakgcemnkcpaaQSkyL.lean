/- Arguments made of numbers and bools: what their reading says. -/
import Derived.Test.YtfbakgcemnkcpaaQSkyK
import Derived.ProofKit
set_option linter.unusedSimpArgs false
set_option linter.unusedVariables false
namespace Go.Sky
open Go.RowKit (Below)

inductive Leaf where
  | bool
  | int (k : IntKind)

def flatFields (P : Program) (sub : TypeId → Option (List Leaf)) : List Field → Nat → Option (List Leaf)
  | [], _ => some []
  | f :: fs, o => if f.offset = o then match sub f.type with
      | some l => if l.length = P.cellsOf f.type then match flatFields P sub fs (o + l.length) with
          | some r => some (l ++ r)
          | none => none
        else none
      | none => none
    else none

/-- A type's cells, if all are numbers and bools, laid one behind the other. -/
def flat (P : Program) : Nat → TypeId → Option (List Leaf)
  | 0, _ => none
  | d + 1, t => match P.underlying t with
    | some .bool => some [.bool]
    | some (.int k) => some [.int k]
    | some (.struct fs) => match flatFields P (flat P d) fs.toList 0 with
      | some l => if l.length = P.cellsOf t then some l else none
      | none => none
    | _ => none

/-- Cells that are of these kinds, each number one of its kind. -/
def Fits : List Leaf → List Value → Prop
  | [], cs => cs = []
  | .bool :: l, cs => ∃ b r, cs = .bool b :: r ∧ Fits l r
  | .int k :: l, cs => ∃ n r, cs = .int k n :: r ∧ (k.min ≤ n ∧ n ≤ k.max) ∧ Fits l r

theorem Fits.append : ∀ {l m : List Leaf} {a b : List Value}, Fits l a → Fits m b → Fits (l ++ m) (a ++ b)
  | [], m, a, b, h, k => by simp only [Fits] at h; subst h; simpa using k
  | .bool :: l, m, a, b, h, k => by simp only [Fits] at h; obtain ⟨x, r, rfl, h⟩ := h; simp only [List.cons_append, Fits]; exact ⟨x, _, rfl, Fits.append h k⟩
  | .int q :: l, m, a, b, h, k => by simp only [Fits] at h; obtain ⟨x, r, rfl, hx, h⟩ := h; simp only [List.cons_append, Fits]; exact ⟨x, _, rfl, hx, Fits.append h k⟩

theorem Fits.length : ∀ {l : List Leaf} {a : List Value}, Fits l a → a.length = l.length
  | [], a, h => by simp only [Fits] at h; subst h; rfl
  | .bool :: l, a, h => by simp only [Fits] at h; obtain ⟨x, r, rfl, h⟩ := h; simp [Fits.length h]
  | .int q :: l, a, h => by simp only [Fits] at h; obtain ⟨x, r, rfl, hx, h⟩ := h; simp [Fits.length h]

section
variable {H : Type} {enc : TypeId × Value → H} {P : Program} {w : World} {base : Nat} {spare : Nat → Bool} {held : Bool}

theorem flat_fits : ∀ (d : Nat) (t : TypeId) (l : List Leaf) (fuel : Nat) (cs : List Value) (x : DataW H × List MemPlace), flat P d t = some l → DataW.trod enc P w base spare held fuel t cs = some x → Fits l cs ∧ x.2 = [] := by
  intro d
  induction d with
  | zero => intro t l fuel cs x h; simp [flat] at h
  | succ d ih =>
    intro t l fuel cs x h hx
    cases fuel with
    | zero => simp [DataW.trod] at hx
    | succ fuel =>
      have hfields : ∀ (fs : List Field) (o : Nat) (l : List Leaf) (xs : List (DataW H × List MemPlace)), flatFields P (flat P d) fs o = some l →
          (fs.mapM fun f => DataW.trod enc P w base spare held fuel f.type ((cs.drop f.offset).take (P.cellsOf f.type))) = some xs → Fits l ((cs.drop o).take l.length) ∧ xs.flatMap (·.2) = [] := by
        intro fs
        induction fs with
        | nil => intro o l xs h1 h2; simp only [flatFields, Option.some.injEq] at h1; subst h1; simp at h2; subst h2; simp [Fits]
        | cons f fs ihf =>
          intro o l xs h1 h2
          simp only [flatFields] at h1
          split at h1
          · rename_i ho
            split at h1
            · rename_i lf hlf
              split at h1
              · rename_i hlen
                split at h1
                · rename_i r hr
                  simp only [Option.some.injEq] at h1
                  subst h1
                  rw [List.mapM_cons] at h2
                  simp only [Option.bind_eq_bind, Option.bind_eq_some_iff, Option.pure_def, Option.some.injEq] at h2
                  obtain ⟨y, hy, ys, hys, rfl⟩ := h2
                  obtain ⟨g1, g2⟩ := ih f.type lf fuel _ y hlf hy
                  obtain ⟨k1, k2⟩ := ihf (o + lf.length) r ys hr hys
                  rw [ho, ← hlen] at g1
                  refine ⟨?_, by simp [g2, k2]⟩
                  have := Fits.append g1 k1
                  rw [List.length_append, ← List.take_append_drop lf.length ((cs.drop o).take (lf.length + r.length)), List.take_take, List.drop_take, List.drop_drop]
                  rw [Nat.min_eq_left (by omega), show lf.length + r.length - lf.length = r.length by omega]
                  exact this
                · cases h1
              · cases h1
            · cases h1
          · cases h1
      simp only [flat] at h
      cases hu : P.underlying t with
      | none => simp [hu] at h
      | some desc =>
        rw [hu] at h
        match desc, hu, h with
        | .bool, hu, h =>
          simp only [Option.some.injEq] at h
          subst h
          obtain ⟨b, rfl, rfl⟩ := DataW.trod_bool hu hx
          exact ⟨by simp only [Fits]; exact ⟨b, [], rfl, rfl⟩, rfl⟩
        | .int k, hu, h =>
          simp only [Option.some.injEq] at h
          subst h
          obtain ⟨n, rfl, rfl, hn⟩ := DataW.trod_int hu hx
          refine ⟨?_, rfl⟩
          simp only [Fits]
          simp only [Lit.wf, Bool.and_eq_true, decide_eq_true_eq] at hn
          exact ⟨n, [], rfl, hn, rfl⟩
        | .struct fs, hu, h =>
          unfold DataW.trod at hx
          rw [hu] at hx
          simp only at hx h
          split at h
          · rename_i lf hlf
            split at h
            · rename_i hlen
              simp only [Option.some.injEq] at h
              subst h
              split at hx
              · rename_i hcl
                simp only [Option.map_eq_some_iff] at hx
                obtain ⟨xs, hxs, rfl⟩ := hx
                obtain ⟨g1, g2⟩ := hfields fs.toList 0 lf xs hlf hxs
                refine ⟨?_, g2⟩
                rw [List.drop_zero, hlen, ← hcl, List.take_length] at g1
                exact g1
              · cases hx
            · cases h
          · cases h

/-- An argument that is a struct of numbers and bools. -/
theorem open_flat {r : Reach} {b0 : Nat} {t : TypeId} {fs : Array Field} {l : List Leaf} {v : Value} {d : DataW H} {p : List MemPlace} (hs : P.underlying t = some (.struct fs)) (hl : flat P 8 t = some l)
    (hv : Value.okWide P w r b0 t v) (h : DataW.Trod enc P w base spare held t v d p) : ∃ cs : Array Value, v = .agg cs ∧ Fits l cs.toList ∧ p = [] := by
  obtain ⟨cs, rfl, hsz⟩ := WideShapes.okWide_struct hs hv
  obtain ⟨fuel, hf⟩ := h
  obtain ⟨h1, h2⟩ := flat_fits 8 t l fuel _ _ hl hf
  exact ⟨cs, rfl, h1, h2⟩

end

/-- Cells that are written out. -/
theorem arr_of {cs : Array Value} {l : List Value} (h : cs.toList = l) : cs = l.toArray := by rw [← h]

end Go.Sky
