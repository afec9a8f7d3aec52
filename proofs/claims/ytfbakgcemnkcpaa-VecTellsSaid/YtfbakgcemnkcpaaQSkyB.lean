/- The evaluator's values against the machine's: the relation, and memory. -/
import Derived.Test.YtfbakgcemnkcpaaQSkyA
namespace Go.Sky
open Go.RowKit (Below)

abbrev Ren := Nat → Option Nat

mutual
/-- The evaluator's value stands for the machine's, its blocks numbered by 'φ'. -/
def ARel (φ : Ren) : AV → Value → Prop
  | .bool _ b, v => v = .bool b
  | .int k _ n, v => v = .int k n ∧ InR k n
  | .str _ s, v => v = .string s
  | .ptr none, v => v = .pointer none
  | .ptr (some (b, o)), v => ∃ c, φ b = some c ∧ v = .pointer (some ⟨c, o, none⟩)
  | .slice none n k, v => v = .slice none n k
  | .slice (some (b, o)) n k, v => ∃ c, φ b = some c ∧ v = .slice (some ⟨c, o, none⟩) n k
  | .func fn fs cs, v => ∃ fs' cs', v = .func fn fs' cs' ∧ LRel φ fs fs'.toList ∧ LRel φ cs cs'.toList
  | .nilFunc, v => v = .nilFunc
  | .iface t x, v => ∃ y, v = .iface t y ∧ ARel φ x y
  | .nilIface, v => v = .nilIface
  | .agg cs, v => ∃ cs', v = .agg cs' ∧ LRel φ cs cs'.toList
  | .tuple cs, v => ∃ cs', v = .tuple cs' ∧ LRel φ cs cs'.toList
def LRel (φ : Ren) : List AV → List Value → Prop
  | [], l => l = []
  | x :: xs, l => ∃ y ys, l = y :: ys ∧ ARel φ x y ∧ LRel φ xs ys
end

def Ren.le (φ ψ : Ren) : Prop := ∀ b c, φ b = some c → ψ b = some c
theorem Ren.le_refl (φ : Ren) : φ.le φ := fun _ _ h => h
theorem Ren.le_trans {φ ψ χ : Ren} (h : φ.le ψ) (k : ψ.le χ) : φ.le χ := fun b c e => k b c (h b c e)

mutual
theorem ARel.mono {φ ψ : Ren} (h : φ.le ψ) : ∀ (x : AV) (v : Value), ARel φ x v → ARel ψ x v
  | .bool _ _, _, e => by simpa only [ARel] using e
  | .int _ _ _, _, e => by simpa only [ARel] using e
  | .str _ _, _, e => by simpa only [ARel] using e
  | .ptr none, _, e => by simpa only [ARel] using e
  | .ptr (some (_, _)), _, e => by simp only [ARel] at e ⊢; obtain ⟨c, hc, rfl⟩ := e; exact ⟨c, h _ _ hc, rfl⟩
  | .slice none _ _, _, e => by simpa only [ARel] using e
  | .slice (some (_, _)) _ _, _, e => by simp only [ARel] at e ⊢; obtain ⟨c, hc, rfl⟩ := e; exact ⟨c, h _ _ hc, rfl⟩
  | .func _ fs cs, _, e => by
    simp only [ARel] at e ⊢; obtain ⟨fs', cs', rfl, h1, h2⟩ := e; exact ⟨fs', cs', rfl, LRel.mono h fs _ h1, LRel.mono h cs _ h2⟩
  | .nilFunc, _, e => by simpa only [ARel] using e
  | .iface _ x, _, e => by simp only [ARel] at e ⊢; obtain ⟨y, rfl, h1⟩ := e; exact ⟨y, rfl, ARel.mono h x y h1⟩
  | .nilIface, _, e => by simpa only [ARel] using e
  | .agg cs, _, e => by simp only [ARel] at e ⊢; obtain ⟨cs', rfl, h1⟩ := e; exact ⟨cs', rfl, LRel.mono h cs _ h1⟩
  | .tuple cs, _, e => by simp only [ARel] at e ⊢; obtain ⟨cs', rfl, h1⟩ := e; exact ⟨cs', rfl, LRel.mono h cs _ h1⟩
theorem LRel.mono {φ ψ : Ren} (h : φ.le ψ) : ∀ (x : List AV) (v : List Value), LRel φ x v → LRel ψ x v
  | [], _, e => by simpa only [LRel] using e
  | x :: xs, _, e => by
    simp only [LRel] at e ⊢; obtain ⟨y, ys, rfl, h1, h2⟩ := e; exact ⟨y, ys, rfl, ARel.mono h x y h1, LRel.mono h xs ys h2⟩
end

theorem ARel.undef {φ : Ren} : ARel φ .undef Go.undef := by simp [ARel, LRel, Go.undef]

theorem wrap_inR (k : IntKind) (n : Int) : InR k (k.wrap n) := by
  unfold InR
  cases k <;> simp [IntKind.wrap, IntKind.min, IntKind.max, IntKind.bits, IntKind.signed] <;> (try split) <;> omega

/-! ### lists -/

theorem LRel.length {φ : Ren} : ∀ {l : List AV} {m : List Value}, LRel φ l m → l.length = m.length
  | [], _, h => by simp only [LRel] at h; subst h; rfl
  | _ :: xs, _, h => by simp only [LRel] at h; obtain ⟨y, ys, rfl, _, h2⟩ := h; simp [LRel.length h2]

theorem LRel.get {φ : Ren} : ∀ {l : List AV} {m : List Value} {i : Nat} {x : AV}, LRel φ l m → l[i]? = some x → ∃ v, m[i]? = some v ∧ ARel φ x v
  | [], _, i, _, _, e => by simp at e
  | y :: ys, _, 0, x, h, e => by simp only [LRel] at h; obtain ⟨v, vs, rfl, h1, _⟩ := h; simp at e; subst e; exact ⟨v, rfl, h1⟩
  | y :: ys, _, i + 1, x, h, e => by simp only [LRel] at h; obtain ⟨v, vs, rfl, _, h2⟩ := h; simp at e ⊢; exact LRel.get h2 e

theorem LRel.getD {φ : Ren} {l : List AV} {m : Array Value} (i : Nat) (h : LRel φ l m.toList) : ARel φ (l.getD i .undef) (m.getD i Go.undef) := by
  by_cases hi : i < l.length
  · obtain ⟨v, hv, hr⟩ := LRel.get (i := i) h (List.getElem?_eq_getElem hi)
    have : m.getD i Go.undef = v := by
      rw [Array.getElem?_toList] at hv
      simp [Array.getD_eq_getD_getElem?, hv]
    rw [this, List.getD_eq_getElem?_getD, List.getElem?_eq_getElem hi]; exact hr
  · have h2 : ¬ i < m.size := by have := LRel.length h; simp at this; omega
    rw [List.getD_eq_getElem?_getD, List.getElem?_eq_none (by omega), Array.getD_eq_getD_getElem?, Array.getElem?_eq_none (by omega)]
    exact ARel.undef

theorem LRel.set {φ : Ren} {x : AV} {v : Value} (hx : ARel φ x v) : ∀ {l : List AV} {m : List Value} {i : Nat}, LRel φ l m → LRel φ (l.set i x) (m.set i v)
  | [], _, _, h => by simp only [LRel] at h; subst h; simp [LRel]
  | y :: ys, _, 0, h => by simp only [LRel] at h; obtain ⟨u, us, rfl, h1, h2⟩ := h; simp only [List.set, LRel]; exact ⟨v, us, rfl, hx, h2⟩
  | y :: ys, _, i + 1, h => by simp only [LRel] at h; obtain ⟨u, us, rfl, h1, h2⟩ := h; simp only [List.set, LRel]; exact ⟨u, _, rfl, h1, LRel.set hx h2⟩

theorem LRel.append {φ : Ren} : ∀ {l l' : List AV} {m m' : List Value}, LRel φ l m → LRel φ l' m' → LRel φ (l ++ l') (m ++ m')
  | [], _, _, _, h, h' => by simp only [LRel] at h; subst h; simpa using h'
  | y :: ys, _, _, _, h, h' => by simp only [LRel] at h; obtain ⟨u, us, rfl, h1, h2⟩ := h; simp only [List.cons_append, LRel]; exact ⟨u, _, rfl, h1, LRel.append h2 h'⟩

theorem LRel.drop {φ : Ren} : ∀ {l : List AV} {m : List Value} (n : Nat), LRel φ l m → LRel φ (l.drop n) (m.drop n)
  | _, _, 0, h => by simpa using h
  | [], _, n + 1, h => by simp only [LRel] at h; subst h; simp [LRel]
  | y :: ys, _, n + 1, h => by simp only [LRel] at h; obtain ⟨u, us, rfl, h1, h2⟩ := h; simpa using LRel.drop n h2

theorem LRel.take {φ : Ren} : ∀ {l : List AV} {m : List Value} (n : Nat), LRel φ l m → LRel φ (l.take n) (m.take n)
  | _, _, 0, h => by simp [LRel]
  | [], _, n + 1, h => by simp only [LRel] at h; subst h; simp [LRel]
  | y :: ys, _, n + 1, h => by simp only [LRel] at h; obtain ⟨u, us, rfl, h1, h2⟩ := h; simp only [List.take, LRel]; exact ⟨u, _, rfl, h1, LRel.take n h2⟩

theorem LRel.replicate {φ : Ren} (n : Nat) : LRel φ (List.replicate n .undef) (List.replicate n Go.undef) := by
  induction n with
  | zero => simp [LRel]
  | succ n ih => simp only [List.replicate_succ, LRel]; exact ⟨_, _, rfl, ARel.undef, ih⟩

/-! ### constants -/

mutual
theorem ofConst_rel {φ : Ren} : ∀ (v : Value) (x : AV), ofConst v = some x → ARel φ x v
  | .bool b, x, h => by simp only [ofConst, Option.some.injEq] at h; subst h; simp [ARel]
  | .int k n, x, h => by
    simp only [ofConst] at h
    split at h
    · rename_i hn; simp only [Option.some.injEq] at h; subst h; simp only [ARel]; exact ⟨trivial, hn⟩
    · cases h
  | .string s, x, h => by simp only [ofConst, Option.some.injEq] at h; subst h; simp [ARel]
  | .pointer none, x, h => by simp only [ofConst, Option.some.injEq] at h; subst h; simp [ARel]
  | .pointer (some _), x, h => by simp [ofConst] at h
  | .slice none n k, x, h => by simp only [ofConst, Option.some.injEq] at h; subst h; simp [ARel]
  | .slice (some _) n k, x, h => by simp [ofConst] at h
  | .nilFunc, x, h => by simp only [ofConst, Option.some.injEq] at h; subst h; simp [ARel]
  | .nilIface, x, h => by simp only [ofConst, Option.some.injEq] at h; subst h; simp [ARel]
  | .agg ⟨cs⟩, x, h => by
    simp only [ofConst] at h
    cases hl : ofConstL cs with
    | none => simp [hl] at h
    | some l => simp only [hl, Option.some.injEq] at h; subst h; simp only [ARel]; exact ⟨⟨cs⟩, rfl, ofConstL_rel cs l hl⟩
  | .tuple ⟨cs⟩, x, h => by
    simp only [ofConst] at h
    cases hl : ofConstL cs with
    | none => simp [hl] at h
    | some l => simp only [hl, Option.some.injEq] at h; subst h; simp only [ARel]; exact ⟨⟨cs⟩, rfl, ofConstL_rel cs l hl⟩
  | .float _ _, x, h => by simp [ofConst] at h
  | .complex _ _ _, x, h => by simp [ofConst] at h
  | .map _, x, h => by simp [ofConst] at h
  | .chan _, x, h => by simp [ofConst] at h
  | .func _ _ _, x, h => by simp [ofConst] at h
  | .iface _ _, x, h => by simp [ofConst] at h
theorem ofConstL_rel {φ : Ren} : ∀ (v : List Value) (x : List AV), ofConstL v = some x → LRel φ x v
  | [], x, h => by simp only [ofConstL, Option.some.injEq] at h; subst h; simp [LRel]
  | v :: vs, x, h => by
    simp only [ofConstL] at h
    cases hv : ofConst v with
    | none => simp [hv] at h
    | some a =>
      cases hl : ofConstL vs with
      | none => simp [hv, hl] at h
      | some l => simp only [hv, hl, Option.some.injEq] at h; subst h; simp only [LRel]; exact ⟨v, vs, rfl, ofConst_rel v a hv, ofConstL_rel vs l hl⟩
end

/-! ### memory -/

/-- The evaluator's memory stands for a part of the world's. -/
structure HRel (B : Nat) (w0 : World) (φ : Ren) (h : AH) (w : World) : Prop where
  cells : ∀ b cs, h[b]? = some cs → ∃ c cs' e, φ b = some c ∧ w.heap[c]? = some (.cells cs' e (0, 0)) ∧ LRel φ cs cs'.toList
  inj : ∀ b b' c, φ b = some c → φ b' = some c → b = b'
  dom : ∀ b c, φ b = some c → b < h.length
  rng : ∀ b c, φ b = some c → B ≤ c
  below : Below B w0 w
  base : B ≤ w0.heap.size

theorem HRel.lt {B : Nat} {w0 : World} {φ : Ren} {h : AH} {w : World} (H : HRel B w0 φ h w) {b c : Nat} (e : φ b = some c) : c < w.heap.size := by
  have hb := H.dom b c e
  obtain ⟨c', cs', t, e', hw, _⟩ := H.cells b h[b] (List.getElem?_eq_getElem hb)
  rw [e] at e'; cases e'
  rcases Nat.lt_or_ge c w.heap.size with h | h
  · exact h
  · rw [Array.getElem?_eq_none h] at hw; cases hw

/-- One more block. -/
def Ren.with (φ : Ren) (b c : Nat) : Ren := fun i => if i = b then some c else φ i

theorem HRel.alloc {B : Nat} {w0 : World} {φ : Ren} {h : AH} {w : World} (H : HRel B w0 φ h w) {cs : List AV} {cs' : Array Value} (t : TypeId)
    (hc : LRel φ cs cs'.toList) : φ.le (φ.with h.length w.heap.size) ∧ HRel B w0 (φ.with h.length w.heap.size) (h ++ [cs]) (w.alloc (.cells cs' t)) := by
  have le : φ.le (φ.with h.length w.heap.size) := by
    intro b c e
    have := H.dom b c e
    simp only [Ren.with]; rw [if_neg (by omega)]; exact e
  refine ⟨le, ⟨?_, ?_, ?_, ?_, ?_, H.base⟩⟩
  · intro b ds hb
    by_cases hbl : b < h.length
    · rw [List.getElem?_append_left hbl] at hb
      obtain ⟨c, ds', e, h1, h2, h3⟩ := H.cells b ds hb
      refine ⟨c, ds', e, le _ _ h1, ?_, LRel.mono le _ _ h3⟩
      rw [Below.heap_alloc _ _ _ (H.lt h1)]; exact h2
    · have hb2 : b = h.length := by
        have : b < (h ++ [cs]).length := by
          rcases Nat.lt_or_ge b (h ++ [cs]).length with h | h
          · exact h
          · rw [List.getElem?_eq_none h] at hb; cases hb
        simp at this; omega
      subst hb2
      simp at hb
      subst hb
      refine ⟨w.heap.size, cs', t, by simp [Ren.with], ?_, LRel.mono le _ _ hc⟩
      exact heap_alloc_new _ _
  · intro b b' c e e'
    simp only [Ren.with] at e e'
    by_cases h1 : b = h.length
    · rw [if_pos h1] at e; cases e
      by_cases h2 : b' = h.length
      · rw [h1, h2]
      · rw [if_neg h2] at e'; have := H.lt e'; omega
    · rw [if_neg h1] at e
      by_cases h2 : b' = h.length
      · rw [if_pos h2] at e'; cases e'; have := H.lt e; omega
      · rw [if_neg h2] at e'; exact H.inj _ _ _ e e'
  · intro b c e
    simp only [Ren.with] at e
    by_cases h1 : b = h.length
    · subst h1; simp
    · rw [if_neg h1] at e; have := H.dom _ _ e; simp; omega
  · intro b c e
    simp only [Ren.with] at e
    by_cases h1 : b = h.length
    · rw [if_pos h1] at e; cases e; exact Nat.le_trans H.base H.below.size
    · rw [if_neg h1] at e; exact H.rng _ _ e
  · exact H.below.alloc (Nat.le_trans H.base H.below.size) _

/-- A world that has grown. -/
theorem HRel.grown {B : Nat} {w0 : World} {φ : Ren} {h : AH} {w w' : World} (H : HRel B w0 φ h w) (hb : Below w.heap.size w w') : HRel B w0 φ h w' := by
  refine ⟨?_, H.inj, H.dom, H.rng, H.below.trans (hb.mono (Nat.le_trans H.base H.below.size)), H.base⟩
  intro b cs e
  obtain ⟨c, cs', t, h1, h2, h3⟩ := H.cells b cs e
  exact ⟨c, cs', t, h1, by rw [hb.block c (H.lt h1)]; exact h2, h3⟩

theorem HRel.drew {B : Nat} {w0 : World} {φ : Ren} {h : AH} {w : World} (H : HRel B w0 φ h w) : HRel B w0 φ h { w with drawn := w.drawn + 1 } :=
  ⟨H.cells, H.inj, H.dom, H.rng, H.below.drew, H.base⟩

/-- A cell is written. -/
theorem HRel.setCell {B : Nat} {w0 : World} {φ : Ren} {h : AH} {w : World} (H : HRel B w0 φ h w) {b c o : Nat} {cs : List AV} {x : AV} {v : Value}
    (hb : h[b]? = some cs) (hc : φ b = some c) (hv : ARel φ x v) : HRel B w0 φ (h.set b (cs.set o x)) (w.setCell ⟨c, o, none⟩ v) := by
  have hlt : b < h.length := H.dom _ _ hc
  refine ⟨?_, H.inj, fun b' c' e => by simpa using H.dom b' c' e, H.rng, H.below.setCell (p := ⟨c, o, none⟩) (H.rng _ _ hc) v, H.base⟩
  intro b' ds e
  by_cases hbb : b = b'
  · subst hbb
    rw [List.getElem?_set_self hlt] at e; cases e
    obtain ⟨c2, cs', t, h1, h2, h3⟩ := H.cells b cs hb
    rw [hc] at h1; cases h1
    refine ⟨c, cs'.setIfInBounds o v, t, hc, heap_setCell_same _ _ _ _ _ _ h2, ?_⟩
    rw [Array.toList_setIfInBounds]; exact LRel.set hv h3
  · rw [List.getElem?_set_ne hbb] at e
    obtain ⟨c2, cs', t, h1, h2, h3⟩ := H.cells b' ds e
    refine ⟨c2, cs', t, h1, ?_, h3⟩
    rw [heap_setCell_other _ _ _ _ (fun e2 => hbb (H.inj _ _ _ hc (by rw [h1]; exact congrArg some e2)))]
    exact h2

end Go.Sky
