/- Tables of functions of which it is known what they give. -/
import Derived.Test.YtfbakgcemnkcpaaQSkyL
set_option linter.unusedSimpArgs false
set_option linter.unusedVariables false
namespace Go.Sky
open Go.RowKit (Below)

mutual
/-- A value without its marks. -/
def untag : AV → AV
  | .bool _ b => .bool false b
  | .int k _ n => .int k false n
  | .str _ s => .str false s
  | .iface t x => .iface t (untag x)
  | .agg cs => .agg (untagL cs)
  | .tuple cs => .tuple (untagL cs)
  | .func fn f c => .func fn (untagL f) (untagL c)
  | .ptr a => .ptr a
  | .slice a n k => .slice a n k
  | .nilFunc => .nilFunc
  | .nilIface => .nilIface
def untagL : List AV → List AV
  | [] => []
  | x :: xs => untag x :: untagL xs
end

mutual
theorem untag_rel {φ : Ren} : ∀ (x : AV) (v : Value), ARel φ x v → ARel φ (untag x) v
  | .bool _ _, _, e => by simpa only [untag, ARel] using e
  | .int _ _ _, _, e => by simpa only [untag, ARel] using e
  | .str _ _, _, e => by simpa only [untag, ARel] using e
  | .ptr _, _, e => e
  | .slice _ _ _, _, e => e
  | .func _ fs cs, _, e => by
    simp only [untag, ARel] at e ⊢; obtain ⟨fs', cs', rfl, h1, h2⟩ := e; exact ⟨fs', cs', rfl, untagL_rel fs _ h1, untagL_rel cs _ h2⟩
  | .nilFunc, _, e => e
  | .iface _ x, _, e => by simp only [untag, ARel] at e ⊢; obtain ⟨y, rfl, h1⟩ := e; exact ⟨y, rfl, untag_rel x y h1⟩
  | .nilIface, _, e => e
  | .agg cs, _, e => by simp only [untag, ARel] at e ⊢; obtain ⟨cs', rfl, h1⟩ := e; exact ⟨cs', rfl, untagL_rel cs _ h1⟩
  | .tuple cs, _, e => by simp only [untag, ARel] at e ⊢; obtain ⟨cs', rfl, h1⟩ := e; exact ⟨cs', rfl, untagL_rel cs _ h1⟩
theorem untagL_rel {φ : Ren} : ∀ (x : List AV) (v : List Value), LRel φ x v → LRel φ (untagL x) v
  | [], _, e => e
  | x :: xs, _, e => by
    simp only [untagL, LRel] at e ⊢; obtain ⟨y, ys, rfl, h1, h2⟩ := e; exact ⟨y, ys, rfl, untag_rel x y h1, untagL_rel xs ys h2⟩
end

mutual
/-- A value with all marks. -/
def tagA : AV → AV
  | .bool _ b => .bool true b
  | .int k _ n => .int k true n
  | .str _ s => .str true s
  | .iface t x => .iface t (tagA x)
  | .agg cs => .agg (tagL cs)
  | .tuple cs => .tuple (tagL cs)
  | .func fn f c => .func fn (tagL f) (tagL c)
  | .ptr a => .ptr a
  | .slice a n k => .slice a n k
  | .nilFunc => .nilFunc
  | .nilIface => .nilIface
def tagL : List AV → List AV
  | [] => []
  | x :: xs => tagA x :: tagL xs
end

mutual
/-- Is all of a value marked? -/
def litA : AV → Bool
  | .bool l _ => l
  | .int _ l _ => l
  | .str l _ => l
  | .iface _ x => litA x
  | .agg cs => litL cs
  | .tuple cs => litL cs
  | .func _ f c => litL f && litL c
  | _ => true
def litL : List AV → Bool
  | [] => true
  | x :: xs => litA x && litL xs
end

mutual
theorem tagA_rel {φ : Ren} : ∀ (x : AV) (v : Value), ARel φ x v → ARel φ (tagA x) v
  | .bool _ _, _, e => by simpa only [tagA, ARel] using e
  | .int _ _ _, _, e => by simpa only [tagA, ARel] using e
  | .str _ _, _, e => by simpa only [tagA, ARel] using e
  | .ptr _, _, e => e
  | .slice _ _ _, _, e => e
  | .func _ fs cs, _, e => by
    simp only [tagA, ARel] at e ⊢; obtain ⟨fs', cs', rfl, h1, h2⟩ := e; exact ⟨fs', cs', rfl, tagL_rel fs _ h1, tagL_rel cs _ h2⟩
  | .nilFunc, _, e => e
  | .iface _ x, _, e => by simp only [tagA, ARel] at e ⊢; obtain ⟨y, rfl, h1⟩ := e; exact ⟨y, rfl, tagA_rel x y h1⟩
  | .nilIface, _, e => e
  | .agg cs, _, e => by simp only [tagA, ARel] at e ⊢; obtain ⟨cs', rfl, h1⟩ := e; exact ⟨cs', rfl, tagL_rel cs _ h1⟩
  | .tuple cs, _, e => by simp only [tagA, ARel] at e ⊢; obtain ⟨cs', rfl, h1⟩ := e; exact ⟨cs', rfl, tagL_rel cs _ h1⟩
theorem tagL_rel {φ : Ren} : ∀ (x : List AV) (v : List Value), LRel φ x v → LRel φ (tagL x) v
  | [], _, e => e
  | x :: xs, _, e => by
    simp only [tagL, LRel] at e ⊢; obtain ⟨y, ys, rfl, h1, h2⟩ := e; exact ⟨y, ys, rfl, tagA_rel x y h1, tagL_rel xs ys h2⟩
end

abbrev Entry := List AV → Option (Tr AV)

def table : List (FuncId × Entry) → Table
  | [], _, _ => none
  | (g, e) :: r, f, args => match Nat.beq f g with
    | true => match litL args with
      | true => match e (untagL args) with | some t => some (t.bind fun v => .leaf (tagA v)) | none => none
      | false => e (untagL args)
    | false => table r f args

def EntryOk (P : Program) (f : FuncId) (e : Entry) : Prop :=
  ∀ args t v, e args = some t → t.run = some v → ∀ (φ : Ren) (w : World) (cargs : Array Value), LRel φ args cargs.toList → CallOk P f cargs w fun u w' => (∀ ψ, ARel ψ v u) ∧ Below w.heap.size w w'

theorem table_nil {P : Program} : TableOk P (table []) := fun f args t v h => by cases h

theorem table_cons {P : Program} {g : FuncId} {e : Entry} {l : List (FuncId × Entry)} (he : EntryOk P g e) (hl : TableOk P (table l)) : TableOk P (table ((g, e) :: l)) := by
  intro f args t v h ht φ w cargs hr
  simp only [table] at h
  split at h
  · rename_i hb
    have := Nat.eq_of_beq_eq_true hb
    subst this
    split at h
    · split at h
      · rename_i t' hv
        cases h
        obtain ⟨v', hv', ht⟩ := run_bind_some ht
        cases ht
        exact (he _ t' v' hv hv' φ w cargs (untagL_rel _ _ hr)).mono fun u w' h => ⟨fun ψ => tagA_rel _ _ (h.1 ψ), h.2⟩
      · cases h
    · exact he _ t v h ht φ w cargs (untagL_rel _ _ hr)
  · exact hl f args t v h ht φ w cargs hr

mutual
theorem pureAV_untag : ∀ x : AV, pureAV (untag x) = pureAV x
  | .bool _ _ => rfl
  | .int _ _ _ => rfl
  | .str _ _ => rfl
  | .iface _ x => by simp only [untag, pureAV]; exact pureAV_untag x
  | .agg cs => by simp only [untag, pureAV]; exact pureL_untag cs
  | .tuple cs => by simp only [untag, pureAV]; exact pureL_untag cs
  | .func _ f c => by simp only [untag, pureAV]; rw [pureL_untag f, pureL_untag c]
  | .ptr _ => rfl
  | .slice _ _ _ => rfl
  | .nilFunc => rfl
  | .nilIface => rfl
theorem pureL_untag : ∀ x : List AV, pureL (untagL x) = pureL x
  | [] => rfl
  | x :: xs => by simp only [untagL, pureL]; rw [pureAV_untag x, pureL_untag xs]
end

/-- What the evaluator gives of a function, memory and marks aside. -/
def evV (P : Program) (T : Table) (L n : Nat) (O : Known) (f : FuncId) (args : List AV) : Tr AV := (evFun P T L n O f args []).bind fun r => .leaf (untag r.1)

theorem evV_run {P : Program} {T : Table} {L n : Nat} {O : Known} {f : FuncId} {args : List AV} {v : AV} (h : (evV P T L n O f args).run = some v) : ∃ v' h', (evFun P T L n O f args []).run = some (v', h') ∧ untag v' = v := by
  obtain ⟨⟨v', h'⟩, h1, h2⟩ := run_bind_some h
  simp only [Tr.run, Option.some.injEq] at h2
  exact ⟨v', h', h1, h2⟩

def noKnown : Known := fun _ => none

theorem noKnown_ok {P : Program} {l : List (Nat × Code)} : KnownOk P noKnown l := fun id b X h => by cases h

/-- An entry out of the evaluator. -/
theorem entry_ok {P : Program} (hp : ProgOk P) {T : Table} (hT : TableOk P T) (L n : Nat) (O : Known) {f : FuncId} {e : Entry} (hk : ∀ fn c, P.funcs[f]? = some fn → fn.body = some c → KnownOk P O (blocksOf c))
    (h : ∀ args t v, e args = some t → t.run = some v → pureL args = true ∧ pureAV v = true ∧ ∀ φ cs, LRel φ args cs → (evV P T L n O f args).run = some v) : EntryOk P f e := by
  intro args t v he ht φ w cargs hl
  obtain ⟨h1, h2, h3⟩ := h args t v he ht
  obtain ⟨v', h', hr, rfl⟩ := evV_run (h3 φ _ hl)
  rw [pureAV_untag] at h2
  obtain ⟨g1, g2⟩ := contract hp hT hk hr h1 h2 φ w cargs hl
  refine .inr ⟨g1, g2.mono fun e w' h => ?_⟩
  cases e with
  | returned u => exact ⟨fun ψ => untag_rel _ _ (h.1 ψ), h.2⟩
  | panicked c => exact h
  | outgrown => exact h

/-- The ranges of all numbers in a value, ahead of 'K'. -/
def rng : AV → Prop → Prop
  | .int k _ n, K => InR k n ∧ K
  | .agg cs, K => rngL cs K
  | .tuple cs, K => rngL cs K
  | _, K => K
where rngL : List AV → Prop → Prop
  | [], K => K
  | x :: xs, K => rng x (rngL xs K)

mutual
theorem rng_of {φ : Ren} : ∀ (x : AV) (v : Value) (K : Prop), ARel φ x v → K → rng x K
  | .bool _ _, _, _, _, k => by simpa only [rng] using k
  | .int _ _ _, _, _, e, k => by simp only [ARel] at e; simp only [rng]; exact ⟨e.2, k⟩
  | .str _ _, _, _, _, k => by simpa only [rng] using k
  | .ptr _, _, _, _, k => by simpa only [rng] using k
  | .slice _ _ _, _, _, _, k => by simpa only [rng] using k
  | .func _ _ _, _, _, _, k => by simpa only [rng] using k
  | .nilFunc, _, _, _, k => by simpa only [rng] using k
  | .iface _ _, _, _, _, k => by simpa only [rng] using k
  | .nilIface, _, _, _, k => by simpa only [rng] using k
  | .agg cs, _, K, e, k => by simp only [ARel] at e; obtain ⟨cs', _, h1⟩ := e; simp only [rng]; exact rngL_of cs _ K h1 k
  | .tuple cs, _, K, e, k => by simp only [ARel] at e; obtain ⟨cs', _, h1⟩ := e; simp only [rng]; exact rngL_of cs _ K h1 k
theorem rngL_of {φ : Ren} : ∀ (x : List AV) (v : List Value) (K : Prop), LRel φ x v → K → rng.rngL x K
  | [], _, _, _, k => by simpa only [rng.rngL] using k
  | x :: xs, _, K, e, k => by
    simp only [LRel] at e; obtain ⟨y, ys, _, h1, h2⟩ := e
    simp only [rng.rngL]
    exact rng_of x y _ h1 (rngL_of xs ys K h2 k)
end

/-! ### short words -/
def i6 (n : Int) : AV := .int .i64 false n
def u6 (n : Int) : AV := .int .u64 false n
def bb (b : Bool) : AV := .bool false b

structure V3 where
  x : Int
  y : Int
  z : Int

def vecA (v : V3) : AV := .agg [i6 v.x, i6 v.y, i6 v.z]

/-- A library function without a body of the text, or one that a contract tells. -/
theorem entry_of_calls {P : Program} (hp : ProgOk P) {f : FuncId} {e : Entry} (hb : ∃ fn c, P.funcs[f]? = some fn ∧ fn.body = some c)
    (h : ∀ args t v, e args = some t → t.run = some v → ∀ φ (w : World) (cargs : Array Value), LRel φ args cargs.toList → Calls P f cargs w fun e w' => ∃ u, e = .returned u ∧ (∀ ψ, ARel ψ v u) ∧ Below w.heap.size w w') : EntryOk P f e := by
  intro args t v he ht φ w cargs hl
  obtain ⟨fn, c, hf, hc⟩ := hb
  refine .inr ⟨callFunc_enter hp hf hc cargs w, (h args t v he ht φ w cargs hl).mono fun e w' h => ?_⟩
  obtain ⟨u, rfl, h2⟩ := h
  exact h2

end Go.Sky
