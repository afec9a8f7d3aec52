/- The evaluator's operations against the machine's: those that only read. -/
import Derived.Test.YtfbakgcemnkcpaaQSkyD
namespace Go.Sky
open Go.RowKit (Below)

section
variable {P : Program} {w : World} {B : Nat} {w0 : World} {φ : Ren}

theorem barred_run {l b : Bool} {t : Ans} {r : AV × AH} (h : (barred l b t).run = some r) : b = false ∧ t.run = some r := by
  cases l <;> cases b <;> simp_all [barred, Tr.run]

theorem barred_val {l b : Bool} {v : AV} {hh : AH} {r : AV × AH} (h : (barred l b (val v hh)).run = some r) : b = false ∧ r = (v, hh) := by
  obtain ⟨h1, h2⟩ := barred_run h; exact ⟨h1, val_run h2⟩

theorem bits_inR (op : BinOp) (k : IntKind) (x y : Int) : InR k (Go.bits op k x y) := wrap_inR k _

theorem tmod_inR {k : IntKind} {x y : Int} (hx : InR k x) : InR k (x.tmod y) := by
  unfold InR at *
  have h0 : k.min ≤ 0 ∧ 0 ≤ k.max := by cases k <;> decide
  have h1 : (x.tmod y).natAbs ≤ x.natAbs := by rw [Int.natAbs_tmod]; exact Nat.mod_le _ _
  rcases Int.le_total 0 x with h | h
  · have h2 := Int.tmod_nonneg y h
    omega
  · have h2 : (-x).tmod y = -(x.tmod y) := Int.neg_tmod x y
    have h3 := Int.tmod_nonneg y (show 0 ≤ -x by omega)
    omega

theorem fdiv_inR {k : IntKind} {x : Int} (hx : InR k x) (n : Nat) : InR k (x.fdiv (2 ^ n)) := by
  unfold InR at *
  have h0 : k.min ≤ 0 ∧ 0 ≤ k.max := by cases k <;> decide
  have hp : (0 : Int) < 2 ^ n := Int.pow_pos (by decide)
  rw [Int.fdiv_eq_ediv_of_nonneg _ (by omega)]
  rcases Int.le_total 0 x with h | h
  · have h1 := Int.ediv_nonneg h (show (0 : Int) ≤ 2 ^ n by omega)
    have h2 := Int.ediv_le_self (2 ^ n) h
    omega
  · have h1 : x / 2 ^ n ≤ 0 := Int.ediv_nonpos_of_nonpos_of_neg h (by omega)
    have h2 : x ≤ x / 2 ^ n := by
      rw [Int.le_ediv_iff_mul_le hp]
      have h3 : 0 ≤ (-x) * (2 ^ n - 1) := Int.mul_nonneg (by omega) (by omega)
      rw [Int.mul_sub, Int.neg_mul, Int.neg_mul, Int.mul_one] at h3
      omega
    omega

theorem binInt_rel {op : BinOp} {k : IntKind} {l1 l2 : Bool} {x y : Int} {h : AH} {r : AV × AH} (hx : InR k x) (hr : (binInt op k l1 x l2 y h).run = some r) :
    r.2 = h ∧ ∃ u, (binOp op 0 (.int k x) (.int k y)).run P w = .ok u w ∧ ARel φ r.1 u := by
  cases op <;> simp only [binInt, isBits, cmpInt] at hr
  case shl => simp [Tr.run] at hr
  case shr => simp [Tr.run] at hr
  case quo =>
    obtain ⟨h1, rfl⟩ := barred_val hr
    simp only [decide_eq_false_iff_not] at h1
    exact ⟨rfl, .int k (k.wrap (x.tdiv y)), by simp [binOp, Op.intDiv, h1], by simp [ARel, wrap_inR]⟩
  case rem =>
    obtain ⟨h1, rfl⟩ := barred_val hr
    simp only [decide_eq_false_iff_not] at h1
    exact ⟨rfl, .int k (x.tmod y), by simp [binOp, Op.intDiv, h1], by simp [ARel, tmod_inR hx]⟩
  all_goals
    have hv := val_run hr
    subst hv
    exact ⟨rfl, _, by simp only [binOp, ne_eq, not_true_eq_false, if_false]; rfl, by simp [ARel, Go.bits, wrap_inR]⟩

theorem shiftInt_rel {op : BinOp} {k k' : IntKind} {l1 l2 : Bool} {x y : Int} {h : AH} {r : AV × AH} (t : TypeId) (hx : InR k x) (hr : (shiftInt op k l1 x l2 y h).run = some r) :
    r.2 = h ∧ ∃ u, (binOp op t (.int k x) (.int k' y)).run P w = .ok u w ∧ ARel φ r.1 u := by
  cases op <;> simp only [shiftInt] at hr
  case shl =>
    obtain ⟨h1, rfl⟩ := barred_val hr
    simp only [decide_eq_false_iff_not] at h1
    exact ⟨rfl, .int k (k.wrap (x * 2 ^ (min y.toNat k.bits))), by simp [binOp, Op.shift, h1], by simp [ARel, wrap_inR]⟩
  case shr =>
    obtain ⟨h1, rfl⟩ := barred_val hr
    simp only [decide_eq_false_iff_not] at h1
    exact ⟨rfl, .int k (x.fdiv (2 ^ (min y.toNat k.bits))), by simp [binOp, Op.shift, h1], by simp [ARel, fdiv_inR hx]⟩
  all_goals simp [Tr.run] at hr

theorem binInt_type (op : BinOp) (t : TypeId) (k : IntKind) (x y : Int) : binOp op t (.int k x) (.int k y) = binOp op 0 (.int k x) (.int k y) := by
  cases op <;> simp [binOp]

theorem guard_int (op : BinOp) (t : TypeId) (x y : Operand) (k k' : IntKind) (a b : Int) : (eqGuard op t x y (.int k a) (.int k' b)).run P w = .ok () w := by
  cases op <;> simp [eqGuard]

theorem eqA_guard {d : Nat} {t : TypeId} {x y : AV} {v u : Value} {l r : Bool} (h : eqA P d t x y = some (l, r)) (hx : ARel φ x v) (hy : ARel φ y u) (op : BinOp) (p q : Operand)
    (hg : P.eqGuardType P.depth t = false) : (eqGuard op t p q v u).run P w = .ok () w := by
  cases d with
  | zero => simp [eqA] at h
  | succ d =>
    rw [eqA.eq_def] at h
    simp only at h
    split at h <;> (try simp only [ARel] at hx hy)
    · subst hx; subst hy; cases op <;> simp [eqGuard]
    · obtain ⟨rfl, _⟩ := hx; obtain ⟨rfl, _⟩ := hy; cases op <;> simp [eqGuard]
    · subst hx; subst hy; cases op <;> simp [eqGuard]
    · subst hx; cases op <;> simp [eqGuard]
    · rename_i e b _ _
      cases b with
      | none => simp only [ARel] at hx; subst hx; cases op <;> simp [eqGuard]
      | some p => obtain ⟨_, _⟩ := p; simp only [ARel] at hx; obtain ⟨c, _, rfl⟩ := hx; cases op <;> simp [eqGuard]
    · subst hx; cases op <;> simp [eqGuard]
    · subst hx; cases op <;> simp [eqGuard]
    · subst hy; obtain ⟨_, _, rfl, _⟩ := hx; cases op <;> simp [eqGuard]
    · subst hx; cases op <;> simp [eqGuard]
    · rename_i e b _ _ _ _ _ _
      cases b with
      | none => simp only [ARel] at hx; subst hx; cases op <;> simp [eqGuard]
      | some p => obtain ⟨_, _⟩ := p; simp only [ARel] at hx; obtain ⟨c, _, rfl⟩ := hx; cases op <;> simp [eqGuard]
    · obtain ⟨_, rfl, _⟩ := hx; obtain ⟨_, rfl, _⟩ := hy
      exact run_eqGuard_agg w op t p q _ _ hg
    · cases h

/-- '==' of what is no pair of numbers goes by 'Op.equal'. -/
theorem binEq {d : Nat} {t : TypeId} {x y : AV} {v u : Value} {l r : Bool} (h : eqA P d t x y = some (l, r)) (hx : ARel φ x v) (hy : ARel φ y u)
    (hn : ∀ k l n k' m j, ¬ (x = .int k l n ∧ y = .int k' m j)) (he : (Op.equal t v u).run P w = .ok r w) :
    (binOp .eql t v u).run P w = .ok (.bool r) w ∧ (binOp .neq t v u).run P w = .ok (.bool (!r)) w := by
  cases d with
  | zero => simp [eqA] at h
  | succ d =>
    rw [eqA.eq_def] at h
    simp only at h
    have key : (binOp .eql t v u = do pure (.bool (← Op.equal t v u))) → (binOp .neq t v u = do pure (.bool (!(← Op.equal t v u)))) →
        (binOp .eql t v u).run P w = .ok (.bool r) w ∧ (binOp .neq t v u).run P w = .ok (.bool (!r)) w := by
      intro h1 h2; rw [h1, h2]; simp [he]
    split at h <;> (try simp only [ARel] at hx hy)
    · subst hx; subst hy; exact key (by simp [binOp]) (by simp [binOp])
    · rename_i k' k l1 a k2 l2 b _; exact absurd ⟨rfl, rfl⟩ (hn k l1 a k2 l2 b)
    · subst hx; subst hy
      cases h
      simp [binOp, Op.stringOp]
    · subst hx; exact key (by simp [binOp]) (by simp [binOp])
    · rename_i e b _ _
      cases b with
      | none => simp only [ARel] at hx; subst hx; exact key (by simp [binOp]) (by simp [binOp])
      | some p => obtain ⟨_, _⟩ := p; simp only [ARel] at hx; obtain ⟨c, _, rfl⟩ := hx; exact key (by simp [binOp]) (by simp [binOp])
    · subst hx; exact key (by simp [binOp]) (by simp [binOp])
    · subst hx; exact key (by simp [binOp]) (by simp [binOp])
    · subst hy; obtain ⟨_, _, rfl, _⟩ := hx; exact key (by simp [binOp]) (by simp [binOp])
    · subst hx; exact key (by simp [binOp]) (by simp [binOp])
    · rename_i e b _ _ _ _ _ _
      cases b with
      | none => simp only [ARel] at hx; subst hx; exact key (by simp [binOp]) (by simp [binOp])
      | some p => obtain ⟨_, _⟩ := p; simp only [ARel] at hx; obtain ⟨c, _, rfl⟩ := hx; exact key (by simp [binOp]) (by simp [binOp])
    · obtain ⟨_, rfl, _⟩ := hx; obtain ⟨_, rfl, _⟩ := hy; exact key (by simp [binOp]) (by simp [binOp])
    · cases h

theorem minmax_rel {isMax : Bool} : ∀ {l : List AV} {m : List Value} {x r : AV} {v : Value}, ARel φ x v → LRel φ l m → minmax isMax x l = some r →
    ∃ u, (m.foldlM (if isMax then Builtin.max2 else Builtin.min2) v).run P w = .ok u w ∧ ARel φ r u
  | [], m, x, r, v, hx, hl, h => by
    simp only [LRel] at hl; subst hl
    simp only [minmax, Option.some.injEq] at h; subst h
    exact ⟨v, by simp, hx⟩
  | y :: l, m, x, r, v, hx, hl, h => by
    simp only [LRel] at hl
    obtain ⟨u, us, rfl, h1, h2⟩ := hl
    unfold minmax at h
    try unfold mm at h
    split at h
    · cases ‹_ :: _ = []›
    · rename_i k l1 a k2 l2 b l' heq
      simp only [List.cons.injEq] at heq
      obtain ⟨rfl, rfl⟩ := heq
      split at h
      · rename_i hk
        subst hk
        simp only [ARel] at hx h1; obtain ⟨rfl, hxr⟩ := hx; obtain ⟨rfl, hyr⟩ := h1
        obtain ⟨u, hu, hr⟩ := minmax_rel (v := .int k (if isMax then (if b > a then b else a) else (if b < a then b else a))) (by simp only [ARel]; exact ⟨trivial, by split <;> split <;> assumption⟩) h2 h
        refine ⟨u, ?_, hr⟩
        simp only [List.foldlM_cons, Sem.run_bind]
        cases isMax <;> simp_all [Builtin.max2, Builtin.min2]
      · cases h
    · cases h

theorem lenA_rel {t : TypeId} {x r : AV} {v : Value} (rt : TypeId) (ts : Array TypeId) (ht : ts[0]? = some t) (hx : ARel φ x v) (h : lenA P t x = some r) :
    ∃ u, (Builtin.len_ ts rt #[v]).run P w = .ok u w ∧ ARel φ r u := by
  unfold lenA at h
  unfold Builtin.len_
  split at h
  · rename_i n e hu
    split at h
    · rename_i hn
      cases h
      exact ⟨.int .i64 n, by simp [ht, run_underlying hu, goInt], by simp [ARel, hn]⟩
    · cases h
  · rename_i e a n k hu
    split at h
    · rename_i hn
      cases h
      refine ⟨.int .i64 n, ?_, by simp [ARel, hn]⟩
      cases a with
      | none => simp only [ARel] at hx; subst hx; simp [ht, run_underlying hu, goInt]
      | some p => obtain ⟨_, _⟩ := p; simp only [ARel] at hx; obtain ⟨_, _, rfl⟩ := hx; simp [ht, run_underlying hu, goInt]
    · cases h
  · cases h

theorem convA_rel {src dst : TypeId} {x r : AV} {v : Value} (hx : ARel φ x v) (h : convA P src dst x = some r) :
    ∃ u, (convert src dst v).run P w = .ok u w ∧ ARel φ r u := by
  unfold convA at h
  split at h
  · rename_i d k k' l n hs hd
    cases h
    simp only [ARel] at hx; obtain ⟨rfl, _⟩ := hx
    exact ⟨.int k (k.wrap n), by simp [convert, run_underlying hs, run_underlying hd, Conv.intToInt], by simp [ARel, wrap_inR]⟩
  · cases h

end
end Go.Sky
