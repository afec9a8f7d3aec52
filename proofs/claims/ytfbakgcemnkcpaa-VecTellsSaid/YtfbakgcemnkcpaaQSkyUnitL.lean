/- The plain law of directions. -/
import Derived.Test.YtfbakgcemnkcpaaQSkyUnit
set_option linter.unusedSimpArgs false
set_option linter.unusedVariables false
namespace Go.Sky

theorem sq_nonneg (n : Int) : 0 ≤ n * n := by
  rcases (show n < 0 ∨ 0 ≤ n by omega) with h | h
  · exact Int.mul_nonneg_of_nonpos_of_nonpos (by omega) (by omega)
  · exact Int.mul_nonneg h h

theorem sq_le {a b : Int} (h1 : -b ≤ a) (h2 : a ≤ b) : a * a ≤ b * b := by
  have h : 0 ≤ (b - a) * (b + a) := Int.mul_nonneg (by omega) (by omega)
  have e : (b - a) * (b + a) = b * b - a * a := by grind
  omega

theorem tdiv_facts {A l : Int} (hl : 0 < l) : (0 ≤ A → 0 ≤ l * A.tdiv l ∧ l * A.tdiv l ≤ A ∧ A - l * A.tdiv l < l) ∧ (A < 0 → l * A.tdiv l ≤ 0 ∧ A ≤ l * A.tdiv l ∧ l * A.tdiv l - A < l) := by
  have h := Int.mul_tdiv_add_tmod A l
  constructor <;> intro hx
  · have h1 := Int.tmod_nonneg l hx
    have h2 := Int.tmod_lt_of_pos A hl
    have h3 := Int.mul_nonneg (show 0 ≤ l by omega) (Int.tdiv_nonneg hx (show 0 ≤ l by omega))
    omega
  · have h2 := Int.lt_tmod_of_pos A hl
    have h3 : (-(-A)).tmod l = - ((-A).tmod l) := Int.neg_tmod _ _
    rw [Int.neg_neg] at h3
    have h4 := Int.tmod_nonneg l (show 0 ≤ -A by omega)
    have h5 : (-(-A)).tdiv l = - ((-A).tdiv l) := Int.neg_tdiv _ _
    rw [Int.neg_neg] at h5
    have h6 := Int.mul_nonneg (show 0 ≤ l by omega) (Int.tdiv_nonneg (show 0 ≤ -A by omega) (show 0 ≤ l by omega))
    have h7 : l * A.tdiv l = - (l * (-A).tdiv l) := by rw [h5, Int.mul_neg]
    omega

theorem low_core {a b c u v w l L n C R : Int} (hl : 0 < l) (hL : L = l * l) (hn : n = u * u + v * v + w * w) (hC : C = u * a + v * b + w * c) (hR : R = a * a + b * b + c * c)
    (ha : -l ≤ a ∧ a ≤ l) (hb : -l ≤ b ∧ b ≤ l) (hc : -l ≤ c ∧ c ≤ l) (h : 268435456 * L ≤ L * n + 2 * (l * C) + R) : 268369924 ≤ n := by
  rcases (show n ≤ 268369923 ∨ 268369924 ≤ n by omega) with hlt | hlt
  rotate_left
  · exact hlt
  exfalso
  have ra := sq_le ha.1 ha.2; have rb := sq_le hb.1 hb.2; have rc := sq_le hc.1 hc.2
  have hRl : R ≤ 3 * L := by omega
  have hR0 : 0 ≤ R := by have := sq_nonneg a; have := sq_nonneg b; have := sq_nonneg c; omega
  have hn0 : 0 ≤ n := by have := sq_nonneg u; have := sq_nonneg v; have := sq_nonneg w; omega
  have hL0 : 0 < L := by rw [hL]; exact Int.mul_pos hl hl
  have cs : C * C ≤ n * R := by
    have e : n * R - C * C = (u * b - v * a) * (u * b - v * a) + (u * c - w * a) * (u * c - w * a) + (v * c - w * b) * (v * c - w * b) := by
      subst hn hC hR; grind
    have := sq_nonneg (u * b - v * a); have := sq_nonneg (u * c - w * a); have := sq_nonneg (v * c - w * b)
    omega
  have h1 : n * R ≤ 268369923 * R := Int.mul_le_mul_of_nonneg_right hlt hR0
  have e2 : (32764 * l) * (32764 * l) = 1073479696 * L := by subst hL; grind
  have hCl : C ≤ 32764 * l := by
    rcases (show C < 0 ∨ 0 ≤ C by omega) with h0 | h0
    · omega
    · have := sq_lt (a := C) (b := 32764 * l) h0 (by omega) (by omega)
      omega
  have h3 : l * C ≤ l * (32764 * l) := Int.mul_le_mul_of_nonneg_left hCl (by omega)
  have e3 : l * (32764 * l) = 32764 * L := by subst hL; grind
  have h4 : L * n ≤ L * 268369923 := Int.mul_le_mul_of_nonneg_left hlt (by omega)
  omega

/-- A direction's length. -/
theorem unit_bounds {x y z l : Int} (hl : 524288 ≤ l) (h1 : l * l ≤ x * x + y * y + z * z) (h2 : x * x + y * y + z * z < (l + 1) * (l + 1)) :
    268369924 ≤ (x * 16384).tdiv l * (x * 16384).tdiv l + (y * 16384).tdiv l * (y * 16384).tdiv l + (z * 16384).tdiv l * (z * 16384).tdiv l ∧
    (x * 16384).tdiv l * (x * 16384).tdiv l + (y * 16384).tdiv l * (y * 16384).tdiv l + (z * 16384).tdiv l * (z * 16384).tdiv l ≤ 268468225 := by
  have fx := tdiv_facts (A := x * 16384) (l := l) (by omega)
  have fy := tdiv_facts (A := y * 16384) (l := l) (by omega)
  have fz := tdiv_facts (A := z * 16384) (l := l) (by omega)
  generalize (x * 16384).tdiv l = u at *
  generalize (y * 16384).tdiv l = v at *
  generalize (z * 16384).tdiv l = w at *
  constructor
  · refine low_core (a := x * 16384 - l * u) (b := y * 16384 - l * v) (c := z * 16384 - l * w) (l := l) (by omega) rfl rfl rfl rfl (by omega) (by omega) (by omega) ?_
    have e : l * l * (u * u + v * v + w * w) + 2 * (l * (u * (x * 16384 - l * u) + v * (y * 16384 - l * v) + w * (z * 16384 - l * w))) +
        ((x * 16384 - l * u) * (x * 16384 - l * u) + (y * 16384 - l * v) * (y * 16384 - l * v) + (z * 16384 - l * w) * (z * 16384 - l * w)) = 268435456 * (x * x + y * y + z * z) := by
      clear fx fy fz h1 h2 hl; grind
    rw [e]; omega
  · have sx : (l * u) * (l * u) ≤ (x * 16384) * (x * 16384) := by
      rcases (show x * 16384 < 0 ∨ 0 ≤ x * 16384 by omega) with h | h
      · have := fx.2 h
        have := sq_le (a := l * u) (b := -(x * 16384)) (by omega) (by omega)
        rw [Int.neg_mul_neg] at this; exact this
      · have := fx.1 h; exact sq_le (by omega) (by omega)
    have sy : (l * v) * (l * v) ≤ (y * 16384) * (y * 16384) := by
      rcases (show y * 16384 < 0 ∨ 0 ≤ y * 16384 by omega) with h | h
      · have := fy.2 h
        have := sq_le (a := l * v) (b := -(y * 16384)) (by omega) (by omega)
        rw [Int.neg_mul_neg] at this; exact this
      · have := fy.1 h; exact sq_le (by omega) (by omega)
    have sz : (l * w) * (l * w) ≤ (z * 16384) * (z * 16384) := by
      rcases (show z * 16384 < 0 ∨ 0 ≤ z * 16384 by omega) with h | h
      · have := fz.2 h
        have := sq_le (a := l * w) (b := -(z * 16384)) (by omega) (by omega)
        rw [Int.neg_mul_neg] at this; exact this
      · have := fz.1 h; exact sq_le (by omega) (by omega)
    clear fx fy fz
    have e1 : (l * u) * (l * u) + (l * v) * (l * v) + (l * w) * (l * w) = l * l * (u * u + v * v + w * w) := by clear h1 h2 hl sx sy sz; grind
    have e2 : (x * 16384) * (x * 16384) + (y * 16384) * (y * 16384) + (z * 16384) * (z * 16384) = 268435456 * (x * x + y * y + z * z) := by clear h1 h2 hl sx sy sz e1; grind
    have e3 : (l + 1) * (l + 1) = l * l + 2 * l + 1 := by clear h1 h2 hl sx sy sz e1 e2; grind
    generalize u * u + v * v + w * w = n at e1 ⊢
    have h3 : l * l * n ≤ 268435456 * (l * l + 2 * l) := by omega
    rcases (show n ≤ 268468225 ∨ 268468226 ≤ n by omega) with hn | hn
    · exact hn
    · exfalso
      have hL : 524288 * l ≤ l * l := Int.mul_le_mul_of_nonneg_right hl (by omega)
      have h4 : l * l * 268468226 ≤ l * l * n := Int.mul_le_mul_of_nonneg_left hn (by omega)
      omega

/-! ### evened -/

def downM : Nat → Int → Int
  | 0, M => M
  | k + 1, M => if M ≥ 1048576 then downM k (M / 2) else M

theorem most_double {x y z : Int} (h : mostI x y z ≤ 2305843009213693952) : mostI (2 * x) (2 * y) (2 * z) = 2 * mostI x y z := by
  obtain ⟨hx, hy, hz, hm⟩ := most_spec (x := x) (y := y) (z := z) (by omega)
  generalize mostI x y z = M at *
  apply most_unique <;> omega

theorem most_neg {x y z : Int} (h : mostI x y z ≤ 4611686018427387904) : mostI (-x) (-y) (-z) = mostI x y z := by
  obtain ⟨hx, hy, hz, hm⟩ := most_spec (x := x) (y := y) (z := z) (by omega)
  generalize mostI x y z = M at *
  apply most_unique <;> omega

theorem upS_most : ∀ (k : Nat) (m x y z : Int), mostI x y z = m → m ≤ 4611686018427387904 →
    mostI (upS k x m) (upS k y m) (upS k z m) = upS k m m ∧ (1 ≤ m → 524288 ≤ m * 2 ^ k → 524288 ≤ upS k m m) ∧ upS k m m ≤ 4611686018427387904
  | 0, m, x, y, z, h, hm => by simp only [upS]; exact ⟨h, fun _ h => by simpa using h, hm⟩
  | k + 1, m, x, y, z, h, hm => by
    simp only [upS]
    split
    · rename_i hc
      obtain ⟨g1, g2, g3⟩ := upS_most k (2 * m) (2 * x) (2 * y) (2 * z) (by rw [← h]; exact most_double (by omega)) (by omega)
      refine ⟨g1, fun h1 h2 => g2 (by omega) ?_, g3⟩
      have : m * 2 ^ (k + 1) = 2 * m * 2 ^ k := by rw [Int.pow_succ]; grind
      omega
    · exact ⟨h, fun _ _ => by omega, hm⟩

theorem downS_most : ∀ (k : Nat) (M x y z : Int), mostI x y z = M → M ≤ 4611686018427387904 → mostI (downS k x M) (downS k y M) (downS k z M) = downM k M
  | 0, M, x, y, z, h, hm => by simp only [downS, downM]; exact h
  | k + 1, M, x, y, z, h, hm => by
    simp only [downS, downM]
    split
    · exact downS_most k (M / 2) _ _ _ (by rw [← h]; exact most_half (by omega)) (by omega)
    · exact h

theorem downM_r : ∀ (k : Nat) (M : Int), M < 1048576 * 2 ^ k → 524288 ≤ M → 524288 ≤ downM k M ∧ downM k M ≤ 1048575
  | 0, M, h, h1 => by simp only [downM]; simp at h; omega
  | k + 1, M, h, h1 => by
    simp only [downM]
    split
    · have : (1048576 : Int) * 2 ^ (k + 1) = 2 * (1048576 * 2 ^ k) := by rw [Int.pow_succ]; grind
      exact downM_r k (M / 2) (by omega) (by omega)
    · omega

theorem okU_r {x y z : Int} (h : okU x y z = true) : mostI x y z ≠ 0 ∧ mostI x y z ≤ 4611686018427387904 := by
  unfold okU at h
  simp only [Bool.not_eq_true', Bool.or_eq_false_iff, beq_eq_false_iff_ne, decide_eq_false_iff_not] at h
  omega

theorem most_nonneg (x y z : Int) : 0 ≤ mostI x y z := by
  unfold mostI; simp only [max_r]; omega

theorem even_spec {x y z : Int} (h : okU x y z = true) : ∃ n, mostI (nrm x y z x) (nrm x y z y) (nrm x y z z) = n ∧ 524288 ≤ n ∧ n ≤ 1048575 ∧
    mostI (upS 20 x (mostI x y z)) (upS 20 y (mostI x y z)) (upS 20 z (mostI x y z)) ≤ 4611686018427387904 := by
  obtain ⟨h0, h1⟩ := okU_r h
  have hp := most_nonneg x y z
  obtain ⟨g1, g2, g3⟩ := upS_most 20 _ x y z rfl h1
  have g4 := g2 (by omega) (by omega)
  have e := downS_most 45 _ _ _ _ g1 g3
  obtain ⟨r1, r2⟩ := downM_r 45 (upS 20 (mostI x y z) (mostI x y z)) (by omega) g4
  refine ⟨_, ?_, r1, r2, by omega⟩
  unfold nrm
  rw [g1]
  exact e

theorem len_spec {x y z : Int} (h : okU x y z = true) : nearB (nrm x y z x) (nrm x y z y) (nrm x y z z) = true ∧ 524288 ≤ lenU x y z ∧ lenU x y z < 4294967296 ∧
    lenU x y z * lenU x y z ≤ nrm x y z x * nrm x y z x + nrm x y z y * nrm x y z y + nrm x y z z * nrm x y z z ∧
    nrm x y z x * nrm x y z x + nrm x y z y * nrm x y z y + nrm x y z z * nrm x y z z < (lenU x y z + 1) * (lenU x y z + 1) := by
  obtain ⟨n, hn, r1, r2, _⟩ := even_spec h
  unfold lenU
  generalize nrm x y z x = a at *
  generalize nrm x y z y = b at *
  generalize nrm x y z z = c at *
  obtain ⟨ha, hb, hc, hm⟩ := most_spec (x := a) (y := b) (z := c) (by omega)
  rw [hn] at ha hb hc hm
  have near : nearB a b c = true := decide_eq_true (by omega)
  have pa := mul_near (x := a) (y := a) (by omega) (by omega)
  have pb := mul_near (x := b) (y := b) (by omega) (by omega)
  have pc := mul_near (x := c) (y := c) (by omega) (by omega)
  have sa := sq_nonneg a; have sb := sq_nonneg b; have sc := sq_nonneg c
  have hN : 274877906944 ≤ a * a + b * b + c * c := by
    have key : ∀ q : Int, (n = q ∨ n = -q) → 274877906944 ≤ q * q := by
      intro q hq
      have h2 : (524288 : Int) * 524288 ≤ n * n := Int.mul_le_mul r1 r1 (by omega) (by omega)
      have : n * n = q * q := by rcases hq with e | e <;> rw [e] <;> grind
      omega
    rcases hm with e | e | e | e | e | e
    · have := key a (.inl e); omega
    · have := key a (.inr e); omega
    · have := key b (.inl e); omega
    · have := key b (.inr e); omega
    · have := key c (.inl e); omega
    · have := key c (.inr e); omega
  show nearB a b c = true ∧ 524288 ≤ isq (a * a + b * b + c * c) ∧ isq (a * a + b * b + c * c) < 4294967296 ∧ _
  obtain ⟨s0, s1, s2, s3⟩ := isq_spec (n := a * a + b * b + c * c) (by omega) (by omega)
  refine ⟨near, ?_, isq_32 (by omega) (by omega), s2, s3⟩
  have := sq_lt (a := 524287) (b := isq (a * a + b * b + c * c)) (by omega) s0
  have h9 := sq_lt (a := 524288) (b := isq (a * a + b * b + c * c) + 1) (by omega) (by omega) (by omega)
  omega

/-! ### the opposite, and the double -/

theorem upS_neg : ∀ (k : Nat) (x m : Int), upS k (-x) m = -(upS k x m)
  | 0, x, m => rfl
  | k + 1, x, m => by
    simp only [upS]
    split
    · rw [show 2 * -x = -(2 * x) by omega]; exact upS_neg k _ _
    · rfl

theorem downS_neg : ∀ (k : Nat) (x m : Int), downS k (-x) m = -(downS k x m)
  | 0, x, m => rfl
  | k + 1, x, m => by
    simp only [downS]
    split
    · rw [Int.neg_tdiv]; exact downS_neg k _ _
    · rfl

theorem nrm_neg {x y z : Int} (h : okU x y z = true) (c : Int) : nrm (-x) (-y) (-z) (-c) = -(nrm x y z c) := by
  obtain ⟨_, _, _, _, h4⟩ := even_spec h
  unfold nrm
  rw [most_neg (okU_r h).2, upS_neg, upS_neg, upS_neg, upS_neg, most_neg h4, downS_neg]

theorem okU_neg {x y z : Int} (h : okU x y z = true) : okU (-x) (-y) (-z) = true := by
  unfold okU at *; rw [most_neg]; exact h
  have := okU_r (x := x) (y := y) (z := z) (by unfold okU; exact h)
  exact this.2

theorem lenU_neg {x y z : Int} (h : okU x y z = true) : lenU (-x) (-y) (-z) = lenU x y z := by
  unfold lenU dotI
  rw [nrm_neg h, nrm_neg h, nrm_neg h, Int.neg_mul_neg, Int.neg_mul_neg, Int.neg_mul_neg]

theorem unitC_neg {x y z : Int} (h : okU x y z = true) (c : Int) : unitC (-x) (-y) (-z) (-c) = -(unitC x y z c) := by
  unfold unitC
  rw [if_pos h, if_pos (okU_neg h), lenU_neg h, nrm_neg h, Int.neg_mul, Int.neg_tdiv]

theorem upS_more : ∀ (k : Nat) (x m : Int), 524288 ≤ m * 2 ^ k → upS (k + 1) x m = upS k x m
  | 0, x, m, h => by simp at h; simp only [upS]; rw [if_neg (by omega)]
  | k + 1, x, m, h => by
    have : m * 2 ^ (k + 1) = 2 * m * 2 ^ k := by rw [Int.pow_succ]; grind
    show (if m < 524288 then upS (k + 1) (2 * x) (2 * m) else x) = (if m < 524288 then upS k (2 * x) (2 * m) else x)
    split
    · exact upS_more k _ _ (by omega)
    · rfl

theorem downS_more : ∀ (k : Nat) (x M : Int), M < 1048576 * 2 ^ k → downS (k + 1) x M = downS k x M
  | 0, x, m, h => by simp at h; simp only [downS]; rw [if_neg (by omega)]
  | k + 1, x, m, h => by
    have : (1048576 : Int) * 2 ^ (k + 1) = 2 * (1048576 * 2 ^ k) := by rw [Int.pow_succ]; grind
    show (if m ≥ 1048576 then downS (k + 1) (x.tdiv 2) (m / 2) else x) = (if m ≥ 1048576 then downS k (x.tdiv 2) (m / 2) else x)
    split
    · exact downS_more k _ _ (by omega)
    · rfl

theorem nrm_double {x y z : Int} (h1 : 1 ≤ mostI x y z) (h2 : mostI x y z ≤ 2305843009213693952) (c : Int) : nrm (2 * x) (2 * y) (2 * z) (2 * c) = nrm x y z c := by
  have hd := most_double h2
  unfold nrm
  rw [hd]
  rcases (show mostI x y z < 524288 ∨ 524288 ≤ mostI x y z by omega) with hc | hc
  · have e : ∀ q, upS 20 (2 * q) (2 * mostI x y z) = upS 20 q (mostI x y z) := fun q => by
      rw [upS_more 19 _ _ (by omega)]
      conv => rhs; rw [upS]
      rw [if_pos hc]
    rw [e, e, e, e]
  · have e : ∀ q, upS 20 q (mostI x y z) = q := fun q => by rw [upS, if_neg (by omega)]
    have e2 : ∀ q, upS 20 (2 * q) (2 * mostI x y z) = 2 * q := fun q => by rw [upS, if_neg (by omega)]
    rw [e, e, e, e, e2, e2, e2, e2, hd]
    rw [downS_more 44 c (mostI x y z) (by omega)]
    conv => lhs; rw [downS]
    rw [if_pos (by omega), show (2 * c).tdiv 2 = c from Int.mul_tdiv_cancel_left c (by decide), show 2 * mostI x y z / 2 = mostI x y z by omega]

theorem unitC_double {x y z : Int} (h1 : 1 ≤ mostI x y z) (h2 : mostI x y z ≤ 2305843009213693952) (c : Int) : unitC (2 * x) (2 * y) (2 * z) (2 * c) = unitC x y z c ∧ okU (2 * x) (2 * y) (2 * z) = true ∧ okU x y z = true := by
  have hd := most_double h2
  have o1 : okU x y z = true := by unfold okU; simp; omega
  have o2 : okU (2 * x) (2 * y) (2 * z) = true := by unfold okU; rw [hd]; simp; omega
  refine ⟨?_, o2, o1⟩
  unfold unitC
  rw [if_pos o1, if_pos o2]
  unfold lenU
  simp only [nrm_double h1 h2]

/-- A direction's coordinates. -/
theorem unitC_r {x y z : Int} (h : okU x y z = true) : 268369924 ≤ unitC x y z x * unitC x y z x + unitC x y z y * unitC x y z y + unitC x y z z * unitC x y z z ∧
    unitC x y z x * unitC x y z x + unitC x y z y * unitC x y z y + unitC x y z z * unitC x y z z ≤ 268468225 ∧
    (-16385 ≤ unitC x y z x ∧ unitC x y z x ≤ 16385) ∧ (-16385 ≤ unitC x y z y ∧ unitC x y z y ≤ 16385) ∧ (-16385 ≤ unitC x y z z ∧ unitC x y z z ≤ 16385) := by
  obtain ⟨_, l1, l2, l3, l4⟩ := len_spec h
  obtain ⟨u1, u2⟩ := unit_bounds l1 l3 l4
  have e : ∀ c, unitC x y z c = (nrm x y z c * 16384).tdiv (lenU x y z) := fun c => by unfold unitC; rw [if_pos h]
  rw [e, e, e]
  refine ⟨u1, u2, ?_⟩
  have key : ∀ q : Int, q * q ≤ 268468225 → -16385 ≤ q ∧ q ≤ 16385 := by
    intro q hq
    rcases (show q < 0 ∨ 0 ≤ q by omega) with h0 | h0
    · have := sq_lt (a := -q) (b := 16386) (by omega) (by omega) (by rw [Int.neg_mul_neg]; omega); omega
    · have := sq_lt (a := q) (b := 16386) h0 (by omega) (by omega); omega
  have a := sq_nonneg ((nrm x y z x * 16384).tdiv (lenU x y z)); have b := sq_nonneg ((nrm x y z y * 16384).tdiv (lenU x y z)); have c := sq_nonneg ((nrm x y z z * 16384).tdiv (lenU x y z))
  exact ⟨key _ (by omega), key _ (by omega), key _ (by omega)⟩

theorem unitC_no {x y z : Int} (h : okU x y z = false) (c : Int) : unitC x y z c = 0 := by unfold unitC; rw [h]; rfl

end Go.Sky
