/- Bent light: how far rounding leads. -/
import Derived.Test.YtpljpbmkklcbkaaGreatQ6568299d
set_option linter.unusedSimpArgs false
set_option linter.unusedVariables false
namespace Go.Sky

/-- A direction's length, from above. -/
theorem unitC_lt {x y z : Int} (h : okU x y z = true) :
    unitC x y z x * unitC x y z x + unitC x y z y * unitC x y z y + unitC x y z z * unitC x y z z < 268468225 := by
  obtain ⟨_, l1, l2, l3, l4⟩ := len_spec h
  have e : ∀ c, unitC x y z c = (nrm x y z c * 16384).tdiv (lenU x y z) := fun c => by unfold unitC; rw [if_pos h]
  rw [e, e, e]
  generalize nrm x y z x = a at *
  generalize nrm x y z y = b at *
  generalize nrm x y z z = c at *
  generalize lenU x y z = l at *
  have k : ∀ q : Int, (l * (q * 16384).tdiv l) * (l * (q * 16384).tdiv l) ≤ (q * 16384) * (q * 16384) := by
    intro q
    have f := tdiv_facts (A := q * 16384) (l := l) (by omega)
    rcases (show q * 16384 < 0 ∨ 0 ≤ q * 16384 by omega) with h | h
    · have := f.2 h
      have := sq_le (a := l * (q * 16384).tdiv l) (b := -(q * 16384)) (by omega) (by omega)
      rw [Int.neg_mul_neg] at this; exact this
    · have := f.1 h; exact sq_le (by omega) (by omega)
  have sx := k a; have sy := k b; have sz := k c
  clear k e
  generalize (a * 16384).tdiv l = u at *
  generalize (b * 16384).tdiv l = v at *
  generalize (c * 16384).tdiv l = w at *
  have e1 : (l * u) * (l * u) + (l * v) * (l * v) + (l * w) * (l * w) = l * l * (u * u + v * v + w * w) := by clear l1 l2 l3 l4 sx sy sz; grind
  have e2 : (a * 16384) * (a * 16384) + (b * 16384) * (b * 16384) + (c * 16384) * (c * 16384) = 268435456 * (a * a + b * b + c * c) := by clear l1 l2 l3 l4 sx sy sz e1; grind
  have e3 : (l + 1) * (l + 1) = l * l + 2 * l + 1 := by clear l1 l2 l3 l4 sx sy sz e1 e2; grind
  generalize u * u + v * v + w * w = n at *
  have h3 : l * l * n ≤ 268435456 * (l * l + 2 * l) := by omega
  rcases (show n < 268468225 ∨ 268468225 ≤ n by omega) with hn | hn
  · exact hn
  · exfalso
    have hL : 524288 * l ≤ l * l := Int.mul_le_mul_of_nonneg_right l1 (by omega)
    have h4 : l * l * 268468225 ≤ l * l * n := Int.mul_le_mul_of_nonneg_left hn (by omega)
    omega

/-- The length of a direction, as it is told. -/
theorem unit_len {x y z : Int} (h : okU x y z = true) :
    16382 ≤ isq (dotN (unitC x y z x) (unitC x y z y) (unitC x y z z) (unitC x y z x) (unitC x y z y) (unitC x y z z)) ∧ isq (dotN (unitC x y z x) (unitC x y z y) (unitC x y z z) (unitC x y z x) (unitC x y z y) (unitC x y z z)) ≤ 16384 := by
  obtain ⟨r1, r2, rx, ry, rz⟩ := unitC_r h
  have r3 := unitC_lt h
  have near : nearB (unitC x y z x) (unitC x y z y) (unitC x y z z) = true := decide_eq_true (by omega)
  rw [dotN_eq near near]
  generalize unitC x y z x * unitC x y z x + unitC x y z y * unitC x y z y + unitC x y z z * unitC x y z z = q at *
  obtain ⟨a, b, c, d⟩ := isq_spec (n := q) (by omega) (by omega)
  have h1 := sq_lt (a := 16381) (b := isq q) (by omega) a
  have h2 := sq_lt (a := isq q) (b := 16385) a (by omega) (by omega)
  have h3 := sq_lt (a := 16382) (b := isq q + 1) (by omega) (by omega) (by omega)
  omega

/-- What goes along a vector, of what is evened. -/
theorem nrm_up {x y z : Int} (h1 : 1 ≤ mostI x y z) (h2 : mostI x y z ≤ 524288) : ∃ k : Int, 1 ≤ k ∧ (∀ q, nrm x y z q = k * q) ∧ mostI (nrm x y z x) (nrm x y z y) (nrm x y z z) = k * mostI x y z := by
  have key : ∀ (j : Nat) (m : Int), 1 ≤ m → m ≤ 524288 → ∃ k : Int, 1 ≤ k ∧ (∀ q, upS j q m = k * q) ∧ upS j m m ≤ 1048575 := by
    intro j
    induction j with
    | zero => intro m h1 h2; exact ⟨1, by omega, fun q => by simp [upS], by simp [upS]; omega⟩
    | succ j ih =>
      intro m h1 h2
      by_cases c : m < 524288
      · by_cases c2 : 2 * m ≤ 524288
        · obtain ⟨k, k1, k2, k3⟩ := ih (2 * m) (by omega) c2
          refine ⟨2 * k, by omega, fun q => ?_, ?_⟩
          · rw [upS, if_pos c, k2]; grind
          · rw [upS, if_pos c]; exact k3
        · refine ⟨2, by omega, fun q => ?_, ?_⟩
          · rw [upS, if_pos c]
            cases j with
            | zero => rfl
            | succ j => rw [upS, if_neg (by omega)]
          · rw [upS, if_pos c]
            cases j with
            | zero => simp only [upS]; omega
            | succ j => rw [upS, if_neg (by omega)]; omega
      · exact ⟨1, by omega, fun q => by rw [upS, if_neg c]; omega, by rw [upS, if_neg c]; omega⟩
  obtain ⟨k, k1, k2, k3⟩ := key 20 (mostI x y z) h1 h2
  obtain ⟨g1, g2, g3⟩ := upS_most 20 _ x y z rfl (by omega)
  have m1 : mostI (upS 20 x (mostI x y z)) (upS 20 y (mostI x y z)) (upS 20 z (mostI x y z)) ≤ 1048575 := by rw [g1]; exact k3
  have e : ∀ q, nrm x y z q = k * q := by
    intro q
    unfold nrm
    rw [k2 q]
    generalize mostI (upS 20 x (mostI x y z)) (upS 20 y (mostI x y z)) (upS 20 z (mostI x y z)) = M at *
    rw [downS, if_neg (by omega)]
  refine ⟨k, k1, e, ?_⟩
  rw [e, e, e, ← k2, ← k2, ← k2, g1, k2]

theorem coord_r {x y z : Int} (h : x * x + y * y + z * z < 268468225) : (-16384 ≤ x ∧ x ≤ 16384) ∧ (-16384 ≤ y ∧ y ≤ 16384) ∧ (-16384 ≤ z ∧ z ≤ 16384) := by
  have a := sq_nonneg x; have b := sq_nonneg y; have c := sq_nonneg z
  have key : ∀ q : Int, q * q < 268468225 → -16384 ≤ q ∧ q ≤ 16384 := by
    intro q hq
    rcases (show q < 0 ∨ 0 ≤ q by omega) with h0 | h0
    · have := sq_lt (a := -q) (b := 16385) (by omega) (by omega) (by rw [Int.neg_mul_neg]; omega); omega
    · have := sq_lt (a := q) (b := 16385) h0 (by omega) (by omega); omega
  exact ⟨key x (by omega), key y (by omega), key z (by omega)⟩

/-- A coordinate that is bent, times what it was divided by. -/
theorem bent_P {a b d f k : Int} (hb : 16384 ≤ b) : 16384 * b * (d * a / b + f * k / 16384) ≤ a * 16384 * d + b * k * f ∧ a * 16384 * d + b * k * f < 16384 * b * (d * a / b + f * k / 16384) + 32768 * b := by
  have h1 := Int.mul_ediv_add_emod (d * a) b
  have h2 := Int.emod_nonneg (d * a) (show b ≠ 0 by omega)
  have h3 := Int.emod_lt_of_pos (d * a) (show 0 < b by omega)
  have h4 := Int.mul_ediv_add_emod (f * k) 16384
  have h5 := Int.emod_nonneg (f * k) (show (16384 : Int) ≠ 0 by omega)
  have h6 := Int.emod_lt_of_pos (f * k) (show (0 : Int) < 16384 by omega)
  generalize d * a / b = p at *
  generalize f * k / 16384 = q at *
  generalize d * a % b = r at *
  generalize f * k % 16384 = e at *
  have e1 : a * 16384 * d + b * k * f = 16384 * b * (p + q) + 16384 * r + b * e := by
    have : a * 16384 * d = 16384 * (d * a) := by grind
    have : b * k * f = b * (f * k) := by grind
    have : 16384 * b * (p + q) = 16384 * (b * p) + b * (16384 * q) := by grind
    have : b * (16384 * q + e) = b * (16384 * q) + b * e := by grind
    have : b * (f * k) = b * (16384 * q + e) := by rw [h4]
    omega
  have e2 : 0 ≤ b * e := Int.mul_nonneg (by omega) h5
  have e3 : b * e ≤ b * 16383 := Int.mul_le_mul_of_nonneg_left (by omega) (by omega)
  omega

section
variable {dx dy dz fx fy fz a b c s R D : Int}

/-- Where hardly anything stands against the surface, the bent one is no short one. -/
theorem bend_far (hd : 268369924 ≤ dx * dx + dy * dy + dz * dz ∧ dx * dx + dy * dy + dz * dz < 268468225) (hf : 268369924 ≤ fx * fx + fy * fy + fz * fz ∧ fx * fx + fy * fy + fz * fz < 268468225)
    (hD : D = -(dx * fx + dy * fy + dz * fz)) (hc : 0 ≤ c ∧ c ≤ 16384) (h1 : 16384 * c ≤ D) (h2 : D ≤ 16384 * c + 32768) (ha : 16384 ≤ a ∧ a ≤ 65536) (hb : 16384 ≤ b ∧ b ≤ 65536)
    (hs : s = (268435456 - c * c) * a * a / (b * b)) (hR0 : 0 ≤ R) (hR2 : 268435456 - s < (R + 1) * (R + 1)) (hR : R ≤ 15) {k : Int}
    (hx : -999 ≤ dx * a / b + fx * k / 16384 ∧ dx * a / b + fx * k / 16384 ≤ 999) (hy : -999 ≤ dy * a / b + fy * k / 16384 ∧ dy * a / b + fy * k / 16384 ≤ 999) (hz : -999 ≤ dz * a / b + fz * k / 16384 ∧ dz * a / b + fz * k / 16384 ≤ 999) : False := by
  have px := bent_P (a := a) (b := b) (d := dx) (f := fx) (k := k) hb.1
  have py := bent_P (a := a) (b := b) (d := dy) (f := fy) (k := k) hb.1
  have pz := bent_P (a := a) (b := b) (d := dz) (f := fz) (k := k) hb.1
  generalize dx * a / b + fx * k / 16384 = tx at *
  generalize dy * a / b + fy * k / 16384 = ty at *
  generalize dz * a / b + fz * k / 16384 = tz at *
  have cf := coord_r hf.2
  have bt : ∀ t : Int, (-999 ≤ t ∧ t ≤ 999) → -(16384 * b * 999) ≤ 16384 * b * t ∧ 16384 * b * t ≤ 16384 * b * 999 := fun t ht => by
    have := mul_abs (x := 16384 * b) (y := t) (m := 16384 * b) (k := 999) (by omega) (by omega); omega
  have bx := bt _ hx; have by' := bt _ hy; have bz := bt _ hz
  have hP : ∀ e f : Int, e = a * 16384 * dx + b * k * fx ∨ e = a * 16384 * dy + b * k * fy ∨ e = a * 16384 * dz + b * k * fz → (-16384 ≤ f ∧ f ≤ 16384) →
      -(16400384 * b * 16384) ≤ e * f ∧ e * f ≤ 16400384 * b * 16384 := by
    intro e f he hf
    exact mul_abs (by rcases he with h | h | h <;> omega) hf
  -- the cross product
  have sqb : ∀ X p q f g : Int, a * 16384 * X = p * f - q * g → (-(16400384 * b * 16384) ≤ p * f ∧ p * f ≤ 16400384 * b * 16384) → (-(16400384 * b * 16384) ≤ q * g ∧ q * g ≤ 16400384 * b * 16384) →
      (a * X) * (a * X) ≤ (32800768 * b) * (32800768 * b) := by
    intro X p q f g e h1 h2
    have e1 : a * 16384 * X = 16384 * (a * X) := by grind
    exact sq_le (by omega) (by omega)
  have sX := sqb (dy * fz - dz * fy) (a * 16384 * dy + b * k * fy) (a * 16384 * dz + b * k * fz) fz fy (by grind) (hP _ _ (.inr (.inl rfl)) cf.2.2) (hP _ _ (.inr (.inr rfl)) cf.2.1)
  have sY := sqb (dz * fx - dx * fz) (a * 16384 * dz + b * k * fz) (a * 16384 * dx + b * k * fx) fx fz (by grind) (hP _ _ (.inr (.inr rfl)) cf.1) (hP _ _ (.inl rfl) cf.2.2)
  have sZ := sqb (dx * fy - dy * fx) (a * 16384 * dx + b * k * fx) (a * 16384 * dy + b * k * fy) fy fx (by grind) (hP _ _ (.inl rfl) cf.2.1) (hP _ _ (.inr (.inl rfl)) cf.1)
  clear px py pz bx by' bz bt hP sqb hx hy hz cf
  have lag : (a * (dy * fz - dz * fy)) * (a * (dy * fz - dz * fy)) + (a * (dz * fx - dx * fz)) * (a * (dz * fx - dx * fz)) + (a * (dx * fy - dy * fx)) * (a * (dx * fy - dy * fx)) =
      (a * a) * ((dx * dx + dy * dy + dz * dz) * (fx * fx + fy * fy + fz * fz) - D * D) := by
    subst hD; clear hd hf h1 h2 sX sY sZ hs hR2; grind
  generalize (a * (dy * fz - dz * fy)) * (a * (dy * fz - dz * fy)) = X2 at *
  generalize (a * (dz * fx - dx * fz)) * (a * (dz * fx - dx * fz)) = Y2 at *
  generalize (a * (dx * fy - dy * fx)) * (a * (dx * fy - dy * fx)) = Z2 at *
  have hDF := mul_mono (a := 268369924) (b := dx * dx + dy * dy + dz * dz) (c := 268369924) (d := fx * fx + fy * fy + fz * fz) (by omega) hd.1 (by omega) hf.1
  generalize (dx * dx + dy * dy + dz * dz) * (fx * fx + fy * fy + fz * fz) = W at *
  have hDD := mul_mono (a := D) (b := 16384 * c + 32768) (c := D) (d := 16384 * c + 32768) (by omega) h2 (by omega) h2
  have eDD : (16384 * c + 32768) * (16384 * c + 32768) = 268435456 * (c * c) + 1073741824 * c + 1073741824 := by clear hd hf hD hs hR2 hDF lag; grind
  have ebb : (32800768 * b) * (32800768 * b) = 1075890381389824 * (b * b) := by clear hd hf hD hs hR2 hDF lag; grind
  -- what is lost against the whole
  have hbb := mul_mono (a := 16384) (b := b) (c := 16384) (d := b) (by omega) hb.1 (by omega) hb.1
  have haa := mul_mono (a := a) (b := 4 * b) (c := a) (d := 4 * b) (by omega) (by omega) (by omega) (by omega)
  have e16 : (4 * b) * (4 * b) = 16 * (b * b) := by clear hd hf hD hs hR2 hDF lag; grind
  have hRR := mul_mono (a := R + 1) (b := 16) (c := R + 1) (d := 16) (by omega) (by omega) (by omega) (by omega)
  have hsb : s * (b * b) ≤ (268435456 - c * c) * a * a := by rw [hs]; exact Int.ediv_mul_le _ (by omega)
  have hsl : 268435200 * (b * b) ≤ s * (b * b) := Int.mul_le_mul_of_nonneg_right (by omega) (by omega)
  have eG : (268435456 - c * c) * a * a = 268435456 * (a * a) - (c * c) * (a * a) := by clear hd hf hD hs hR2 hDF lag hsb; grind
  have hAW : (a * a) * 72022416107765776 ≤ (a * a) * W := Int.mul_le_mul_of_nonneg_left (by omega) (by omega)
  have eL : (a * a) * (W - D * D) = (a * a) * W - (a * a) * (D * D) := by rw [Int.mul_sub]
  have hAD : (a * a) * (D * D) ≤ (a * a) * (268435456 * (c * c) + 17594333528064) := Int.mul_le_mul_of_nonneg_left (by omega) (by omega)
  have eAD : (a * a) * (268435456 * (c * c) + 17594333528064) = 268435456 * ((c * c) * (a * a)) + 17594333528064 * (a * a) := by clear hd hf hD hs hR2 hDF lag hsb eL hAD hAW eG; grind
  generalize (c * c) * (a * a) = CA at *
  generalize (a * a) * W = AW at *
  generalize (a * a) * (D * D) = AD at *
  omega

/-- How much of what is bent stands against the surface. -/
theorem bend_dot (hf : 268369924 ≤ fx * fx + fy * fy + fz * fz ∧ fx * fx + fy * fy + fz * fz < 268468225)
    (hD : D = -(dx * fx + dy * fy + dz * fz)) (hc : 0 ≤ c ∧ c ≤ 16384) (h1 : 16384 * c ≤ D) (ha : 16384 ≤ a ∧ a ≤ 65536) (hb : 16384 ≤ b ∧ b ≤ 65536)
    (hR : 0 ≤ R ∧ R ≤ 16384) {k : Int} (hk : k = c * a / b - R) :
    (dx * a / b + fx * k / 16384) * fx + (dy * a / b + fy * k / 16384) * fy + (dz * a / b + fz * k / 16384) * fz ≤ 229378 ∧
    (15 ≤ R → (dx * a / b + fx * k / 16384) * fx + (dy * a / b + fy * k / 16384) * fy + (dz * a / b + fz * k / 16384) * fz < 0) := by
  have px := bent_P (a := a) (b := b) (d := dx) (f := fx) (k := k) hb.1
  have py := bent_P (a := a) (b := b) (d := dy) (f := fy) (k := k) hb.1
  have pz := bent_P (a := a) (b := b) (d := dz) (f := fz) (k := k) hb.1
  generalize dx * a / b + fx * k / 16384 = tx at *
  generalize dy * a / b + fy * k / 16384 = ty at *
  generalize dz * a / b + fz * k / 16384 = tz at *
  have cf := coord_r hf.2
  have st : ∀ t d f : Int, 16384 * b * t ≤ a * 16384 * d + b * k * f ∧ a * 16384 * d + b * k * f < 16384 * b * t + 32768 * b → (-16384 ≤ f ∧ f ≤ 16384) →
      16384 * (b * (t * f)) ≤ 16384 * (a * (d * f)) + b * k * (f * f) + 536870912 * b := by
    intro t d f h hf
    have h1 := mul_abs (x := a * 16384 * d + b * k * f - 16384 * b * t) (y := f) (m := 32768 * b) (k := 16384) (by omega) hf
    have e : (a * 16384 * d + b * k * f - 16384 * b * t) * f = 16384 * (a * (d * f)) + b * k * (f * f) - 16384 * (b * (t * f)) := by grind
    omega
  have sx := st tx dx fx px cf.1; have sy := st ty dy fy py cf.2.1; have sz := st tz dz fz pz cf.2.2
  clear st px py pz cf
  have e1 : b * (tx * fx) + b * (ty * fy) + b * (tz * fz) = b * (tx * fx + ty * fy + tz * fz) := by rw [Int.mul_add, Int.mul_add]
  have e2 : a * (dx * fx) + a * (dy * fy) + a * (dz * fz) = -(a * D) := by rw [hD, Int.mul_neg, Int.neg_neg, Int.mul_add, Int.mul_add]
  have e3 : b * k * (fx * fx) + b * k * (fy * fy) + b * k * (fz * fz) = b * k * (fx * fx + fy * fy + fz * fz) := by rw [Int.mul_add, Int.mul_add]
  generalize tx * fx + ty * fy + tz * fz = T at *
  generalize fx * fx + fy * fy + fz * fz = F at *
  have hca := mul_mono (a := c) (b := 16384) (c := a) (d := 65536) (by omega) hc.2 (by omega) ha.2
  have q1 := Int.mul_ediv_add_emod (c * a) b
  have q2 := Int.emod_nonneg (c * a) (show b ≠ 0 by omega)
  have q3 := Int.emod_lt_of_pos (c * a) (show 0 < b by omega)
  have q4 : 0 ≤ c * a / b := Int.ediv_nonneg (by omega) (by omega)
  have q5 : c * a / b < 65537 := Int.ediv_lt_of_lt_mul (by omega) (by omega)
  have hbk : b * k = b * (c * a / b) - b * R := by rw [hk, Int.mul_sub]
  have haD : a * (16384 * c) ≤ a * D := Int.mul_le_mul_of_nonneg_left h1 (by omega)
  have eac : a * (16384 * c) = 16384 * (c * a) := by grind
  have hbR := mul_mono (a := b) (b := b) (c := R) (d := 16384) (by omega) (Int.le_refl _) hR.1 hR.2
  have hbF : b * k * F ≤ 268435456 * (b * k) + 2147516416 * b ∧ (b * k < 0 → b * k * F ≤ 268369924 * (b * k)) := by
    rcases (show b * k < 0 ∨ 0 ≤ b * k by omega) with h | h
    · have e : b * k * F = -(-(b * k) * F) := by rw [Int.neg_mul, Int.neg_neg]
      have h9 : -(b * k) * 268369924 ≤ -(b * k) * F := Int.mul_le_mul_of_nonneg_left hf.1 (by omega)
      constructor
      · have : -(b * k) ≤ b * 16384 := by have := Int.mul_nonneg (show 0 ≤ b by omega) q4; omega
        omega
      · intro _; omega
    · have h9 : b * k * F ≤ b * k * 268468224 := Int.mul_le_mul_of_nonneg_left (by omega) h
      have h10 : b * k ≤ b * 65536 := Int.mul_le_mul_of_nonneg_left (by omega) (by omega)
      constructor
      · omega
      · intro _; omega
  have main : 16384 * (b * T) ≤ 3758129152 * b - 268435456 * (b * R) := by
    omega
  have fin : ∀ m : Int, 16384 * (b * T) ≤ m * b → 16384 * T ≤ m := by
    intro m h
    have : b * (16384 * T) ≤ b * m := by
      have e4 : b * (16384 * T) = 16384 * (b * T) := by grind
      have e5 : b * m = m * b := Int.mul_comm _ _
      omega
    exact Int.le_of_mul_le_mul_left this (by omega)
  have g := fin (3758129152 - 268435456 * R) (by rw [Int.sub_mul, Int.mul_assoc, Int.mul_comm R b]; exact main)
  constructor <;> omega

/-- A direction's part along a vector. -/
theorem unit_dot {tx ty tz : Int} (hok : okU tx ty tz = true) (hm : mostI tx ty tz ≤ 524288) (hx : -16384 ≤ fx ∧ fx ≤ 16384) (hy : -16384 ≤ fy ∧ fy ≤ 16384) (hz : -16384 ≤ fz ∧ fz ≤ 16384)
    (hT : tx * fx + ty * fy + tz * fz ≤ 229378) (h0 : 0 < tx * fx + ty * fy + tz * fz → 1000 ≤ mostI tx ty tz) :
    unitC tx ty tz tx * fx + unitC tx ty tz ty * fy + unitC tx ty tz tz * fz ≤ 4194304 := by
  have hm1 : 1 ≤ mostI tx ty tz := by have := okU_r hok; have := most_nonneg tx ty tz; omega
  obtain ⟨K, K1, K2, K3⟩ := nrm_up hm1 hm
  obtain ⟨_, l1, l2, l3, l4⟩ := len_spec hok
  have u : ∀ q, unitC tx ty tz q = (K * q * 16384).tdiv (lenU tx ty tz) := fun q => by unfold unitC; rw [if_pos hok, K2]
  rw [u, u, u]
  rw [K2, K2, K2] at l4
  have hl : K * mostI tx ty tz ≤ lenU tx ty tz := by
    have key : ∀ q : Int, (mostI tx ty tz = q ∨ mostI tx ty tz = -q) → K * mostI tx ty tz * (K * mostI tx ty tz) = K * q * (K * q) := by
      intro q h
      rcases h with h | h <;> rw [h] <;> grind
    have sa := sq_nonneg (K * tx); have sb := sq_nonneg (K * ty); have sc := sq_nonneg (K * tz)
    have hKM : 0 ≤ K * mostI tx ty tz := Int.mul_nonneg (by omega) (by omega)
    have hh : K * mostI tx ty tz * (K * mostI tx ty tz) < (lenU tx ty tz + 1) * (lenU tx ty tz + 1) := by
      obtain ⟨_, _, _, hh⟩ := most_spec (x := tx) (y := ty) (z := tz) (by omega)
      rcases hh with h | h | h | h | h | h
      · rw [key tx (.inl h)]; omega
      · rw [key tx (.inr h)]; omega
      · rw [key ty (.inl h)]; omega
      · rw [key ty (.inr h)]; omega
      · rw [key tz (.inl h)]; omega
      · rw [key tz (.inr h)]; omega
    have := sq_lt hKM (by omega) hh
    omega
  generalize lenU tx ty tz = l at *
  have st : ∀ q f : Int, (-16384 ≤ f ∧ f ≤ 16384) → l * ((K * q * 16384).tdiv l * f) ≤ 16384 * (K * (q * f)) + l * 16384 := by
    intro q f hf
    have h := tdiv_facts (A := K * q * 16384) (l := l) (by omega)
    have h2 := mul_abs (x := l * (K * q * 16384).tdiv l - K * q * 16384) (y := f) (m := l) (k := 16384) (by omega) hf
    have e : (l * (K * q * 16384).tdiv l - K * q * 16384) * f = l * ((K * q * 16384).tdiv l * f) - 16384 * (K * (q * f)) := by clear h h2; grind
    omega
  have sx := st tx fx hx; have sy := st ty fy hy; have sz := st tz fz hz
  generalize (K * tx * 16384).tdiv l * fx = A at *
  generalize (K * ty * 16384).tdiv l * fy = B at *
  generalize (K * tz * 16384).tdiv l * fz = C at *
  have e1 : l * A + l * B + l * C = l * (A + B + C) := by rw [Int.mul_add, Int.mul_add]
  have e2 : K * (tx * fx) + K * (ty * fy) + K * (tz * fz) = K * (tx * fx + ty * fy + tz * fz) := by rw [Int.mul_add, Int.mul_add]
  generalize tx * fx + ty * fy + tz * fz = T at *
  have fin : l * (A + B + C) ≤ l * 3807330 := by
    rcases (show T ≤ 0 ∨ 0 < T by omega) with h | h
    · have : K * T ≤ 0 := Int.mul_nonpos_of_nonneg_of_nonpos (by omega) h
      omega
    · have g1 := h0 h
      have g2 : K * T ≤ K * 229378 := Int.mul_le_mul_of_nonneg_left hT (by omega)
      have g3 : K * 1000 ≤ K * mostI tx ty tz := Int.mul_le_mul_of_nonneg_left g1 (by omega)
      omega
  have := Int.le_of_mul_le_mul_left fin (by omega)
  omega

/-- A direction's direction is itself, or hardly another one. -/
theorem unit_self {x y z : Int} (hd : 268369924 ≤ x * x + y * y + z * z ∧ x * x + y * y + z * z < 268468225) :
    okU x y z = true ∧ ∀ q, (-16384 ≤ q ∧ q ≤ 16384) → -200 ≤ unitC x y z q - q ∧ unitC x y z q - q ≤ 200 := by
  have cf := coord_r hd.2
  have hm2 : mostI x y z ≤ 16384 := by unfold mostI; simp only [max_r]; rw [sat_id (by omega), sat_id (by omega), sat_id (by omega)]; omega
  have hm1 : 1 ≤ mostI x y z := by
    rcases (show mostI x y z = 0 ∨ 1 ≤ mostI x y z by have := most_nonneg x y z; omega) with h | h
    · exfalso
      obtain ⟨g1, g2, g3, _⟩ := most_spec (x := x) (y := y) (z := z) (by omega)
      have : x = 0 := by omega
      have : y = 0 := by omega
      have : z = 0 := by omega
      subst x y z; omega
    · exact h
  have hok : okU x y z = true := by unfold okU; simp; omega
  obtain ⟨K, K1, K2, K3⟩ := nrm_up hm1 (by omega)
  obtain ⟨_, l1, l2, l3, l4⟩ := len_spec hok
  refine ⟨hok, fun q hq => ?_⟩
  have u : unitC x y z q = (K * q * 16384).tdiv (lenU x y z) := by unfold unitC; rw [if_pos hok, K2]
  rw [u]
  rw [K2, K2, K2] at l3 l4
  generalize lenU x y z = l at *
  have e : K * x * (K * x) + K * y * (K * y) + K * z * (K * z) = K * K * (x * x + y * y + z * z) := by clear hd l3 l4 cf; grind
  rw [e] at l3 l4
  have hKK : 0 ≤ K * K := Int.mul_nonneg (by omega) (by omega)
  have up : l < K * 16385 := by
    refine sq_lt (by omega) (by omega) ?_
    have h1 : K * K * (x * x + y * y + z * z) ≤ K * K * 268468224 := Int.mul_le_mul_of_nonneg_left (by omega) hKK
    have h2 : 1 ≤ K * K := by have := mul_mono (a := 1) (b := K) (c := 1) (d := K) (by omega) K1 (by omega) K1; omega
    have e2 : K * 16385 * (K * 16385) = K * K * 268468225 := by grind
    omega
  have lo : K * 16382 < l + 1 := by
    refine sq_lt (by omega) (by omega) ?_
    have h1 : K * K * 268369924 ≤ K * K * (x * x + y * y + z * z) := Int.mul_le_mul_of_nonneg_left hd.1 hKK
    have e2 : K * 16382 * (K * 16382) = K * K * 268369924 := by grind
    omega
  have h := tdiv_facts (A := K * q * 16384) (l := l) (by omega)
  have h2 := mul_abs (x := K * 16384 - l) (y := q) (m := 2 * K) (k := 16384) (by omega) hq
  have e3 : (K * 16384 - l) * q = K * q * 16384 - l * q := by clear h h2; grind
  have e4 : l * ((K * q * 16384).tdiv l - q) = l * (K * q * 16384).tdiv l - l * q := by rw [Int.mul_sub]
  generalize (K * q * 16384).tdiv l = p at *
  have f1 : l * (p - q) ≤ l * 4 := by omega
  have f2 : l * (-4) ≤ l * (p - q) := by omega
  have := Int.le_of_mul_le_mul_left f1 (by omega)
  have := Int.le_of_mul_le_mul_left f2 (by omega)
  omega

end

theorem fac_facts {ux uy uz dx dy dz : Int} (nu : nearB ux uy uz = true) (nd : nearB dx dy dz = true) :
    facC ux ux uy uz dx dy dz * facC ux ux uy uz dx dy dz + facC uy ux uy uz dx dy dz * facC uy ux uy uz dx dy dz + facC uz ux uy uz dx dy dz * facC uz ux uy uz dx dy dz = ux * ux + uy * uy + uz * uz ∧
    sz (dotI ux uy uz dx dy dz) = -(dx * facC ux ux uy uz dx dy dz + dy * facC uy ux uy uz dx dy dz + dz * facC uz ux uy uz dx dy dz) := by
  simp only [facC_eq nu nd]
  unfold sz
  have e : dotI ux uy uz dx dy dz = dx * ux + dy * uy + dz * uz := by unfold dotI; rw [Int.mul_comm ux, Int.mul_comm uy, Int.mul_comm uz]
  by_cases h : dotI ux uy uz dx dy dz > 0
  · simp only [if_pos h]
    rw [if_neg (by omega), Int.neg_mul_neg, Int.neg_mul_neg, Int.neg_mul_neg, Int.mul_neg, Int.mul_neg, Int.mul_neg]
    refine ⟨rfl, ?_⟩
    omega
  · simp only [if_neg h]
    refine ⟨trivial, ?_⟩
    rw [← e]; omega

/-- What the cosine leaves out. -/
theorem cos_facts {dx dy dz fx fy fz D : Int} (hd : 268369924 ≤ dx * dx + dy * dy + dz * dz ∧ dx * dx + dy * dy + dz * dz < 268468225) (hf : 268369924 ≤ fx * fx + fy * fy + fz * fz ∧ fx * fx + fy * fy + fz * fz < 268468225)
    (hD : D = -(dx * fx + dy * fy + dz * fz)) (h0 : 0 ≤ D) : 16384 * hold (D / 16384) 0 16384 ≤ D ∧ D ≤ 16384 * hold (D / 16384) 0 16384 + 32768 := by
  have e : (dx * dx + dy * dy + dz * dz) * (fx * fx + fy * fy + fz * fz) - D * D = (dx * fy - dy * fx) * (dx * fy - dy * fx) + (dx * fz - dz * fx) * (dx * fz - dz * fx) + (dy * fz - dz * fy) * (dy * fz - dz * fy) := by
    subst hD; clear hd hf h0; grind
  have := sq_nonneg (dx * fy - dy * fx); have := sq_nonneg (dx * fz - dz * fx); have := sq_nonneg (dy * fz - dz * fy)
  have h := mul_mono (a := dx * dx + dy * dy + dz * dz) (b := 268468224) (c := fx * fx + fy * fy + fz * fz) (d := 268468224) (by omega) (by omega) (by omega) (by omega)
  have hl : D < 268468225 := sq_lt h0 (by omega) (by omega)
  unfold hold
  split
  · omega
  · split <;> omega

section
variable {dx dy dz ux uy uz a b : Int}

theorem bend_facts (hd : 268369924 ≤ dx * dx + dy * dy + dz * dz ∧ dx * dx + dy * dy + dz * dz < 268468225) (hu : 268369924 ≤ ux * ux + uy * uy + uz * uz ∧ ux * ux + uy * uy + uz * uz < 268468225)
    (ha : 16384 ≤ a ∧ a ≤ 65536) (hb : 16384 ≤ b ∧ b ≤ 65536) :
    (a ≤ b → bendIs dx dy dz ux uy uz a b = true) ∧
    (bendIs dx dy dz ux uy uz a b = false → ∀ c, bendU c dx dy dz ux uy uz a b = 0) ∧
    (bendIs dx dy dz ux uy uz a b = true →
      dotN (bendU (bndC dx ux dx dy dz ux uy uz a b) dx dy dz ux uy uz a b) (bendU (bndC dy uy dx dy dz ux uy uz a b) dx dy dz ux uy uz a b) (bendU (bndC dz uz dx dy dz ux uy uz a b) dx dy dz ux uy uz a b)
        (facC ux ux uy uz dx dy dz) (facC uy ux uy uz dx dy dz) (facC uz ux uy uz dx dy dz) ≤ 4194304 ∧
      16382 ≤ isq (dotN (bendU (bndC dx ux dx dy dz ux uy uz a b) dx dy dz ux uy uz a b) (bendU (bndC dy uy dx dy dz ux uy uz a b) dx dy dz ux uy uz a b) (bendU (bndC dz uz dx dy dz ux uy uz a b) dx dy dz ux uy uz a b)
        (bendU (bndC dx ux dx dy dz ux uy uz a b) dx dy dz ux uy uz a b) (bendU (bndC dy uy dx dy dz ux uy uz a b) dx dy dz ux uy uz a b) (bendU (bndC dz uz dx dy dz ux uy uz a b) dx dy dz ux uy uz a b)) ∧
      isq (dotN (bendU (bndC dx ux dx dy dz ux uy uz a b) dx dy dz ux uy uz a b) (bendU (bndC dy uy dx dy dz ux uy uz a b) dx dy dz ux uy uz a b) (bendU (bndC dz uz dx dy dz ux uy uz a b) dx dy dz ux uy uz a b)
        (bendU (bndC dx ux dx dy dz ux uy uz a b) dx dy dz ux uy uz a b) (bendU (bndC dy uy dx dy dz ux uy uz a b) dx dy dz ux uy uz a b) (bendU (bndC dz uz dx dy dz ux uy uz a b) dx dy dz ux uy uz a b)) ≤ 16384) := by
  have cd := coord_r hd.2
  have cu := coord_r hu.2
  have sd : shortB dx dy dz = true := decide_eq_true (by omega)
  have su : shortB ux uy uz = true := decide_eq_true (by omega)
  have nd := short_near sd
  have nu := short_near su
  obtain ⟨f1, f2⟩ := fac_facts nu nd
  have hcN : cosN ux uy uz dx dy dz = cosR ux uy uz dx dy dz := cosN_eq su sd
  have hc := @cosN_r ux uy uz dx dy dz
  have hsz := (sz_r (dotI_r nu nd)).1
  have rfx := facC_r (nx := ux) (ny := uy) (nz := uz) (dx := dx) (dy := dy) (dz := dz) cu.1
  have rfy := facC_r (nx := ux) (ny := uy) (nz := uz) (dx := dx) (dy := dy) (dz := dz) cu.2.1
  have rfz := facC_r (nx := ux) (ny := uy) (nz := uz) (dx := dx) (dy := dy) (dz := dz) cu.2.2
  have hk := hcN
  unfold cosR at hk
  have isd : bendIs dx dy dz ux uy uz a b = (bendOk dx dy dz ux uy uz a b && okU (bndC dx ux dx dy dz ux uy uz a b) (bndC dy uy dx dy dz ux uy uz a b) (bndC dz uz dx dy dz ux uy uz a b)) := rfl
  have ok : bendOk dx dy dz ux uy uz a b = decide (sineN (cosN ux uy uz dx dy dz) a b ≤ 268435456) := by
    unfold bendOk; rw [sd, su, show idxB a = true from decide_eq_true ha, show idxB b = true from decide_eq_true hb]; rfl
  have Ud : ∀ c, bendU c dx dy dz ux uy uz a b = if bendOk dx dy dz ux uy uz a b = true then unitC (bndC dx ux dx dy dz ux uy uz a b) (bndC dy uy dx dy dz ux uy uz a b) (bndC dz uz dx dy dz ux uy uz a b) c else 0 := fun _ => rfl
  have bx : bndC dx ux dx dy dz ux uy uz a b = dx * a / b + facC ux ux uy uz dx dy dz * bendK (cosN ux uy uz dx dy dz) a b / 16384 := rfl
  have by' : bndC dy uy dx dy dz ux uy uz a b = dy * a / b + facC uy ux uy uz dx dy dz * bendK (cosN ux uy uz dx dy dz) a b / 16384 := rfl
  have bz : bndC dz uz dx dy dz ux uy uz a b = dz * a / b + facC uz ux uy uz dx dy dz * bendK (cosN ux uy uz dx dy dz) a b / 16384 := rfl
  have kd : bendK (cosN ux uy uz dx dy dz) a b = cosN ux uy uz dx dy dz * a / b - isq (268435456 - sineN (cosN ux uy uz dx dy dz) a b) := rfl
  have se := sineN_eq hc ha hb
  obtain ⟨_, _, s2, s3, s4⟩ := sine_r hc ha hb
  rw [← se] at s4
  generalize facC ux ux uy uz dx dy dz = fx at *
  generalize facC uy ux uy uz dx dy dz = fy at *
  generalize facC uz ux uy uz dx dy dz = fz at *
  generalize sz (dotI ux uy uz dx dy dz) = D at *
  have hf : 268369924 ≤ fx * fx + fy * fy + fz * fz ∧ fx * fx + fy * fy + fz * fz < 268468225 := by omega
  obtain ⟨c1, c2⟩ := cos_facts hd hf f2 hsz
  rw [← hk] at c1 c2
  generalize cosN ux uy uz dx dy dz = c at *
  generalize bendOk dx dy dz ux uy uz a b = OK at *
  generalize bndC dx ux dx dy dz ux uy uz a b = tx at *
  generalize bndC dy uy dx dy dz ux uy uz a b = ty at *
  generalize bndC dz uz dx dy dz ux uy uz a b = tz at *
  generalize bendK c a b = k at *
  generalize hse : sineN c a b = s at *
  clear hk hcN
  have core : s ≤ 268435456 → (tx * fx + ty * fy + tz * fz ≤ 229378 ∧ (0 < tx * fx + ty * fy + tz * fz → 1000 ≤ mostI tx ty tz) ∧ mostI tx ty tz ≤ 524288 ∧ mostI tx ty tz ≠ 0) := by
    intro hs
    obtain ⟨_, _, q3, _⟩ := bnd_r hc ha hb ⟨s4, hs⟩ (d := dx) (f := fx) (by omega) (by omega)
    obtain ⟨_, _, _, _, wx1, _, wx2⟩ := bnd_r hc ha hb ⟨s4, hs⟩ (d := dx) (f := fx) (by omega) (by omega)
    obtain ⟨_, _, _, _, wy1, _, wy2⟩ := bnd_r hc ha hb ⟨s4, hs⟩ (d := dy) (f := fy) (by omega) (by omega)
    obtain ⟨_, _, _, _, wz1, _, wz2⟩ := bnd_r hc ha hb ⟨s4, hs⟩ (d := dz) (f := fz) (by omega) (by omega)
    rw [← kd] at wx2 wy2 wz2
    obtain ⟨r0, _, _, r3⟩ := isq_spec (n := 268435456 - s) (by omega) (by omega)
    generalize isq (268435456 - s) = R at *
    obtain ⟨d1, d2⟩ := bend_dot hf f2 hc c1 ha hb q3 kd
    rw [← bx, ← by', ← bz] at d1 d2
    have far : R ≤ 15 → 1000 ≤ mostI tx ty tz := by
      intro hR
      rcases (show mostI tx ty tz ≤ 999 ∨ 1000 ≤ mostI tx ty tz by omega) with h | h
      · exfalso
        obtain ⟨g1, g2, g3, _⟩ := most_spec (x := tx) (y := ty) (z := tz) (by omega)
        exact bend_far hd hf f2 hc c1 c2 ha hb se r0 r3 hR (k := k) (by rw [← bx]; omega) (by rw [← by']; omega) (by rw [← bz]; omega)
      · exact h
    have top : mostI tx ty tz ≤ 524288 := by
      unfold mostI; simp only [max_r]; rw [sat_id (by omega), sat_id (by omega), sat_id (by omega)]; omega
    refine ⟨d1, fun h => far (by omega), top, fun h0 => ?_⟩
    obtain ⟨g1, g2, g3, _⟩ := most_spec (x := tx) (y := ty) (z := tz) (by omega)
    rcases (show R ≤ 15 ∨ 15 ≤ R by omega) with h | h
    · have := far h; omega
    · have := d2 h
      rw [show tx = 0 by omega, show ty = 0 by omega, show tz = 0 by omega] at this
      omega
  have okt : s ≤ 268435456 → okU tx ty tz = true := by
    intro hs
    obtain ⟨_, _, h3, h4⟩ := core hs
    unfold okU; simp; omega
  refine ⟨fun hab => ?_, fun h q => ?_, fun h => ?_⟩
  · have hs : s ≤ 268435456 := by
      have m1 := mul_mono (a := a) (b := b) (c := a) (d := b) (by omega) hab (by omega) hab
      have m2 : (268435456 - c * c) * (a * a) ≤ 268435456 * (b * b) := (mul_mono (by omega) (by omega) m1.1 m1.2).2
      rw [se]
      exact Int.ediv_le_of_le_mul (by omega) (by rw [Int.mul_assoc]; exact m2)
    rw [isd, ok, decide_eq_true hs, okt hs]; rfl
  · rw [Ud]
    split
    · rename_i h1
      rw [isd, h1, Bool.true_and] at h
      exact unitC_no h q
    · rfl
  · rw [isd, Bool.and_eq_true] at h
    obtain ⟨h1, h2⟩ := h
    have hs : s ≤ 268435456 := by rw [ok] at h1; exact of_decide_eq_true h1
    obtain ⟨g1, g2, g3, _⟩ := core hs
    simp only [Ud, if_pos h1]
    obtain ⟨l1, l2⟩ := unit_len h2
    refine ⟨?_, l1, l2⟩
    obtain ⟨_, _, rx, ry, rz⟩ := unitC_r h2
    rw [dotN_eq (decide_eq_true (by omega)) (decide_eq_true (by omega))]
    exact unit_dot h2 g3 rfx rfy rfz g1 g2

theorem bend_same (hd : 268369924 ≤ dx * dx + dy * dy + dz * dz ∧ dx * dx + dy * dy + dz * dz < 268468225) (hu : 268369924 ≤ ux * ux + uy * uy + uz * uz ∧ ux * ux + uy * uy + uz * uz < 268468225)
    (ha : 16384 ≤ a ∧ a ≤ 65536) : ∀ q w, (q = dx ∧ w = ux ∨ q = dy ∧ w = uy ∨ q = dz ∧ w = uz) →
      -200 ≤ bendU (bndC q w dx dy dz ux uy uz a a) dx dy dz ux uy uz a a - q ∧ bendU (bndC q w dx dy dz ux uy uz a a) dx dy dz ux uy uz a a - q ≤ 200 := by
  intro q w hq
  have hi := (bend_facts hd hu ha ha).1 (Int.le_refl _)
  have cd := coord_r hd.2
  unfold bendIs at hi
  rw [Bool.and_eq_true] at hi
  unfold bendU
  rw [if_pos hi.1]
  have hc := @cosN_r ux uy uz dx dy dz
  have haa : 0 < a * a := Int.mul_pos (by omega) (by omega)
  have hk : bendK (cosN ux uy uz dx dy dz) a a = 0 := by
    unfold bendK
    rw [sineN_eq hc ha ha]
    generalize cosN ux uy uz dx dy dz = c at *
    rw [Int.mul_assoc, Int.mul_ediv_cancel _ (by omega), Int.mul_ediv_cancel _ (by omega)]
    have e : 268435456 - (268435456 - c * c) = c * c := by omega
    rw [e]
    have m := mul_mono (a := c) (b := 16384) (c := c) (d := 16384) hc.1 hc.2 hc.1 hc.2
    obtain ⟨r0, _, r2, r3⟩ := isq_spec (n := c * c) (by omega) (by omega)
    have h1 := sq_lt (a := c) (b := isq (c * c) + 1) hc.1 (by omega) (by omega)
    have e3 : (c + 1) * (c + 1) = c * c + 2 * c + 1 := by grind
    have h2 : isq (c * c) < c + 1 := sq_lt r0 (by omega) (by omega)
    omega
  have hb : ∀ p f : Int, bndC p f dx dy dz ux uy uz a a = p := by
    intro p f
    unfold bndC
    rw [hk, Int.mul_zero, Int.mul_ediv_cancel _ (by omega)]
    omega
  simp only [hb]
  have := (unit_self hd).2 q (by rcases hq with ⟨h, _⟩ | ⟨h, _⟩ | ⟨h, _⟩ <;> rw [h] <;> omega)
  exact this

end

end Go.Sky

/- Matter: what a material lets by, and where it throws. -/
set_option linter.unusedSimpArgs false
set_option linter.unusedVariables false
namespace Go.Sky

theorem short_node {α : Type} (x y z : Int) (Z T : Tr α) :
    (Tr.node (decide (mm true (mm true x y) z > 16385)) Z (Tr.node (decide (mm false (mm false x y) z < -16385)) Z T)).run = if shortB x y z = true then T.run else Z.run := by
  unfold shortB
  simp only [Tr.run, decide_eq_true_eq, mx_gt, mn_lt]
  by_cases h : (-16385 ≤ x ∧ x ≤ 16385) ∧ (-16385 ≤ y ∧ y ≤ 16385) ∧ (-16385 ≤ z ∧ z ≤ 16385)
  · rw [if_pos h, if_neg (by omega), if_neg (by omega)]
  · rw [if_neg h]
    split
    · rfl
    · rw [if_pos (by omega)]

theorem short_node' {α : Type} (x y z : Int) (Z T : Tr α) :
    (Tr.node (decide (mm true (mm true x y) z ≤ 16385)) (Tr.node (!decide (mm false (mm false x y) z ≥ -16385)) Z T) Z).run = if shortB x y z = true then T.run else Z.run := by
  unfold shortB
  simp only [Tr.run, decide_eq_true_eq, Bool.not_eq_true', decide_eq_false_iff_not, mx_le, mn_ge]
  by_cases h : (-16385 ≤ x ∧ x ≤ 16385) ∧ (-16385 ≤ y ∧ y ≤ 16385) ∧ (-16385 ≤ z ∧ z ≤ 16385)
  · rw [if_pos h, if_pos (by omega), if_neg (by omega)]
  · rw [if_neg h]
    split
    · rw [if_pos (by omega)]
    · rfl

theorem zero3 (x y z : Int) : (x == 0 && (y == 0 && (z == 0 && true))) = decide ((⟨x, y, z⟩ : V3) = ⟨0, 0, 0⟩) := by
  rw [Bool.eq_iff_iff]
  simp only [Bool.and_eq_true, beq_iff_eq, and_true, decide_eq_true_eq, V3.mk.injEq]

theorem ne3 (X : V3) : (!(X.x == 0 && (X.y == 0 && (X.z == 0 && true)))) = decide (X ≠ ⟨0, 0, 0⟩) := by
  rw [zero3]
  exact (decide_not ..).symm

theorem zero_node {α : Type} (x y z : Int) (Z T : Tr α) : (Tr.node (x == 0 && (y == 0 && (z == 0 && true))) Z T).run = if (⟨x, y, z⟩ : V3) ≠ ⟨0, 0, 0⟩ then T.run else Z.run := by
  rw [zero3]
  simp only [Tr.run, decide_eq_true_eq]
  by_cases h : (⟨x, y, z⟩ : V3) = ⟨0, 0, 0⟩
  · rw [if_pos h, if_neg (fun h2 => h2 h)]
  · rw [if_neg h, if_pos h]

section
variable {c k r g b x : Int} {n i o : V3} {u a w : Int}

theorem thr_no (h : thrOk k r g b x n i = false) : thr3 k r g b x n i u a w = (⟨0, 0, 0⟩, false) := by unfold thr3; rw [if_neg (by rw [h]; decide)]
theorem thr_sn (h : shortB n.x n.y n.z = false) : thrOk k r g b x n i = false := by unfold thrOk short3; rw [h]; simp
theorem thr_si (h : shortB i.x i.y i.z = false) : thrOk k r g b x n i = false := by unfold thrOk short3; rw [h]; simp
theorem thr_zn (h : ¬ (n ≠ ⟨0, 0, 0⟩)) : thrOk k r g b x n i = false := by unfold thrOk; rw [decide_eq_false h]; simp
theorem thr_zi (h : ¬ (i ≠ ⟨0, 0, 0⟩)) : thrOk k r g b x n i = false := by unfold thrOk; rw [decide_eq_false h]; simp
theorem thr_m (h : matB k r g b x = false) : thrOk k r g b x n i = false := by unfold thrOk; rw [h]; simp
theorem thr_ok (h : matB k r g b x = true) (h1 : shortB n.x n.y n.z = true) (h2 : shortB i.x i.y i.z = true) (h3 : n ≠ ⟨0, 0, 0⟩) (h4 : i ≠ ⟨0, 0, 0⟩) : thrOk k r g b x n i = true := by
  unfold thrOk short3; rw [h, h1, h2, decide_eq_true h3, decide_eq_true h4]; rfl

theorem thr_1 (h : thrOk 1 r g b x n i = true) : thr3 1 r g b x n i u a w = (half3 (fac3 n i) u a, decide (half3 (fac3 n i) u a ≠ ⟨0, 0, 0⟩)) := by unfold thr3; rw [if_pos h, if_pos rfl]
theorem thr_2 (h : thrOk 2 r g b x n i = true) : thr3 2 r g b x n i u a w = (unit3 (mir3 i (fac3 n i)), ok3 (mir3 i (fac3 n i))) := by unfold thr3; rw [if_pos h, if_neg (by decide), if_pos rfl]
theorem thr_3 (h : thrOk 3 r g b x n i = true) : thr3 3 r g b x n i u a w = if glB x n i w = true then (bend3 i n (if dot3 n i > 0 then x else 16384) (if dot3 n i > 0 then 16384 else x), true) else (unit3 (mir3 i (fac3 n i)), ok3 (mir3 i (fac3 n i))) := by
  unfold thr3; rw [if_pos h, if_neg (by decide), if_neg (by decide), if_pos rfl]
theorem thr_4 (h : thrOk 4 r g b x n i = true) : thr3 4 r g b x n i u a w = if ok3 (mir3 i (fac3 n i)) = true ∧ dot3 (fac3 n i) (glossD x n i u a) > 0 then (glossD x n i u a, true) else (⟨0, 0, 0⟩, false) := by
  unfold thr3; rw [if_pos h, if_neg (by decide), if_neg (by decide), if_neg (by decide)]

/-- Which materials there may be. -/
theorem mat_cases (h : matB k r g b x = true) : colB r g b = true ∧ (k = 1 ∧ x = 0 ∨ k = 2 ∧ x = 0 ∨ k = 3 ∧ 16384 ≤ x ∧ x ≤ 65536 ∨ k = 4 ∧ 1 ≤ x ∧ x ≤ 64) := by
  unfold matB at h
  simp only [Bool.and_eq_true, Bool.or_eq_true, decide_eq_true_eq] at h
  exact ⟨h.1, by omega⟩
theorem mat_no (h : matB k r g b x = false) (hc : colB r g b = true) : ¬ (k = 1 ∧ x = 0 ∨ k = 2 ∧ x = 0 ∨ k = 3 ∧ 16384 ≤ x ∧ x ≤ 65536 ∨ k = 4 ∧ 1 ≤ x ∧ x ≤ 64) := by
  unfold matB at h
  rw [hc] at h
  simp only [Bool.true_and, Bool.or_eq_false_iff, decide_eq_false_iff_not] at h
  omega
theorem col_r (h : colB r g b = true) : (0 ≤ r ∧ r ≤ 65536) ∧ (0 ≤ g ∧ g ≤ 65536) ∧ (0 ≤ b ∧ b ≤ 65536) := of_decide_eq_true h

theorem val_no (h : matB k r g b x = false ∨ shortB n.x n.y n.z = false ∨ shortB i.x i.y i.z = false ∨ shortB o.x o.y o.z = false) : valC c k r g b x n i o = 0 := by
  unfold valC short3
  rw [if_neg]
  rintro ⟨h1, h2, h3, h4⟩
  rcases h with h | h | h | h <;> simp_all
theorem val_ok (h : matB k r g b x = true) (h1 : shortB n.x n.y n.z = true) (h2 : shortB i.x i.y i.z = true) (h3 : shortB o.x o.y o.z = true) : valC c k r g b x n i o = c * valG k x n i o / 16384 := by
  unfold valC short3; rw [if_pos ⟨h, h1, h2, h3⟩]

theorem part_eq {q : Int} (h : colB r g b = true) (hc : 0 ≤ c ∧ c ≤ 65536) (hq : 0 ≤ q ∧ q ≤ 16384) : partC c r g b q 16384 = c * q / 16384 := by
  have hr := col_r h
  have m := mul_mono hc.1 hc.2 hq.1 hq.2
  unfold partC wgtB atF
  rw [if_pos ⟨decide_eq_true (by omega), by decide, hq.1⟩, if_pos (by decide), sat_id (by omega)]
  omega

theorem pow_r (y : Int) : 0 ≤ powN y x ∧ powN y x ≤ 16384 := by
  unfold powN
  split
  · rename_i h; exact pwGo_r _ h.1 (by decide)
  · omega

theorem valG_r : 0 ≤ valG k x n i o ∧ valG k x n i o ≤ 16384 := by
  unfold valG
  split
  · exact upon_r _ _
  · split
    · split
      · omega
      · exact pow_r _
    · omega

theorem valC_r (hc : 0 ≤ c) : 0 ≤ valC c k r g b x n i o ∧ valC c k r g b x n i o ≤ c := by
  have g := @valG_r k x n i o
  unfold valC
  split
  · have h1 := Int.mul_nonneg hc g.1
    have h2 : c * valG k x n i o ≤ c * 16384 := Int.mul_le_mul_of_nonneg_left g.2 hc
    omega
  · omega

end
end Go.Sky

/- Trees of functions, and what they come to. -/
set_option linter.unusedSimpArgs false
set_option linter.unusedVariables false
namespace Go.Sky
set_option maxRecDepth 100000

/-! skylightref25.Power, block 0 -/
def st_skylightref25_Power_0 (c : Int) (en : Int) (pw : Int) (j : Int) (x2 x3 x4 x7 x8 x9 x10 x11 x12 x13 x14 x15 x16 x17 x18 x19 x20 x21 x22 x23 x24 x25 x26 x27 x28 x29 x30 : AV) (h : AH) : St := ⟨[.int .i64 false c, .int .i64 false en, x2, x3, x4, .int .i64 false pw, .int .i64 false j, x7, x8, x9, x10, x11, x12, x13, x14, x15, x16, x17, x18, x19, x20, x21, x22, x23, x24, x25, x26, x27, x28, x29, x30], h⟩
def kl_skylightref25_Power_0 (c : Int) (en : Int) (pw : Int) (j : Int) (x2 x3 x4 x7 x8 x9 x10 x11 x12 x13 x14 x15 x16 x17 x18 x19 x20 x21 x22 x23 x24 x25 x26 x27 x28 x29 x30 : AV) (h : AH) : List AV := [untag (.int .i64 false c), untag (.int .i64 false en), untag x2, untag x3, untag x4, .undef, .undef, untag x7, untag x8, untag x9, untag x10, untag x11, untag x12, untag x13, untag x14, untag x15, untag x16, untag x17, untag x18, untag x19, untag x20, .undef, .undef, .undef, .undef, .undef, .undef, .undef, .undef, .undef, untag x30]
def sl_skylightref25_Power_0_0 (c : Int) (en : Int) (pw : Int) (j : Int) (x2 x3 x4 x7 x8 x9 x10 x11 x12 x13 x14 x15 x16 x17 x18 x19 x20 x21 x22 x23 x24 x25 x26 x27 x28 x29 x30 : AV) (h : AH) : St := ⟨[AV.int IntKind.i64 false c, AV.int IntKind.i64 false en, x2, x3, x4, AV.int IntKind.i64 false (if (1 : Int) ≤ 16384 then IntKind.i64.wrap (pw * c) / 16384 else 0), AV.int IntKind.i64 false (IntKind.i64.wrap (j + 1)), x7, x8, x9, x10, x11, x12, x13, x14, x15, x16, x17, x18, x19, x20, AV.int IntKind.i64 false j, AV.int IntKind.i64 false en, AV.bool false (decide (j < en)), AV.int IntKind.i64 false j, AV.int IntKind.i64 false (IntKind.i64.wrap (j + 1)), AV.int IntKind.i64 false pw, AV.int IntKind.i64 false c, AV.int IntKind.i64 false (IntKind.i64.wrap (pw * c)), AV.int IntKind.i64 false (if (1 : Int) ≤ 16384 then IntKind.i64.wrap (pw * c) / 16384 else 0), x30], h⟩
def sl_skylightref25_Power_0_1 (c : Int) (en : Int) (pw : Int) (j : Int) (x2 x3 x4 x7 x8 x9 x10 x11 x12 x13 x14 x15 x16 x17 x18 x19 x20 x21 x22 x23 x24 x25 x26 x27 x28 x29 x30 : AV) (h : AH) : St := ⟨[AV.int IntKind.i64 false c, AV.int IntKind.i64 false en, x2, x3, x4, AV.int IntKind.i64 false pw, AV.int IntKind.i64 false j, x7, x8, x9, x10, x11, x12, x13, x14, x15, x16, x17, x18, x19, x20, AV.int IntKind.i64 false j, AV.int IntKind.i64 false en, AV.bool false (decide (j < en)), x24, x25, x26, x27, x28, x29, x30], h⟩
def rd_skylightref25_Power_0 (c : Int) (en : Int) (pw : Int) (j : Int) (x2 x3 x4 x7 x8 x9 x10 x11 x12 x13 x14 x15 x16 x17 x18 x19 x20 x21 x22 x23 x24 x25 x26 x27 x28 x29 x30 : AV) (h : AH) : Tr (Ex × St) := Tr.node (decide (j < en)) (Tr.leaf (Ex.normal, sl_skylightref25_Power_0_0 c en pw j x2 x3 x4 x7 x8 x9 x10 x11 x12 x13 x14 x15 x16 x17 x18 x19 x20 x21 x22 x23 x24 x25 x26 x27 x28 x29 x30 h)) (Tr.leaf (Ex.exit 0, sl_skylightref25_Power_0_1 c en pw j x2 x3 x4 x7 x8 x9 x10 x11 x12 x13 x14 x15 x16 x17 x18 x19 x20 x21 x22 x23 x24 x25 x26 x27 x28 x29 x30 h))
def g_skylightref25_Power_0 : PieceTold := fun l h => match l with | [.int .i64 false c, .int .i64 false en, .int .i64 false pw, .int .i64 false j] => .node (decide ((0 ≤ c ∧ c ≤ 16384) ∧ (0 ≤ pw ∧ pw ≤ 16384) ∧ 0 ≤ j ∧ j ≤ en ∧ en ≤ 64)) (.leaf (.normal, [(5, i6 (pwGo (en - j).toNat c pw))], h)) .bad | _ => .bad
def HR_skylightref25_Power_0 (rnd : Nat → St → Tr (Ex × St)) : Prop := ∀ L (c : Int) (en : Int) (pw : Int) (j : Int) (x2 x3 x4 x7 x8 x9 x10 x11 x12 x13 x14 x15 x16 x17 x18 x19 x20 x21 x22 x23 x24 x25 x26 x27 x28 x29 x30 : AV) (h : AH), rnd L (st_skylightref25_Power_0 c en pw j x2 x3 x4 x7 x8 x9 x10 x11 x12 x13 x14 x15 x16 x17 x18 x19 x20 x21 x22 x23 x24 x25 x26 x27 x28 x29 x30 h) = rd_skylightref25_Power_0 c en pw j x2 x3 x4 x7 x8 x9 x10 x11 x12 x13 x14 x15 x16 x17 x18 x19 x20 x21 x22 x23 x24 x25 x26 x27 x28 x29 x30 h
/-- From here the loop ends so. -/
def Fin_skylightref25_Power_0 (rnd : Nat → St → Tr (Ex × St)) (c : Int) (en : Int) (pw : Int) (j : Int) (e : Ex) (outs : List (Nat × AV)) (hp : AH → AH) : Prop := ∀ (x2 x3 x4 x7 x8 x9 x10 x11 x12 x13 x14 x15 x16 x17 x18 x19 x20 x21 x22 x23 x24 x25 x26 x27 x28 x29 x30 : AV) (h : AH),
    ∃ N s', (∀ L, (loopIterG none (rnd L) (N + 1) (st_skylightref25_Power_0 c en pw j x2 x3 x4 x7 x8 x9 x10 x11 x12 x13 x14 x15 x16 x17 x18 x19 x20 x21 x22 x23 x24 x25 x26 x27 x28 x29 x30 h)).run = some (e, s')) ∧ Leaves none 31 [5, 6, 21, 22, 23, 24, 25, 26, 27, 28, 29] (st_skylightref25_Power_0 c en pw j x2 x3 x4 x7 x8 x9 x10 x11 x12 x13 x14 x15 x16 x17 x18 x19 x20 x21 x22 x23 x24 x25 x26 x27 x28 x29 x30 h).tmps outs (hp h) s'
theorem step_skylightref25_Power_0_0 {rnd : Nat → St → Tr (Ex × St)} (hr : HR_skylightref25_Power_0 rnd) (c : Int) (en : Int) (pw : Int) (j : Int) (c0 : (decide (j < en)) = true) {e : Ex} {outs : List (Nat × AV)} {hp : AH → AH} (hn : Fin_skylightref25_Power_0 rnd (c) (en) ((if (1 : Int) ≤ 16384 then IntKind.i64.wrap (pw * c) / 16384 else 0)) ((IntKind.i64.wrap (j + 1))) e outs hp) : Fin_skylightref25_Power_0 rnd c en pw j e outs hp := by
  intro x2 x3 x4 x7 x8 x9 x10 x11 x12 x13 x14 x15 x16 x17 x18 x19 x20 x21 x22 x23 x24 x25 x26 x27 x28 x29 x30 h
  obtain ⟨N, s', h1, h2⟩ := hn (x2) (x3) (x4) (x7) (x8) (x9) (x10) (x11) (x12) (x13) (x14) (x15) (x16) (x17) (x18) (x19) (x20) (AV.int IntKind.i64 false j) (AV.int IntKind.i64 false en) (AV.bool false (decide (j < en))) (AV.int IntKind.i64 false j) (AV.int IntKind.i64 false (IntKind.i64.wrap (j + 1))) (AV.int IntKind.i64 false pw) (AV.int IntKind.i64 false c) (AV.int IntKind.i64 false (IntKind.i64.wrap (pw * c))) (AV.int IntKind.i64 false (if (1 : Int) ≤ 16384 then IntKind.i64.wrap (pw * c) / 16384 else 0)) (x30) h
  refine ⟨N + 1, s', fun L => ?_, h2.of (s1 := sl_skylightref25_Power_0_0 c en pw j x2 x3 x4 x7 x8 x9 x10 x11 x12 x13 x14 x15 x16 x17 x18 x19 x20 x21 x22 x23 x24 x25 x26 x27 x28 x29 x30 h) rfl ((show _ = kl_skylightref25_Power_0 c en pw j x2 x3 x4 x7 x8 x9 x10 x11 x12 x13 x14 x15 x16 x17 x18 x19 x20 x21 x22 x23 x24 x25 x26 x27 x28 x29 x30 h from rfl).trans (show kl_skylightref25_Power_0 c en pw j x2 x3 x4 x7 x8 x9 x10 x11 x12 x13 x14 x15 x16 x17 x18 x19 x20 x21 x22 x23 x24 x25 x26 x27 x28 x29 x30 h = _ from rfl))⟩
  rw [loopIterG, hr L c en pw j x2 x3 x4 x7 x8 x9 x10 x11 x12 x13 x14 x15 x16 x17 x18 x19 x20 x21 x22 x23 x24 x25 x26 x27 x28 x29 x30 h, Tr.run_bind, show (rd_skylightref25_Power_0 c en pw j x2 x3 x4 x7 x8 x9 x10 x11 x12 x13 x14 x15 x16 x17 x18 x19 x20 x21 x22 x23 x24 x25 x26 x27 x28 x29 x30 h).run = some (.normal, sl_skylightref25_Power_0_0 c en pw j x2 x3 x4 x7 x8 x9 x10 x11 x12 x13 x14 x15 x16 x17 x18 x19 x20 x21 x22 x23 x24 x25 x26 x27 x28 x29 x30 h) from (run_t c0).trans (rfl)]
  exact h1 L
theorem stop_skylightref25_Power_0_1 {rnd : Nat → St → Tr (Ex × St)} (hr : HR_skylightref25_Power_0 rnd) (c : Int) (en : Int) (pw : Int) (j : Int) (c0 : (decide (j < en)) = false) {outs : List (Nat × AV)} {hp : AH → AH} (ho : ∀ (x2 x3 x4 x7 x8 x9 x10 x11 x12 x13 x14 x15 x16 x17 x18 x19 x20 x21 x22 x23 x24 x25 x26 x27 x28 x29 x30 : AV) (h : AH), outs.map (fun p => untag ((sl_skylightref25_Power_0_1 c en pw j x2 x3 x4 x7 x8 x9 x10 x11 x12 x13 x14 x15 x16 x17 x18 x19 x20 x21 x22 x23 x24 x25 x26 x27 x28 x29 x30 h).tmps.getD p.1 .undef)) = outs.map (fun p => untag p.2)) (hh : ∀ h : AH, (h).map untagL = (hp h).map untagL) : Fin_skylightref25_Power_0 rnd c en pw j (.exit 0) outs hp := by
  intro x2 x3 x4 x7 x8 x9 x10 x11 x12 x13 x14 x15 x16 x17 x18 x19 x20 x21 x22 x23 x24 x25 x26 x27 x28 x29 x30 h
  refine ⟨0, gcSt none (sl_skylightref25_Power_0_1 c en pw j x2 x3 x4 x7 x8 x9 x10 x11 x12 x13 x14 x15 x16 x17 x18 x19 x20 x21 x22 x23 x24 x25 x26 x27 x28 x29 x30 h), fun L => ?_, Leaves.stop (s1 := sl_skylightref25_Power_0_1 c en pw j x2 x3 x4 x7 x8 x9 x10 x11 x12 x13 x14 x15 x16 x17 x18 x19 x20 x21 x22 x23 x24 x25 x26 x27 x28 x29 x30 h) (hh h) rfl (ho x2 x3 x4 x7 x8 x9 x10 x11 x12 x13 x14 x15 x16 x17 x18 x19 x20 x21 x22 x23 x24 x25 x26 x27 x28 x29 x30 h) ((show _ = kl_skylightref25_Power_0 c en pw j x2 x3 x4 x7 x8 x9 x10 x11 x12 x13 x14 x15 x16 x17 x18 x19 x20 x21 x22 x23 x24 x25 x26 x27 x28 x29 x30 h from rfl).trans (show kl_skylightref25_Power_0 c en pw j x2 x3 x4 x7 x8 x9 x10 x11 x12 x13 x14 x15 x16 x17 x18 x19 x20 x21 x22 x23 x24 x25 x26 x27 x28 x29 x30 h = _ from rfl))⟩
  rw [loopIterG, hr L c en pw j x2 x3 x4 x7 x8 x9 x10 x11 x12 x13 x14 x15 x16 x17 x18 x19 x20 x21 x22 x23 x24 x25 x26 x27 x28 x29 x30 h, Tr.run_bind, show (rd_skylightref25_Power_0 c en pw j x2 x3 x4 x7 x8 x9 x10 x11 x12 x13 x14 x15 x16 x17 x18 x19 x20 x21 x22 x23 x24 x25 x26 x27 x28 x29 x30 h).run = some (.exit 0, sl_skylightref25_Power_0_1 c en pw j x2 x3 x4 x7 x8 x9 x10 x11 x12 x13 x14 x15 x16 x17 x18 x19 x20 x21 x22 x23 x24 x25 x26 x27 x28 x29 x30 h) from (run_f c0).trans (rfl)]
  rfl
theorem core_skylightref25_Power_0 (rnd : Nat → St → Tr (Ex × St)) (hr : HR_skylightref25_Power_0 rnd) : ∀ (c : Int) (en : Int) (pw : Int) (j : Int), (0 ≤ c ∧ c ≤ 16384) ∧ (0 ≤ pw ∧ pw ≤ 16384) ∧ 0 ≤ j ∧ j ≤ en ∧ en ≤ 64 → Fin_skylightref25_Power_0 rnd c en pw j (.exit 0) [(5, i6 (pwGo (en - j).toNat c pw))] (fun h => h) := by
  have key : ∀ (m : Nat) (c en pw j : Int), (en - j).toNat = m → (0 ≤ c ∧ c ≤ 16384) ∧ (0 ≤ pw ∧ pw ≤ 16384) ∧ 0 ≤ j ∧ j ≤ en ∧ en ≤ 64 → Fin_skylightref25_Power_0 rnd c en pw j (.exit 0) [(5, i6 (pwGo (en - j).toNat c pw))] (fun h => h) := by
    intro m
    induction m with
    | zero =>
      intro c en pw j hm ⟨h1, h2, h3, h4, h5⟩
      refine stop_skylightref25_Power_0_1 hr c en pw j (decide_eq_false (by omega)) ?_ (fun h => rfl)
      intros
      rw [hm]; rfl
    | succ m ih =>
      intro c en pw j hm ⟨h1, h2, h3, h4, h5⟩
      have st := pw_step h1 h2
      refine step_skylightref25_Power_0_0 hr c en pw j (decide_eq_true (by omega)) ?_
      have t1 : (1 : Int) ≤ 16384 := by decide
      rw [if_pos t1, wrap_i64_id (n := pw * c) (by omega), wrap_i64_id (n := j + 1) (by omega)]
      have := ih c en (pw * c / 16384) (j + 1) (by omega) ⟨h1, by omega, by omega, by omega, h5⟩
      rw [show (en - (j + 1)).toNat = m by omega] at this
      rw [hm]
      exact this
  exact fun c en pw j hc => key _ c en pw j rfl hc
theorem piece_skylightref25_Power_0 {P : Program} {T : Table} {O' : Known} {f : FuncId} (hb : blockOf P f 0 = .loop (loopOf P f 0)) (hid : O' 0 = none)
    (hr : HR_skylightref25_Power_0 (fun L => evCode P (evCall P T 16 4) L O' (loopOf P f 0))) :
    ∀ (s : St) (e : Ex) (outs : List (Nat × AV)) (hp : AH), s.tmps.length = 31 → (g_skylightref25_Power_0 (([0, 1, 5, 6] : List Nat).map fun j => untag (s.tmps.getD j .undef)) (s.heap.map untagL)).run = some (e, outs, hp) → ∃ s', Good P T O' f 0 31 [5, 6, 21, 22, 23, 24, 25, 26, 27, 28, 29] s e outs hp s' := by
  intro s e outs hp hk hg
  obtain ⟨tm, h⟩ := s
  have htm : untagL tm = [untag (tm.getD 0 .undef), untag (tm.getD 1 .undef), untag (tm.getD 2 .undef), untag (tm.getD 3 .undef), untag (tm.getD 4 .undef), untag (tm.getD 5 .undef), untag (tm.getD 6 .undef), untag (tm.getD 7 .undef), untag (tm.getD 8 .undef), untag (tm.getD 9 .undef), untag (tm.getD 10 .undef), untag (tm.getD 11 .undef), untag (tm.getD 12 .undef), untag (tm.getD 13 .undef), untag (tm.getD 14 .undef), untag (tm.getD 15 .undef), untag (tm.getD 16 .undef), untag (tm.getD 17 .undef), untag (tm.getD 18 .undef), untag (tm.getD 19 .undef), untag (tm.getD 20 .undef), untag (tm.getD 21 .undef), untag (tm.getD 22 .undef), untag (tm.getD 23 .undef), untag (tm.getD 24 .undef), untag (tm.getD 25 .undef), untag (tm.getD 26 .undef), untag (tm.getD 27 .undef), untag (tm.getD 28 .undef), untag (tm.getD 29 .undef), untag (tm.getD 30 .undef)] := tmps_eq hk
  unfold g_skylightref25_Power_0 at hg
  simp only [List.map_cons, List.map_nil] at hg
  split at hg
  · rename_i c en pw j heq
    simp only [List.cons.injEq, and_true] at heq
    obtain ⟨e0, e1, e5, e6⟩ := heq
    simp only [Tr.run] at hg
    split at hg
    · rename_i hc
      simp only [Option.some.injEq, Prod.mk.injEq] at hg
      obtain ⟨rfl, rfl, rfl⟩ := hg
      rw [e0, e1, e5, e6] at htm
      obtain ⟨N, s', h1, h2⟩ := core_skylightref25_Power_0 (fun L => evCode P (evCall P T 16 4) L O' (loopOf P f 0)) hr c en pw j (of_decide_eq_true hc) (untag (tm.getD 2 .undef)) (untag (tm.getD 3 .undef)) (untag (tm.getD 4 .undef)) (untag (tm.getD 7 .undef)) (untag (tm.getD 8 .undef)) (untag (tm.getD 9 .undef)) (untag (tm.getD 10 .undef)) (untag (tm.getD 11 .undef)) (untag (tm.getD 12 .undef)) (untag (tm.getD 13 .undef)) (untag (tm.getD 14 .undef)) (untag (tm.getD 15 .undef)) (untag (tm.getD 16 .undef)) (untag (tm.getD 17 .undef)) (untag (tm.getD 18 .undef)) (untag (tm.getD 19 .undef)) (untag (tm.getD 20 .undef)) (untag (tm.getD 21 .undef)) (untag (tm.getD 22 .undef)) (untag (tm.getD 23 .undef)) (untag (tm.getD 24 .undef)) (untag (tm.getD 25 .undef)) (untag (tm.getD 26 .undef)) (untag (tm.getD 27 .undef)) (untag (tm.getD 28 .undef)) (untag (tm.getD 29 .undef)) (untag (tm.getD 30 .undef)) (h.map untagL)
      exact ⟨s', good_loop (g := none) (e1 := .exit 0) hb (fun k e => by cases e) 16 4 N (by rw [htm]; exact h1) (by rw [htm]; exact h2)⟩
    · cases hg
  · cases hg

/-! skylightref25.Power -/
def tr_skylightref25_Power (c : Int) (e : Int) : Tr AV := Tr.node (decide (c < 0)) (Tr.leaf (AV.int IntKind.i64 false 0)) (Tr.node (decide (c > 16384)) (Tr.leaf (AV.int IntKind.i64 false 0)) (Tr.node (decide (e < 0)) (Tr.leaf (AV.int IntKind.i64 false 0)) (Tr.node (decide (e > 64)) (Tr.leaf (AV.int IntKind.i64 false 0)) (Tr.node (decide ((0 ≤ c ∧ c ≤ 16384) ∧ ((0 : Int) ≤ 16384 ∧ (16384 : Int) ≤ 16384) ∧ (0 : Int) ≤ 0 ∧ 0 ≤ e ∧ e ≤ 64)) (Tr.leaf (AV.int IntKind.i64 false (pwGo (e - 0).toNat c 16384))) Tr.bad))))
theorem run_skylightref25_Power (c : Int) (e : Int) (h_c : InR .i64 c) (h_e : InR .i64 e) : (tr_skylightref25_Power c e).run = some (i6 (powN c e)) := by
  unfold tr_skylightref25_Power
  by_cases h : (0 ≤ c ∧ c ≤ 16384) ∧ (0 ≤ e ∧ e ≤ 64)
  · rw [powN_eq h.1 h.2]
    (repeat (first | refine (run_t (by first | rfl | (simp only [decide_eq_true_eq]; omega))).trans ?_ | refine (run_f (by first | rfl | (simp only [decide_eq_false_iff_not]; omega))).trans ?_))
    rw [show (e - 0).toNat = e.toNat by omega]; rfl
  · have e0 : powN c e = 0 := by unfold powN; rw [if_neg h]
    rw [e0]
    (repeat' (first | rfl | (refine run_guard (fun _ => ?_) (fun _ => ?_)))) <;> (exfalso; simp only [decide_eq_true_eq, decide_eq_false_iff_not] at *; omega)

/-! matter.Right -/
def tr_matter_Right (m_k : Int) (m_c_r : Int) (m_c_g : Int) (m_c_b : Int) (m_x : Int) : Tr AV := Tr.node (!colB m_c_r m_c_g m_c_b) (Tr.leaf (AV.bool false false)) (Tr.node (m_k == 1) (Tr.node (m_x == 0) (Tr.leaf (AV.bool false true)) (Tr.node (m_k == 2) (Tr.node (m_x == 0) (Tr.leaf (AV.bool false true)) (Tr.node (m_k == 3) (Tr.node (decide (m_x ≥ 16384)) (Tr.node (decide (m_x ≤ 65536)) (Tr.leaf (AV.bool false true)) (Tr.node (m_k == 4) (Tr.node (decide (m_x ≥ 1)) (Tr.node (decide (m_x ≤ 64)) (Tr.leaf (AV.bool false true)) (Tr.leaf (AV.bool false false))) (Tr.leaf (AV.bool false false))) (Tr.leaf (AV.bool false false)))) (Tr.node (m_k == 4) (Tr.node (decide (m_x ≥ 1)) (Tr.node (decide (m_x ≤ 64)) (Tr.leaf (AV.bool false true)) (Tr.leaf (AV.bool false false))) (Tr.leaf (AV.bool false false))) (Tr.leaf (AV.bool false false)))) (Tr.node (m_k == 4) (Tr.node (decide (m_x ≥ 1)) (Tr.node (decide (m_x ≤ 64)) (Tr.leaf (AV.bool false true)) (Tr.leaf (AV.bool false false))) (Tr.leaf (AV.bool false false))) (Tr.leaf (AV.bool false false))))) (Tr.node (m_k == 3) (Tr.node (decide (m_x ≥ 16384)) (Tr.node (decide (m_x ≤ 65536)) (Tr.leaf (AV.bool false true)) (Tr.node (m_k == 4) (Tr.node (decide (m_x ≥ 1)) (Tr.node (decide (m_x ≤ 64)) (Tr.leaf (AV.bool false true)) (Tr.leaf (AV.bool false false))) (Tr.leaf (AV.bool false false))) (Tr.leaf (AV.bool false false)))) (Tr.node (m_k == 4) (Tr.node (decide (m_x ≥ 1)) (Tr.node (decide (m_x ≤ 64)) (Tr.leaf (AV.bool false true)) (Tr.leaf (AV.bool false false))) (Tr.leaf (AV.bool false false))) (Tr.leaf (AV.bool false false)))) (Tr.node (m_k == 4) (Tr.node (decide (m_x ≥ 1)) (Tr.node (decide (m_x ≤ 64)) (Tr.leaf (AV.bool false true)) (Tr.leaf (AV.bool false false))) (Tr.leaf (AV.bool false false))) (Tr.leaf (AV.bool false false)))))) (Tr.node (m_k == 2) (Tr.node (m_x == 0) (Tr.leaf (AV.bool false true)) (Tr.node (m_k == 3) (Tr.node (decide (m_x ≥ 16384)) (Tr.node (decide (m_x ≤ 65536)) (Tr.leaf (AV.bool false true)) (Tr.node (m_k == 4) (Tr.node (decide (m_x ≥ 1)) (Tr.node (decide (m_x ≤ 64)) (Tr.leaf (AV.bool false true)) (Tr.leaf (AV.bool false false))) (Tr.leaf (AV.bool false false))) (Tr.leaf (AV.bool false false)))) (Tr.node (m_k == 4) (Tr.node (decide (m_x ≥ 1)) (Tr.node (decide (m_x ≤ 64)) (Tr.leaf (AV.bool false true)) (Tr.leaf (AV.bool false false))) (Tr.leaf (AV.bool false false))) (Tr.leaf (AV.bool false false)))) (Tr.node (m_k == 4) (Tr.node (decide (m_x ≥ 1)) (Tr.node (decide (m_x ≤ 64)) (Tr.leaf (AV.bool false true)) (Tr.leaf (AV.bool false false))) (Tr.leaf (AV.bool false false))) (Tr.leaf (AV.bool false false))))) (Tr.node (m_k == 3) (Tr.node (decide (m_x ≥ 16384)) (Tr.node (decide (m_x ≤ 65536)) (Tr.leaf (AV.bool false true)) (Tr.node (m_k == 4) (Tr.node (decide (m_x ≥ 1)) (Tr.node (decide (m_x ≤ 64)) (Tr.leaf (AV.bool false true)) (Tr.leaf (AV.bool false false))) (Tr.leaf (AV.bool false false))) (Tr.leaf (AV.bool false false)))) (Tr.node (m_k == 4) (Tr.node (decide (m_x ≥ 1)) (Tr.node (decide (m_x ≤ 64)) (Tr.leaf (AV.bool false true)) (Tr.leaf (AV.bool false false))) (Tr.leaf (AV.bool false false))) (Tr.leaf (AV.bool false false)))) (Tr.node (m_k == 4) (Tr.node (decide (m_x ≥ 1)) (Tr.node (decide (m_x ≤ 64)) (Tr.leaf (AV.bool false true)) (Tr.leaf (AV.bool false false))) (Tr.leaf (AV.bool false false))) (Tr.leaf (AV.bool false false))))))
theorem run_matter_Right (m_k : Int) (m_c_r : Int) (m_c_g : Int) (m_c_b : Int) (m_x : Int) (h_m_k : InR .i64 m_k) (h_m_c_r : InR .i64 m_c_r) (h_m_c_g : InR .i64 m_c_g) (h_m_c_b : InR .i64 m_c_b) (h_m_x : InR .i64 m_x) : (tr_matter_Right m_k m_c_r m_c_g m_c_b m_x).run = some (bb (matB m_k m_c_r m_c_g m_c_b m_x)) := by
  unfold tr_matter_Right
  cases hm : matB m_k m_c_r m_c_g m_c_b m_x
  · cases hc : colB m_c_r m_c_g m_c_b
    · rfl
    have no := mat_no hm hc
    (repeat' (first | exact (rfl : (Tr.leaf (AV.bool false false)).run = some (bb false)) | (exfalso; simp only [beq_iff_eq, beq_eq_false_iff_ne, ne_eq, decide_eq_true_eq, decide_eq_false_iff_not, Bool.not_true, Bool.not_false, Bool.true_eq_false, Bool.false_eq_true] at *; omega) | (refine run_guard (fun _ => ?_) (fun _ => ?_))))
    all_goals (simp only [Tr.run, bb, Option.some.injEq, AV.bool.injEq, true_and, beq_eq_false_iff_ne, ne_eq, beq_iff_eq, decide_eq_false_iff_not, decide_eq_true_eq] at *; omega)
  · obtain ⟨hc, h⟩ := mat_cases hm
    rw [hc]
    refine (run_f rfl).trans ?_
    rcases h with ⟨rfl, rfl⟩ | ⟨rfl, rfl⟩ | ⟨rfl, h1, h2⟩ | ⟨rfl, h1, h2⟩
    all_goals (repeat (first | refine (run_t (by first | rfl | exact decide_eq_true (by omega))).trans ?_ | refine (run_f (by first | rfl | exact decide_eq_false (by omega))).trans ?_))
    all_goals first | rfl | (show some (AV.bool false (decide _)) = _; rw [decide_eq_true (by omega)]; rfl)

/-! skylightref25.Right -/
def tr_skylightref25_Right (m_k : Int) (m_c_r : Int) (m_c_g : Int) (m_c_b : Int) (m_x : Int) : Tr AV := Tr.node (!colB m_c_r m_c_g m_c_b) (Tr.leaf (AV.bool false false)) (Tr.node (m_k == 3) (Tr.node (decide (m_x ≥ 16384)) (Tr.leaf (AV.bool false (decide (m_x ≤ 65536)))) (Tr.leaf (AV.bool false false))) (Tr.node (m_k == 4) (Tr.node (decide (m_x ≥ 1)) (Tr.leaf (AV.bool false (decide (m_x ≤ 64)))) (Tr.leaf (AV.bool false false))) (Tr.node (m_k == 1) (Tr.leaf (AV.bool false (m_x == 0))) (Tr.node (m_k == 2) (Tr.leaf (AV.bool false (m_x == 0))) (Tr.leaf (AV.bool false false))))))
theorem run_skylightref25_Right (m_k : Int) (m_c_r : Int) (m_c_g : Int) (m_c_b : Int) (m_x : Int) (h_m_k : InR .i64 m_k) (h_m_c_r : InR .i64 m_c_r) (h_m_c_g : InR .i64 m_c_g) (h_m_c_b : InR .i64 m_c_b) (h_m_x : InR .i64 m_x) : (tr_skylightref25_Right m_k m_c_r m_c_g m_c_b m_x).run = some (bb (matB m_k m_c_r m_c_g m_c_b m_x)) := by
  unfold tr_skylightref25_Right
  cases hm : matB m_k m_c_r m_c_g m_c_b m_x
  · cases hc : colB m_c_r m_c_g m_c_b
    · rfl
    have no := mat_no hm hc
    (repeat' (first | exact (rfl : (Tr.leaf (AV.bool false false)).run = some (bb false)) | (exfalso; simp only [beq_iff_eq, beq_eq_false_iff_ne, ne_eq, decide_eq_true_eq, decide_eq_false_iff_not, Bool.not_true, Bool.not_false, Bool.true_eq_false, Bool.false_eq_true] at *; omega) | (refine run_guard (fun _ => ?_) (fun _ => ?_))))
    all_goals (simp only [Tr.run, bb, Option.some.injEq, AV.bool.injEq, true_and, beq_eq_false_iff_ne, ne_eq, beq_iff_eq, decide_eq_false_iff_not, decide_eq_true_eq] at *; omega)
  · obtain ⟨hc, h⟩ := mat_cases hm
    rw [hc]
    refine (run_f rfl).trans ?_
    rcases h with ⟨rfl, rfl⟩ | ⟨rfl, rfl⟩ | ⟨rfl, h1, h2⟩ | ⟨rfl, h1, h2⟩
    all_goals (repeat (first | refine (run_t (by first | rfl | exact decide_eq_true (by omega))).trans ?_ | refine (run_f (by first | rfl | exact decide_eq_false (by omega))).trans ?_))
    all_goals first | rfl | (show some (AV.bool false (decide _)) = _; rw [decide_eq_true (by omega)]; rfl)

/-! matter.Value -/
def tr_matter_Value (m_k : Int) (m_c_r : Int) (m_c_g : Int) (m_c_b : Int) (m_x : Int) (n_x : Int) (n_y : Int) (n_z : Int) (i_x : Int) (i_y : Int) (i_z : Int) (o_x : Int) (o_y : Int) (o_z : Int) : Tr AV := Tr.node (!colB m_c_r m_c_g m_c_b) (Tr.leaf (AV.agg [i6 0, i6 0, i6 0])) (Tr.node (m_k == 1) (Tr.node (m_x == 0) (Tr.node (decide (mm true (mm true n_x n_y) n_z > 16385)) (Tr.leaf (AV.agg [i6 0, i6 0, i6 0])) (Tr.node (decide (mm false (mm false n_x n_y) n_z < -16385)) (Tr.leaf (AV.agg [i6 0, i6 0, i6 0])) (Tr.node (decide (mm true (mm true i_x i_y) i_z > 16385)) (Tr.leaf (AV.agg [i6 0, i6 0, i6 0])) (Tr.node (decide (mm false (mm false i_x i_y) i_z < -16385)) (Tr.leaf (AV.agg [i6 0, i6 0, i6 0])) (Tr.node (decide (mm true (mm true o_x o_y) o_z > 16385)) (Tr.leaf (AV.agg [i6 0, i6 0, i6 0])) (Tr.node (decide (mm false (mm false o_x o_y) o_z < -16385)) (Tr.leaf (AV.agg [i6 0, i6 0, i6 0])) (Tr.leaf (AV.agg [i6 (partC m_c_r m_c_r m_c_g m_c_b (hold (dv (dotN (facC n_x n_x n_y n_z i_x i_y i_z) (facC n_y n_x n_y n_z i_x i_y i_z) (facC n_z n_x n_y n_z i_x i_y i_z) o_x o_y o_z) 16384) 0 16384) 16384), i6 (partC m_c_g m_c_r m_c_g m_c_b (hold (dv (dotN (facC n_x n_x n_y n_z i_x i_y i_z) (facC n_y n_x n_y n_z i_x i_y i_z) (facC n_z n_x n_y n_z i_x i_y i_z) o_x o_y o_z) 16384) 0 16384) 16384), i6 (partC m_c_b m_c_r m_c_g m_c_b (hold (dv (dotN (facC n_x n_x n_y n_z i_x i_y i_z) (facC n_y n_x n_y n_z i_x i_y i_z) (facC n_z n_x n_y n_z i_x i_y i_z) o_x o_y o_z) 16384) 0 16384) 16384)])))))))) (Tr.node (m_k == 2) (Tr.node (m_x == 0) (Tr.node (decide (mm true (mm true n_x n_y) n_z > 16385)) (Tr.leaf (AV.agg [i6 0, i6 0, i6 0])) (Tr.node (decide (mm false (mm false n_x n_y) n_z < -16385)) (Tr.leaf (AV.agg [i6 0, i6 0, i6 0])) (Tr.node (decide (mm true (mm true i_x i_y) i_z > 16385)) (Tr.leaf (AV.agg [i6 0, i6 0, i6 0])) (Tr.node (decide (mm false (mm false i_x i_y) i_z < -16385)) (Tr.leaf (AV.agg [i6 0, i6 0, i6 0])) (Tr.node (decide (mm true (mm true o_x o_y) o_z > 16385)) (Tr.leaf (AV.agg [i6 0, i6 0, i6 0])) (Tr.node (decide (mm false (mm false o_x o_y) o_z < -16385)) (Tr.leaf (AV.agg [i6 0, i6 0, i6 0])) (Tr.leaf (AV.agg [i6 (partC m_c_r m_c_r m_c_g m_c_b 0 16384), i6 (partC m_c_g m_c_r m_c_g m_c_b 0 16384), i6 (partC m_c_b m_c_r m_c_g m_c_b 0 16384)])))))))) (Tr.node (m_k == 3) (Tr.node (decide (m_x ≥ 16384)) (Tr.node (decide (m_x ≤ 65536)) (Tr.node (decide (mm true (mm true n_x n_y) n_z > 16385)) (Tr.leaf (AV.agg [i6 0, i6 0, i6 0])) (Tr.node (decide (mm false (mm false n_x n_y) n_z < -16385)) (Tr.leaf (AV.agg [i6 0, i6 0, i6 0])) (Tr.node (decide (mm true (mm true i_x i_y) i_z > 16385)) (Tr.leaf (AV.agg [i6 0, i6 0, i6 0])) (Tr.node (decide (mm false (mm false i_x i_y) i_z < -16385)) (Tr.leaf (AV.agg [i6 0, i6 0, i6 0])) (Tr.node (decide (mm true (mm true o_x o_y) o_z > 16385)) (Tr.leaf (AV.agg [i6 0, i6 0, i6 0])) (Tr.node (decide (mm false (mm false o_x o_y) o_z < -16385)) (Tr.leaf (AV.agg [i6 0, i6 0, i6 0])) (Tr.leaf (AV.agg [i6 (partC m_c_r m_c_r m_c_g m_c_b 0 16384), i6 (partC m_c_g m_c_r m_c_g m_c_b 0 16384), i6 (partC m_c_b m_c_r m_c_g m_c_b 0 16384)])))))))) (Tr.node (m_k == 4) (Tr.node (decide (m_x ≥ 1)) (Tr.node (decide (m_x ≤ 64)) (Tr.node (decide (mm true (mm true n_x n_y) n_z > 16385)) (Tr.leaf (AV.agg [i6 0, i6 0, i6 0])) (Tr.node (decide (mm false (mm false n_x n_y) n_z < -16385)) (Tr.leaf (AV.agg [i6 0, i6 0, i6 0])) (Tr.node (decide (mm true (mm true i_x i_y) i_z > 16385)) (Tr.leaf (AV.agg [i6 0, i6 0, i6 0])) (Tr.node (decide (mm false (mm false i_x i_y) i_z < -16385)) (Tr.leaf (AV.agg [i6 0, i6 0, i6 0])) (Tr.node (decide (mm true (mm true o_x o_y) o_z > 16385)) (Tr.leaf (AV.agg [i6 0, i6 0, i6 0])) (Tr.node (decide (mm false (mm false o_x o_y) o_z < -16385)) (Tr.leaf (AV.agg [i6 0, i6 0, i6 0])) (Tr.node (hold (dv (dotN (facC n_x n_x n_y n_z i_x i_y i_z) (facC n_y n_x n_y n_z i_x i_y i_z) (facC n_z n_x n_y n_z i_x i_y i_z) o_x o_y o_z) 16384) 0 16384 == 0) (Tr.leaf (AV.agg [i6 (partC m_c_r m_c_r m_c_g m_c_b 0 16384), i6 (partC m_c_g m_c_r m_c_g m_c_b 0 16384), i6 (partC m_c_b m_c_r m_c_g m_c_b 0 16384)])) (Tr.leaf (AV.agg [i6 (partC m_c_r m_c_r m_c_g m_c_b (powN (hold (dv (dotN (mir3 ⟨i_x, i_y, i_z⟩ (fac3 ⟨n_x, n_y, n_z⟩ ⟨i_x, i_y, i_z⟩)).x (mir3 ⟨i_x, i_y, i_z⟩ (fac3 ⟨n_x, n_y, n_z⟩ ⟨i_x, i_y, i_z⟩)).y (mir3 ⟨i_x, i_y, i_z⟩ (fac3 ⟨n_x, n_y, n_z⟩ ⟨i_x, i_y, i_z⟩)).z o_x o_y o_z) 16384) 0 16384) m_x) 16384), i6 (partC m_c_g m_c_r m_c_g m_c_b (powN (hold (dv (dotN (mir3 ⟨i_x, i_y, i_z⟩ (fac3 ⟨n_x, n_y, n_z⟩ ⟨i_x, i_y, i_z⟩)).x (mir3 ⟨i_x, i_y, i_z⟩ (fac3 ⟨n_x, n_y, n_z⟩ ⟨i_x, i_y, i_z⟩)).y (mir3 ⟨i_x, i_y, i_z⟩ (fac3 ⟨n_x, n_y, n_z⟩ ⟨i_x, i_y, i_z⟩)).z o_x o_y o_z) 16384) 0 16384) m_x) 16384), i6 (partC m_c_b m_c_r m_c_g m_c_b (powN (hold (dv (dotN (mir3 ⟨i_x, i_y, i_z⟩ (fac3 ⟨n_x, n_y, n_z⟩ ⟨i_x, i_y, i_z⟩)).x (mir3 ⟨i_x, i_y, i_z⟩ (fac3 ⟨n_x, n_y, n_z⟩ ⟨i_x, i_y, i_z⟩)).y (mir3 ⟨i_x, i_y, i_z⟩ (fac3 ⟨n_x, n_y, n_z⟩ ⟨i_x, i_y, i_z⟩)).z o_x o_y o_z) 16384) 0 16384) m_x) 16384)]))))))))) (Tr.leaf (AV.agg [i6 0, i6 0, i6 0]))) (Tr.leaf (AV.agg [i6 0, i6 0, i6 0]))) (Tr.leaf (AV.agg [i6 0, i6 0, i6 0])))) (Tr.node (m_k == 4) (Tr.node (decide (m_x ≥ 1)) (Tr.node (decide (m_x ≤ 64)) (Tr.node (decide (mm true (mm true n_x n_y) n_z > 16385)) (Tr.leaf (AV.agg [i6 0, i6 0, i6 0])) (Tr.node (decide (mm false (mm false n_x n_y) n_z < -16385)) (Tr.leaf (AV.agg [i6 0, i6 0, i6 0])) (Tr.node (decide (mm true (mm true i_x i_y) i_z > 16385)) (Tr.leaf (AV.agg [i6 0, i6 0, i6 0])) (Tr.node (decide (mm false (mm false i_x i_y) i_z < -16385)) (Tr.leaf (AV.agg [i6 0, i6 0, i6 0])) (Tr.node (decide (mm true (mm true o_x o_y) o_z > 16385)) (Tr.leaf (AV.agg [i6 0, i6 0, i6 0])) (Tr.node (decide (mm false (mm false o_x o_y) o_z < -16385)) (Tr.leaf (AV.agg [i6 0, i6 0, i6 0])) (Tr.node (hold (dv (dotN (facC n_x n_x n_y n_z i_x i_y i_z) (facC n_y n_x n_y n_z i_x i_y i_z) (facC n_z n_x n_y n_z i_x i_y i_z) o_x o_y o_z) 16384) 0 16384 == 0) (Tr.leaf (AV.agg [i6 (partC m_c_r m_c_r m_c_g m_c_b 0 16384), i6 (partC m_c_g m_c_r m_c_g m_c_b 0 16384), i6 (partC m_c_b m_c_r m_c_g m_c_b 0 16384)])) (Tr.leaf (AV.agg [i6 (partC m_c_r m_c_r m_c_g m_c_b (powN (hold (dv (dotN (mir3 ⟨i_x, i_y, i_z⟩ (fac3 ⟨n_x, n_y, n_z⟩ ⟨i_x, i_y, i_z⟩)).x (mir3 ⟨i_x, i_y, i_z⟩ (fac3 ⟨n_x, n_y, n_z⟩ ⟨i_x, i_y, i_z⟩)).y (mir3 ⟨i_x, i_y, i_z⟩ (fac3 ⟨n_x, n_y, n_z⟩ ⟨i_x, i_y, i_z⟩)).z o_x o_y o_z) 16384) 0 16384) m_x) 16384), i6 (partC m_c_g m_c_r m_c_g m_c_b (powN (hold (dv (dotN (mir3 ⟨i_x, i_y, i_z⟩ (fac3 ⟨n_x, n_y, n_z⟩ ⟨i_x, i_y, i_z⟩)).x (mir3 ⟨i_x, i_y, i_z⟩ (fac3 ⟨n_x, n_y, n_z⟩ ⟨i_x, i_y, i_z⟩)).y (mir3 ⟨i_x, i_y, i_z⟩ (fac3 ⟨n_x, n_y, n_z⟩ ⟨i_x, i_y, i_z⟩)).z o_x o_y o_z) 16384) 0 16384) m_x) 16384), i6 (partC m_c_b m_c_r m_c_g m_c_b (powN (hold (dv (dotN (mir3 ⟨i_x, i_y, i_z⟩ (fac3 ⟨n_x, n_y, n_z⟩ ⟨i_x, i_y, i_z⟩)).x (mir3 ⟨i_x, i_y, i_z⟩ (fac3 ⟨n_x, n_y, n_z⟩ ⟨i_x, i_y, i_z⟩)).y (mir3 ⟨i_x, i_y, i_z⟩ (fac3 ⟨n_x, n_y, n_z⟩ ⟨i_x, i_y, i_z⟩)).z o_x o_y o_z) 16384) 0 16384) m_x) 16384)]))))))))) (Tr.leaf (AV.agg [i6 0, i6 0, i6 0]))) (Tr.leaf (AV.agg [i6 0, i6 0, i6 0]))) (Tr.leaf (AV.agg [i6 0, i6 0, i6 0])))) (Tr.node (m_k == 4) (Tr.node (decide (m_x ≥ 1)) (Tr.node (decide (m_x ≤ 64)) (Tr.node (decide (mm true (mm true n_x n_y) n_z > 16385)) (Tr.leaf (AV.agg [i6 0, i6 0, i6 0])) (Tr.node (decide (mm false (mm false n_x n_y) n_z < -16385)) (Tr.leaf (AV.agg [i6 0, i6 0, i6 0])) (Tr.node (decide (mm true (mm true i_x i_y) i_z > 16385)) (Tr.leaf (AV.agg [i6 0, i6 0, i6 0])) (Tr.node (decide (mm false (mm false i_x i_y) i_z < -16385)) (Tr.leaf (AV.agg [i6 0, i6 0, i6 0])) (Tr.node (decide (mm true (mm true o_x o_y) o_z > 16385)) (Tr.leaf (AV.agg [i6 0, i6 0, i6 0])) (Tr.node (decide (mm false (mm false o_x o_y) o_z < -16385)) (Tr.leaf (AV.agg [i6 0, i6 0, i6 0])) (Tr.node (hold (dv (dotN (facC n_x n_x n_y n_z i_x i_y i_z) (facC n_y n_x n_y n_z i_x i_y i_z) (facC n_z n_x n_y n_z i_x i_y i_z) o_x o_y o_z) 16384) 0 16384 == 0) (Tr.leaf (AV.agg [i6 (partC m_c_r m_c_r m_c_g m_c_b 0 16384), i6 (partC m_c_g m_c_r m_c_g m_c_b 0 16384), i6 (partC m_c_b m_c_r m_c_g m_c_b 0 16384)])) (Tr.leaf (AV.agg [i6 (partC m_c_r m_c_r m_c_g m_c_b (powN (hold (dv (dotN (mir3 ⟨i_x, i_y, i_z⟩ (fac3 ⟨n_x, n_y, n_z⟩ ⟨i_x, i_y, i_z⟩)).x (mir3 ⟨i_x, i_y, i_z⟩ (fac3 ⟨n_x, n_y, n_z⟩ ⟨i_x, i_y, i_z⟩)).y (mir3 ⟨i_x, i_y, i_z⟩ (fac3 ⟨n_x, n_y, n_z⟩ ⟨i_x, i_y, i_z⟩)).z o_x o_y o_z) 16384) 0 16384) m_x) 16384), i6 (partC m_c_g m_c_r m_c_g m_c_b (powN (hold (dv (dotN (mir3 ⟨i_x, i_y, i_z⟩ (fac3 ⟨n_x, n_y, n_z⟩ ⟨i_x, i_y, i_z⟩)).x (mir3 ⟨i_x, i_y, i_z⟩ (fac3 ⟨n_x, n_y, n_z⟩ ⟨i_x, i_y, i_z⟩)).y (mir3 ⟨i_x, i_y, i_z⟩ (fac3 ⟨n_x, n_y, n_z⟩ ⟨i_x, i_y, i_z⟩)).z o_x o_y o_z) 16384) 0 16384) m_x) 16384), i6 (partC m_c_b m_c_r m_c_g m_c_b (powN (hold (dv (dotN (mir3 ⟨i_x, i_y, i_z⟩ (fac3 ⟨n_x, n_y, n_z⟩ ⟨i_x, i_y, i_z⟩)).x (mir3 ⟨i_x, i_y, i_z⟩ (fac3 ⟨n_x, n_y, n_z⟩ ⟨i_x, i_y, i_z⟩)).y (mir3 ⟨i_x, i_y, i_z⟩ (fac3 ⟨n_x, n_y, n_z⟩ ⟨i_x, i_y, i_z⟩)).z o_x o_y o_z) 16384) 0 16384) m_x) 16384)]))))))))) (Tr.leaf (AV.agg [i6 0, i6 0, i6 0]))) (Tr.leaf (AV.agg [i6 0, i6 0, i6 0]))) (Tr.leaf (AV.agg [i6 0, i6 0, i6 0]))))) (Tr.node (m_k == 3) (Tr.node (decide (m_x ≥ 16384)) (Tr.node (decide (m_x ≤ 65536)) (Tr.node (decide (mm true (mm true n_x n_y) n_z > 16385)) (Tr.leaf (AV.agg [i6 0, i6 0, i6 0])) (Tr.node (decide (mm false (mm false n_x n_y) n_z < -16385)) (Tr.leaf (AV.agg [i6 0, i6 0, i6 0])) (Tr.node (decide (mm true (mm true i_x i_y) i_z > 16385)) (Tr.leaf (AV.agg [i6 0, i6 0, i6 0])) (Tr.node (decide (mm false (mm false i_x i_y) i_z < -16385)) (Tr.leaf (AV.agg [i6 0, i6 0, i6 0])) (Tr.node (decide (mm true (mm true o_x o_y) o_z > 16385)) (Tr.leaf (AV.agg [i6 0, i6 0, i6 0])) (Tr.node (decide (mm false (mm false o_x o_y) o_z < -16385)) (Tr.leaf (AV.agg [i6 0, i6 0, i6 0])) (Tr.leaf (AV.agg [i6 (partC m_c_r m_c_r m_c_g m_c_b 0 16384), i6 (partC m_c_g m_c_r m_c_g m_c_b 0 16384), i6 (partC m_c_b m_c_r m_c_g m_c_b 0 16384)])))))))) (Tr.node (m_k == 4) (Tr.node (decide (m_x ≥ 1)) (Tr.node (decide (m_x ≤ 64)) (Tr.node (decide (mm true (mm true n_x n_y) n_z > 16385)) (Tr.leaf (AV.agg [i6 0, i6 0, i6 0])) (Tr.node (decide (mm false (mm false n_x n_y) n_z < -16385)) (Tr.leaf (AV.agg [i6 0, i6 0, i6 0])) (Tr.node (decide (mm true (mm true i_x i_y) i_z > 16385)) (Tr.leaf (AV.agg [i6 0, i6 0, i6 0])) (Tr.node (decide (mm false (mm false i_x i_y) i_z < -16385)) (Tr.leaf (AV.agg [i6 0, i6 0, i6 0])) (Tr.node (decide (mm true (mm true o_x o_y) o_z > 16385)) (Tr.leaf (AV.agg [i6 0, i6 0, i6 0])) (Tr.node (decide (mm false (mm false o_x o_y) o_z < -16385)) (Tr.leaf (AV.agg [i6 0, i6 0, i6 0])) (Tr.node (hold (dv (dotN (facC n_x n_x n_y n_z i_x i_y i_z) (facC n_y n_x n_y n_z i_x i_y i_z) (facC n_z n_x n_y n_z i_x i_y i_z) o_x o_y o_z) 16384) 0 16384 == 0) (Tr.leaf (AV.agg [i6 (partC m_c_r m_c_r m_c_g m_c_b 0 16384), i6 (partC m_c_g m_c_r m_c_g m_c_b 0 16384), i6 (partC m_c_b m_c_r m_c_g m_c_b 0 16384)])) (Tr.leaf (AV.agg [i6 (partC m_c_r m_c_r m_c_g m_c_b (powN (hold (dv (dotN (mir3 ⟨i_x, i_y, i_z⟩ (fac3 ⟨n_x, n_y, n_z⟩ ⟨i_x, i_y, i_z⟩)).x (mir3 ⟨i_x, i_y, i_z⟩ (fac3 ⟨n_x, n_y, n_z⟩ ⟨i_x, i_y, i_z⟩)).y (mir3 ⟨i_x, i_y, i_z⟩ (fac3 ⟨n_x, n_y, n_z⟩ ⟨i_x, i_y, i_z⟩)).z o_x o_y o_z) 16384) 0 16384) m_x) 16384), i6 (partC m_c_g m_c_r m_c_g m_c_b (powN (hold (dv (dotN (mir3 ⟨i_x, i_y, i_z⟩ (fac3 ⟨n_x, n_y, n_z⟩ ⟨i_x, i_y, i_z⟩)).x (mir3 ⟨i_x, i_y, i_z⟩ (fac3 ⟨n_x, n_y, n_z⟩ ⟨i_x, i_y, i_z⟩)).y (mir3 ⟨i_x, i_y, i_z⟩ (fac3 ⟨n_x, n_y, n_z⟩ ⟨i_x, i_y, i_z⟩)).z o_x o_y o_z) 16384) 0 16384) m_x) 16384), i6 (partC m_c_b m_c_r m_c_g m_c_b (powN (hold (dv (dotN (mir3 ⟨i_x, i_y, i_z⟩ (fac3 ⟨n_x, n_y, n_z⟩ ⟨i_x, i_y, i_z⟩)).x (mir3 ⟨i_x, i_y, i_z⟩ (fac3 ⟨n_x, n_y, n_z⟩ ⟨i_x, i_y, i_z⟩)).y (mir3 ⟨i_x, i_y, i_z⟩ (fac3 ⟨n_x, n_y, n_z⟩ ⟨i_x, i_y, i_z⟩)).z o_x o_y o_z) 16384) 0 16384) m_x) 16384)]))))))))) (Tr.leaf (AV.agg [i6 0, i6 0, i6 0]))) (Tr.leaf (AV.agg [i6 0, i6 0, i6 0]))) (Tr.leaf (AV.agg [i6 0, i6 0, i6 0])))) (Tr.node (m_k == 4) (Tr.node (decide (m_x ≥ 1)) (Tr.node (decide (m_x ≤ 64)) (Tr.node (decide (mm true (mm true n_x n_y) n_z > 16385)) (Tr.leaf (AV.agg [i6 0, i6 0, i6 0])) (Tr.node (decide (mm false (mm false n_x n_y) n_z < -16385)) (Tr.leaf (AV.agg [i6 0, i6 0, i6 0])) (Tr.node (decide (mm true (mm true i_x i_y) i_z > 16385)) (Tr.leaf (AV.agg [i6 0, i6 0, i6 0])) (Tr.node (decide (mm false (mm false i_x i_y) i_z < -16385)) (Tr.leaf (AV.agg [i6 0, i6 0, i6 0])) (Tr.node (decide (mm true (mm true o_x o_y) o_z > 16385)) (Tr.leaf (AV.agg [i6 0, i6 0, i6 0])) (Tr.node (decide (mm false (mm false o_x o_y) o_z < -16385)) (Tr.leaf (AV.agg [i6 0, i6 0, i6 0])) (Tr.node (hold (dv (dotN (facC n_x n_x n_y n_z i_x i_y i_z) (facC n_y n_x n_y n_z i_x i_y i_z) (facC n_z n_x n_y n_z i_x i_y i_z) o_x o_y o_z) 16384) 0 16384 == 0) (Tr.leaf (AV.agg [i6 (partC m_c_r m_c_r m_c_g m_c_b 0 16384), i6 (partC m_c_g m_c_r m_c_g m_c_b 0 16384), i6 (partC m_c_b m_c_r m_c_g m_c_b 0 16384)])) (Tr.leaf (AV.agg [i6 (partC m_c_r m_c_r m_c_g m_c_b (powN (hold (dv (dotN (mir3 ⟨i_x, i_y, i_z⟩ (fac3 ⟨n_x, n_y, n_z⟩ ⟨i_x, i_y, i_z⟩)).x (mir3 ⟨i_x, i_y, i_z⟩ (fac3 ⟨n_x, n_y, n_z⟩ ⟨i_x, i_y, i_z⟩)).y (mir3 ⟨i_x, i_y, i_z⟩ (fac3 ⟨n_x, n_y, n_z⟩ ⟨i_x, i_y, i_z⟩)).z o_x o_y o_z) 16384) 0 16384) m_x) 16384), i6 (partC m_c_g m_c_r m_c_g m_c_b (powN (hold (dv (dotN (mir3 ⟨i_x, i_y, i_z⟩ (fac3 ⟨n_x, n_y, n_z⟩ ⟨i_x, i_y, i_z⟩)).x (mir3 ⟨i_x, i_y, i_z⟩ (fac3 ⟨n_x, n_y, n_z⟩ ⟨i_x, i_y, i_z⟩)).y (mir3 ⟨i_x, i_y, i_z⟩ (fac3 ⟨n_x, n_y, n_z⟩ ⟨i_x, i_y, i_z⟩)).z o_x o_y o_z) 16384) 0 16384) m_x) 16384), i6 (partC m_c_b m_c_r m_c_g m_c_b (powN (hold (dv (dotN (mir3 ⟨i_x, i_y, i_z⟩ (fac3 ⟨n_x, n_y, n_z⟩ ⟨i_x, i_y, i_z⟩)).x (mir3 ⟨i_x, i_y, i_z⟩ (fac3 ⟨n_x, n_y, n_z⟩ ⟨i_x, i_y, i_z⟩)).y (mir3 ⟨i_x, i_y, i_z⟩ (fac3 ⟨n_x, n_y, n_z⟩ ⟨i_x, i_y, i_z⟩)).z o_x o_y o_z) 16384) 0 16384) m_x) 16384)]))))))))) (Tr.leaf (AV.agg [i6 0, i6 0, i6 0]))) (Tr.leaf (AV.agg [i6 0, i6 0, i6 0]))) (Tr.leaf (AV.agg [i6 0, i6 0, i6 0])))) (Tr.node (m_k == 4) (Tr.node (decide (m_x ≥ 1)) (Tr.node (decide (m_x ≤ 64)) (Tr.node (decide (mm true (mm true n_x n_y) n_z > 16385)) (Tr.leaf (AV.agg [i6 0, i6 0, i6 0])) (Tr.node (decide (mm false (mm false n_x n_y) n_z < -16385)) (Tr.leaf (AV.agg [i6 0, i6 0, i6 0])) (Tr.node (decide (mm true (mm true i_x i_y) i_z > 16385)) (Tr.leaf (AV.agg [i6 0, i6 0, i6 0])) (Tr.node (decide (mm false (mm false i_x i_y) i_z < -16385)) (Tr.leaf (AV.agg [i6 0, i6 0, i6 0])) (Tr.node (decide (mm true (mm true o_x o_y) o_z > 16385)) (Tr.leaf (AV.agg [i6 0, i6 0, i6 0])) (Tr.node (decide (mm false (mm false o_x o_y) o_z < -16385)) (Tr.leaf (AV.agg [i6 0, i6 0, i6 0])) (Tr.node (hold (dv (dotN (facC n_x n_x n_y n_z i_x i_y i_z) (facC n_y n_x n_y n_z i_x i_y i_z) (facC n_z n_x n_y n_z i_x i_y i_z) o_x o_y o_z) 16384) 0 16384 == 0) (Tr.leaf (AV.agg [i6 (partC m_c_r m_c_r m_c_g m_c_b 0 16384), i6 (partC m_c_g m_c_r m_c_g m_c_b 0 16384), i6 (partC m_c_b m_c_r m_c_g m_c_b 0 16384)])) (Tr.leaf (AV.agg [i6 (partC m_c_r m_c_r m_c_g m_c_b (powN (hold (dv (dotN (mir3 ⟨i_x, i_y, i_z⟩ (fac3 ⟨n_x, n_y, n_z⟩ ⟨i_x, i_y, i_z⟩)).x (mir3 ⟨i_x, i_y, i_z⟩ (fac3 ⟨n_x, n_y, n_z⟩ ⟨i_x, i_y, i_z⟩)).y (mir3 ⟨i_x, i_y, i_z⟩ (fac3 ⟨n_x, n_y, n_z⟩ ⟨i_x, i_y, i_z⟩)).z o_x o_y o_z) 16384) 0 16384) m_x) 16384), i6 (partC m_c_g m_c_r m_c_g m_c_b (powN (hold (dv (dotN (mir3 ⟨i_x, i_y, i_z⟩ (fac3 ⟨n_x, n_y, n_z⟩ ⟨i_x, i_y, i_z⟩)).x (mir3 ⟨i_x, i_y, i_z⟩ (fac3 ⟨n_x, n_y, n_z⟩ ⟨i_x, i_y, i_z⟩)).y (mir3 ⟨i_x, i_y, i_z⟩ (fac3 ⟨n_x, n_y, n_z⟩ ⟨i_x, i_y, i_z⟩)).z o_x o_y o_z) 16384) 0 16384) m_x) 16384), i6 (partC m_c_b m_c_r m_c_g m_c_b (powN (hold (dv (dotN (mir3 ⟨i_x, i_y, i_z⟩ (fac3 ⟨n_x, n_y, n_z⟩ ⟨i_x, i_y, i_z⟩)).x (mir3 ⟨i_x, i_y, i_z⟩ (fac3 ⟨n_x, n_y, n_z⟩ ⟨i_x, i_y, i_z⟩)).y (mir3 ⟨i_x, i_y, i_z⟩ (fac3 ⟨n_x, n_y, n_z⟩ ⟨i_x, i_y, i_z⟩)).z o_x o_y o_z) 16384) 0 16384) m_x) 16384)]))))))))) (Tr.leaf (AV.agg [i6 0, i6 0, i6 0]))) (Tr.leaf (AV.agg [i6 0, i6 0, i6 0]))) (Tr.leaf (AV.agg [i6 0, i6 0, i6 0])))))) (Tr.node (m_k == 2) (Tr.node (m_x == 0) (Tr.node (decide (mm true (mm true n_x n_y) n_z > 16385)) (Tr.leaf (AV.agg [i6 0, i6 0, i6 0])) (Tr.node (decide (mm false (mm false n_x n_y) n_z < -16385)) (Tr.leaf (AV.agg [i6 0, i6 0, i6 0])) (Tr.node (decide (mm true (mm true i_x i_y) i_z > 16385)) (Tr.leaf (AV.agg [i6 0, i6 0, i6 0])) (Tr.node (decide (mm false (mm false i_x i_y) i_z < -16385)) (Tr.leaf (AV.agg [i6 0, i6 0, i6 0])) (Tr.node (decide (mm true (mm true o_x o_y) o_z > 16385)) (Tr.leaf (AV.agg [i6 0, i6 0, i6 0])) (Tr.node (decide (mm false (mm false o_x o_y) o_z < -16385)) (Tr.leaf (AV.agg [i6 0, i6 0, i6 0])) (Tr.leaf (AV.agg [i6 (partC m_c_r m_c_r m_c_g m_c_b 0 16384), i6 (partC m_c_g m_c_r m_c_g m_c_b 0 16384), i6 (partC m_c_b m_c_r m_c_g m_c_b 0 16384)])))))))) (Tr.node (m_k == 3) (Tr.node (decide (m_x ≥ 16384)) (Tr.node (decide (m_x ≤ 65536)) (Tr.node (decide (mm true (mm true n_x n_y) n_z > 16385)) (Tr.leaf (AV.agg [i6 0, i6 0, i6 0])) (Tr.node (decide (mm false (mm false n_x n_y) n_z < -16385)) (Tr.leaf (AV.agg [i6 0, i6 0, i6 0])) (Tr.node (decide (mm true (mm true i_x i_y) i_z > 16385)) (Tr.leaf (AV.agg [i6 0, i6 0, i6 0])) (Tr.node (decide (mm false (mm false i_x i_y) i_z < -16385)) (Tr.leaf (AV.agg [i6 0, i6 0, i6 0])) (Tr.node (decide (mm true (mm true o_x o_y) o_z > 16385)) (Tr.leaf (AV.agg [i6 0, i6 0, i6 0])) (Tr.node (decide (mm false (mm false o_x o_y) o_z < -16385)) (Tr.leaf (AV.agg [i6 0, i6 0, i6 0])) (Tr.leaf (AV.agg [i6 (partC m_c_r m_c_r m_c_g m_c_b 0 16384), i6 (partC m_c_g m_c_r m_c_g m_c_b 0 16384), i6 (partC m_c_b m_c_r m_c_g m_c_b 0 16384)])))))))) (Tr.node (m_k == 4) (Tr.node (decide (m_x ≥ 1)) (Tr.node (decide (m_x ≤ 64)) (Tr.node (decide (mm true (mm true n_x n_y) n_z > 16385)) (Tr.leaf (AV.agg [i6 0, i6 0, i6 0])) (Tr.node (decide (mm false (mm false n_x n_y) n_z < -16385)) (Tr.leaf (AV.agg [i6 0, i6 0, i6 0])) (Tr.node (decide (mm true (mm true i_x i_y) i_z > 16385)) (Tr.leaf (AV.agg [i6 0, i6 0, i6 0])) (Tr.node (decide (mm false (mm false i_x i_y) i_z < -16385)) (Tr.leaf (AV.agg [i6 0, i6 0, i6 0])) (Tr.node (decide (mm true (mm true o_x o_y) o_z > 16385)) (Tr.leaf (AV.agg [i6 0, i6 0, i6 0])) (Tr.node (decide (mm false (mm false o_x o_y) o_z < -16385)) (Tr.leaf (AV.agg [i6 0, i6 0, i6 0])) (Tr.node (hold (dv (dotN (facC n_x n_x n_y n_z i_x i_y i_z) (facC n_y n_x n_y n_z i_x i_y i_z) (facC n_z n_x n_y n_z i_x i_y i_z) o_x o_y o_z) 16384) 0 16384 == 0) (Tr.leaf (AV.agg [i6 (partC m_c_r m_c_r m_c_g m_c_b 0 16384), i6 (partC m_c_g m_c_r m_c_g m_c_b 0 16384), i6 (partC m_c_b m_c_r m_c_g m_c_b 0 16384)])) (Tr.leaf (AV.agg [i6 (partC m_c_r m_c_r m_c_g m_c_b (powN (hold (dv (dotN (mir3 ⟨i_x, i_y, i_z⟩ (fac3 ⟨n_x, n_y, n_z⟩ ⟨i_x, i_y, i_z⟩)).x (mir3 ⟨i_x, i_y, i_z⟩ (fac3 ⟨n_x, n_y, n_z⟩ ⟨i_x, i_y, i_z⟩)).y (mir3 ⟨i_x, i_y, i_z⟩ (fac3 ⟨n_x, n_y, n_z⟩ ⟨i_x, i_y, i_z⟩)).z o_x o_y o_z) 16384) 0 16384) m_x) 16384), i6 (partC m_c_g m_c_r m_c_g m_c_b (powN (hold (dv (dotN (mir3 ⟨i_x, i_y, i_z⟩ (fac3 ⟨n_x, n_y, n_z⟩ ⟨i_x, i_y, i_z⟩)).x (mir3 ⟨i_x, i_y, i_z⟩ (fac3 ⟨n_x, n_y, n_z⟩ ⟨i_x, i_y, i_z⟩)).y (mir3 ⟨i_x, i_y, i_z⟩ (fac3 ⟨n_x, n_y, n_z⟩ ⟨i_x, i_y, i_z⟩)).z o_x o_y o_z) 16384) 0 16384) m_x) 16384), i6 (partC m_c_b m_c_r m_c_g m_c_b (powN (hold (dv (dotN (mir3 ⟨i_x, i_y, i_z⟩ (fac3 ⟨n_x, n_y, n_z⟩ ⟨i_x, i_y, i_z⟩)).x (mir3 ⟨i_x, i_y, i_z⟩ (fac3 ⟨n_x, n_y, n_z⟩ ⟨i_x, i_y, i_z⟩)).y (mir3 ⟨i_x, i_y, i_z⟩ (fac3 ⟨n_x, n_y, n_z⟩ ⟨i_x, i_y, i_z⟩)).z o_x o_y o_z) 16384) 0 16384) m_x) 16384)]))))))))) (Tr.leaf (AV.agg [i6 0, i6 0, i6 0]))) (Tr.leaf (AV.agg [i6 0, i6 0, i6 0]))) (Tr.leaf (AV.agg [i6 0, i6 0, i6 0])))) (Tr.node (m_k == 4) (Tr.node (decide (m_x ≥ 1)) (Tr.node (decide (m_x ≤ 64)) (Tr.node (decide (mm true (mm true n_x n_y) n_z > 16385)) (Tr.leaf (AV.agg [i6 0, i6 0, i6 0])) (Tr.node (decide (mm false (mm false n_x n_y) n_z < -16385)) (Tr.leaf (AV.agg [i6 0, i6 0, i6 0])) (Tr.node (decide (mm true (mm true i_x i_y) i_z > 16385)) (Tr.leaf (AV.agg [i6 0, i6 0, i6 0])) (Tr.node (decide (mm false (mm false i_x i_y) i_z < -16385)) (Tr.leaf (AV.agg [i6 0, i6 0, i6 0])) (Tr.node (decide (mm true (mm true o_x o_y) o_z > 16385)) (Tr.leaf (AV.agg [i6 0, i6 0, i6 0])) (Tr.node (decide (mm false (mm false o_x o_y) o_z < -16385)) (Tr.leaf (AV.agg [i6 0, i6 0, i6 0])) (Tr.node (hold (dv (dotN (facC n_x n_x n_y n_z i_x i_y i_z) (facC n_y n_x n_y n_z i_x i_y i_z) (facC n_z n_x n_y n_z i_x i_y i_z) o_x o_y o_z) 16384) 0 16384 == 0) (Tr.leaf (AV.agg [i6 (partC m_c_r m_c_r m_c_g m_c_b 0 16384), i6 (partC m_c_g m_c_r m_c_g m_c_b 0 16384), i6 (partC m_c_b m_c_r m_c_g m_c_b 0 16384)])) (Tr.leaf (AV.agg [i6 (partC m_c_r m_c_r m_c_g m_c_b (powN (hold (dv (dotN (mir3 ⟨i_x, i_y, i_z⟩ (fac3 ⟨n_x, n_y, n_z⟩ ⟨i_x, i_y, i_z⟩)).x (mir3 ⟨i_x, i_y, i_z⟩ (fac3 ⟨n_x, n_y, n_z⟩ ⟨i_x, i_y, i_z⟩)).y (mir3 ⟨i_x, i_y, i_z⟩ (fac3 ⟨n_x, n_y, n_z⟩ ⟨i_x, i_y, i_z⟩)).z o_x o_y o_z) 16384) 0 16384) m_x) 16384), i6 (partC m_c_g m_c_r m_c_g m_c_b (powN (hold (dv (dotN (mir3 ⟨i_x, i_y, i_z⟩ (fac3 ⟨n_x, n_y, n_z⟩ ⟨i_x, i_y, i_z⟩)).x (mir3 ⟨i_x, i_y, i_z⟩ (fac3 ⟨n_x, n_y, n_z⟩ ⟨i_x, i_y, i_z⟩)).y (mir3 ⟨i_x, i_y, i_z⟩ (fac3 ⟨n_x, n_y, n_z⟩ ⟨i_x, i_y, i_z⟩)).z o_x o_y o_z) 16384) 0 16384) m_x) 16384), i6 (partC m_c_b m_c_r m_c_g m_c_b (powN (hold (dv (dotN (mir3 ⟨i_x, i_y, i_z⟩ (fac3 ⟨n_x, n_y, n_z⟩ ⟨i_x, i_y, i_z⟩)).x (mir3 ⟨i_x, i_y, i_z⟩ (fac3 ⟨n_x, n_y, n_z⟩ ⟨i_x, i_y, i_z⟩)).y (mir3 ⟨i_x, i_y, i_z⟩ (fac3 ⟨n_x, n_y, n_z⟩ ⟨i_x, i_y, i_z⟩)).z o_x o_y o_z) 16384) 0 16384) m_x) 16384)]))))))))) (Tr.leaf (AV.agg [i6 0, i6 0, i6 0]))) (Tr.leaf (AV.agg [i6 0, i6 0, i6 0]))) (Tr.leaf (AV.agg [i6 0, i6 0, i6 0])))) (Tr.node (m_k == 4) (Tr.node (decide (m_x ≥ 1)) (Tr.node (decide (m_x ≤ 64)) (Tr.node (decide (mm true (mm true n_x n_y) n_z > 16385)) (Tr.leaf (AV.agg [i6 0, i6 0, i6 0])) (Tr.node (decide (mm false (mm false n_x n_y) n_z < -16385)) (Tr.leaf (AV.agg [i6 0, i6 0, i6 0])) (Tr.node (decide (mm true (mm true i_x i_y) i_z > 16385)) (Tr.leaf (AV.agg [i6 0, i6 0, i6 0])) (Tr.node (decide (mm false (mm false i_x i_y) i_z < -16385)) (Tr.leaf (AV.agg [i6 0, i6 0, i6 0])) (Tr.node (decide (mm true (mm true o_x o_y) o_z > 16385)) (Tr.leaf (AV.agg [i6 0, i6 0, i6 0])) (Tr.node (decide (mm false (mm false o_x o_y) o_z < -16385)) (Tr.leaf (AV.agg [i6 0, i6 0, i6 0])) (Tr.node (hold (dv (dotN (facC n_x n_x n_y n_z i_x i_y i_z) (facC n_y n_x n_y n_z i_x i_y i_z) (facC n_z n_x n_y n_z i_x i_y i_z) o_x o_y o_z) 16384) 0 16384 == 0) (Tr.leaf (AV.agg [i6 (partC m_c_r m_c_r m_c_g m_c_b 0 16384), i6 (partC m_c_g m_c_r m_c_g m_c_b 0 16384), i6 (partC m_c_b m_c_r m_c_g m_c_b 0 16384)])) (Tr.leaf (AV.agg [i6 (partC m_c_r m_c_r m_c_g m_c_b (powN (hold (dv (dotN (mir3 ⟨i_x, i_y, i_z⟩ (fac3 ⟨n_x, n_y, n_z⟩ ⟨i_x, i_y, i_z⟩)).x (mir3 ⟨i_x, i_y, i_z⟩ (fac3 ⟨n_x, n_y, n_z⟩ ⟨i_x, i_y, i_z⟩)).y (mir3 ⟨i_x, i_y, i_z⟩ (fac3 ⟨n_x, n_y, n_z⟩ ⟨i_x, i_y, i_z⟩)).z o_x o_y o_z) 16384) 0 16384) m_x) 16384), i6 (partC m_c_g m_c_r m_c_g m_c_b (powN (hold (dv (dotN (mir3 ⟨i_x, i_y, i_z⟩ (fac3 ⟨n_x, n_y, n_z⟩ ⟨i_x, i_y, i_z⟩)).x (mir3 ⟨i_x, i_y, i_z⟩ (fac3 ⟨n_x, n_y, n_z⟩ ⟨i_x, i_y, i_z⟩)).y (mir3 ⟨i_x, i_y, i_z⟩ (fac3 ⟨n_x, n_y, n_z⟩ ⟨i_x, i_y, i_z⟩)).z o_x o_y o_z) 16384) 0 16384) m_x) 16384), i6 (partC m_c_b m_c_r m_c_g m_c_b (powN (hold (dv (dotN (mir3 ⟨i_x, i_y, i_z⟩ (fac3 ⟨n_x, n_y, n_z⟩ ⟨i_x, i_y, i_z⟩)).x (mir3 ⟨i_x, i_y, i_z⟩ (fac3 ⟨n_x, n_y, n_z⟩ ⟨i_x, i_y, i_z⟩)).y (mir3 ⟨i_x, i_y, i_z⟩ (fac3 ⟨n_x, n_y, n_z⟩ ⟨i_x, i_y, i_z⟩)).z o_x o_y o_z) 16384) 0 16384) m_x) 16384)]))))))))) (Tr.leaf (AV.agg [i6 0, i6 0, i6 0]))) (Tr.leaf (AV.agg [i6 0, i6 0, i6 0]))) (Tr.leaf (AV.agg [i6 0, i6 0, i6 0]))))) (Tr.node (m_k == 3) (Tr.node (decide (m_x ≥ 16384)) (Tr.node (decide (m_x ≤ 65536)) (Tr.node (decide (mm true (mm true n_x n_y) n_z > 16385)) (Tr.leaf (AV.agg [i6 0, i6 0, i6 0])) (Tr.node (decide (mm false (mm false n_x n_y) n_z < -16385)) (Tr.leaf (AV.agg [i6 0, i6 0, i6 0])) (Tr.node (decide (mm true (mm true i_x i_y) i_z > 16385)) (Tr.leaf (AV.agg [i6 0, i6 0, i6 0])) (Tr.node (decide (mm false (mm false i_x i_y) i_z < -16385)) (Tr.leaf (AV.agg [i6 0, i6 0, i6 0])) (Tr.node (decide (mm true (mm true o_x o_y) o_z > 16385)) (Tr.leaf (AV.agg [i6 0, i6 0, i6 0])) (Tr.node (decide (mm false (mm false o_x o_y) o_z < -16385)) (Tr.leaf (AV.agg [i6 0, i6 0, i6 0])) (Tr.leaf (AV.agg [i6 (partC m_c_r m_c_r m_c_g m_c_b 0 16384), i6 (partC m_c_g m_c_r m_c_g m_c_b 0 16384), i6 (partC m_c_b m_c_r m_c_g m_c_b 0 16384)])))))))) (Tr.node (m_k == 4) (Tr.node (decide (m_x ≥ 1)) (Tr.node (decide (m_x ≤ 64)) (Tr.node (decide (mm true (mm true n_x n_y) n_z > 16385)) (Tr.leaf (AV.agg [i6 0, i6 0, i6 0])) (Tr.node (decide (mm false (mm false n_x n_y) n_z < -16385)) (Tr.leaf (AV.agg [i6 0, i6 0, i6 0])) (Tr.node (decide (mm true (mm true i_x i_y) i_z > 16385)) (Tr.leaf (AV.agg [i6 0, i6 0, i6 0])) (Tr.node (decide (mm false (mm false i_x i_y) i_z < -16385)) (Tr.leaf (AV.agg [i6 0, i6 0, i6 0])) (Tr.node (decide (mm true (mm true o_x o_y) o_z > 16385)) (Tr.leaf (AV.agg [i6 0, i6 0, i6 0])) (Tr.node (decide (mm false (mm false o_x o_y) o_z < -16385)) (Tr.leaf (AV.agg [i6 0, i6 0, i6 0])) (Tr.node (hold (dv (dotN (facC n_x n_x n_y n_z i_x i_y i_z) (facC n_y n_x n_y n_z i_x i_y i_z) (facC n_z n_x n_y n_z i_x i_y i_z) o_x o_y o_z) 16384) 0 16384 == 0) (Tr.leaf (AV.agg [i6 (partC m_c_r m_c_r m_c_g m_c_b 0 16384), i6 (partC m_c_g m_c_r m_c_g m_c_b 0 16384), i6 (partC m_c_b m_c_r m_c_g m_c_b 0 16384)])) (Tr.leaf (AV.agg [i6 (partC m_c_r m_c_r m_c_g m_c_b (powN (hold (dv (dotN (mir3 ⟨i_x, i_y, i_z⟩ (fac3 ⟨n_x, n_y, n_z⟩ ⟨i_x, i_y, i_z⟩)).x (mir3 ⟨i_x, i_y, i_z⟩ (fac3 ⟨n_x, n_y, n_z⟩ ⟨i_x, i_y, i_z⟩)).y (mir3 ⟨i_x, i_y, i_z⟩ (fac3 ⟨n_x, n_y, n_z⟩ ⟨i_x, i_y, i_z⟩)).z o_x o_y o_z) 16384) 0 16384) m_x) 16384), i6 (partC m_c_g m_c_r m_c_g m_c_b (powN (hold (dv (dotN (mir3 ⟨i_x, i_y, i_z⟩ (fac3 ⟨n_x, n_y, n_z⟩ ⟨i_x, i_y, i_z⟩)).x (mir3 ⟨i_x, i_y, i_z⟩ (fac3 ⟨n_x, n_y, n_z⟩ ⟨i_x, i_y, i_z⟩)).y (mir3 ⟨i_x, i_y, i_z⟩ (fac3 ⟨n_x, n_y, n_z⟩ ⟨i_x, i_y, i_z⟩)).z o_x o_y o_z) 16384) 0 16384) m_x) 16384), i6 (partC m_c_b m_c_r m_c_g m_c_b (powN (hold (dv (dotN (mir3 ⟨i_x, i_y, i_z⟩ (fac3 ⟨n_x, n_y, n_z⟩ ⟨i_x, i_y, i_z⟩)).x (mir3 ⟨i_x, i_y, i_z⟩ (fac3 ⟨n_x, n_y, n_z⟩ ⟨i_x, i_y, i_z⟩)).y (mir3 ⟨i_x, i_y, i_z⟩ (fac3 ⟨n_x, n_y, n_z⟩ ⟨i_x, i_y, i_z⟩)).z o_x o_y o_z) 16384) 0 16384) m_x) 16384)]))))))))) (Tr.leaf (AV.agg [i6 0, i6 0, i6 0]))) (Tr.leaf (AV.agg [i6 0, i6 0, i6 0]))) (Tr.leaf (AV.agg [i6 0, i6 0, i6 0])))) (Tr.node (m_k == 4) (Tr.node (decide (m_x ≥ 1)) (Tr.node (decide (m_x ≤ 64)) (Tr.node (decide (mm true (mm true n_x n_y) n_z > 16385)) (Tr.leaf (AV.agg [i6 0, i6 0, i6 0])) (Tr.node (decide (mm false (mm false n_x n_y) n_z < -16385)) (Tr.leaf (AV.agg [i6 0, i6 0, i6 0])) (Tr.node (decide (mm true (mm true i_x i_y) i_z > 16385)) (Tr.leaf (AV.agg [i6 0, i6 0, i6 0])) (Tr.node (decide (mm false (mm false i_x i_y) i_z < -16385)) (Tr.leaf (AV.agg [i6 0, i6 0, i6 0])) (Tr.node (decide (mm true (mm true o_x o_y) o_z > 16385)) (Tr.leaf (AV.agg [i6 0, i6 0, i6 0])) (Tr.node (decide (mm false (mm false o_x o_y) o_z < -16385)) (Tr.leaf (AV.agg [i6 0, i6 0, i6 0])) (Tr.node (hold (dv (dotN (facC n_x n_x n_y n_z i_x i_y i_z) (facC n_y n_x n_y n_z i_x i_y i_z) (facC n_z n_x n_y n_z i_x i_y i_z) o_x o_y o_z) 16384) 0 16384 == 0) (Tr.leaf (AV.agg [i6 (partC m_c_r m_c_r m_c_g m_c_b 0 16384), i6 (partC m_c_g m_c_r m_c_g m_c_b 0 16384), i6 (partC m_c_b m_c_r m_c_g m_c_b 0 16384)])) (Tr.leaf (AV.agg [i6 (partC m_c_r m_c_r m_c_g m_c_b (powN (hold (dv (dotN (mir3 ⟨i_x, i_y, i_z⟩ (fac3 ⟨n_x, n_y, n_z⟩ ⟨i_x, i_y, i_z⟩)).x (mir3 ⟨i_x, i_y, i_z⟩ (fac3 ⟨n_x, n_y, n_z⟩ ⟨i_x, i_y, i_z⟩)).y (mir3 ⟨i_x, i_y, i_z⟩ (fac3 ⟨n_x, n_y, n_z⟩ ⟨i_x, i_y, i_z⟩)).z o_x o_y o_z) 16384) 0 16384) m_x) 16384), i6 (partC m_c_g m_c_r m_c_g m_c_b (powN (hold (dv (dotN (mir3 ⟨i_x, i_y, i_z⟩ (fac3 ⟨n_x, n_y, n_z⟩ ⟨i_x, i_y, i_z⟩)).x (mir3 ⟨i_x, i_y, i_z⟩ (fac3 ⟨n_x, n_y, n_z⟩ ⟨i_x, i_y, i_z⟩)).y (mir3 ⟨i_x, i_y, i_z⟩ (fac3 ⟨n_x, n_y, n_z⟩ ⟨i_x, i_y, i_z⟩)).z o_x o_y o_z) 16384) 0 16384) m_x) 16384), i6 (partC m_c_b m_c_r m_c_g m_c_b (powN (hold (dv (dotN (mir3 ⟨i_x, i_y, i_z⟩ (fac3 ⟨n_x, n_y, n_z⟩ ⟨i_x, i_y, i_z⟩)).x (mir3 ⟨i_x, i_y, i_z⟩ (fac3 ⟨n_x, n_y, n_z⟩ ⟨i_x, i_y, i_z⟩)).y (mir3 ⟨i_x, i_y, i_z⟩ (fac3 ⟨n_x, n_y, n_z⟩ ⟨i_x, i_y, i_z⟩)).z o_x o_y o_z) 16384) 0 16384) m_x) 16384)]))))))))) (Tr.leaf (AV.agg [i6 0, i6 0, i6 0]))) (Tr.leaf (AV.agg [i6 0, i6 0, i6 0]))) (Tr.leaf (AV.agg [i6 0, i6 0, i6 0])))) (Tr.node (m_k == 4) (Tr.node (decide (m_x ≥ 1)) (Tr.node (decide (m_x ≤ 64)) (Tr.node (decide (mm true (mm true n_x n_y) n_z > 16385)) (Tr.leaf (AV.agg [i6 0, i6 0, i6 0])) (Tr.node (decide (mm false (mm false n_x n_y) n_z < -16385)) (Tr.leaf (AV.agg [i6 0, i6 0, i6 0])) (Tr.node (decide (mm true (mm true i_x i_y) i_z > 16385)) (Tr.leaf (AV.agg [i6 0, i6 0, i6 0])) (Tr.node (decide (mm false (mm false i_x i_y) i_z < -16385)) (Tr.leaf (AV.agg [i6 0, i6 0, i6 0])) (Tr.node (decide (mm true (mm true o_x o_y) o_z > 16385)) (Tr.leaf (AV.agg [i6 0, i6 0, i6 0])) (Tr.node (decide (mm false (mm false o_x o_y) o_z < -16385)) (Tr.leaf (AV.agg [i6 0, i6 0, i6 0])) (Tr.node (hold (dv (dotN (facC n_x n_x n_y n_z i_x i_y i_z) (facC n_y n_x n_y n_z i_x i_y i_z) (facC n_z n_x n_y n_z i_x i_y i_z) o_x o_y o_z) 16384) 0 16384 == 0) (Tr.leaf (AV.agg [i6 (partC m_c_r m_c_r m_c_g m_c_b 0 16384), i6 (partC m_c_g m_c_r m_c_g m_c_b 0 16384), i6 (partC m_c_b m_c_r m_c_g m_c_b 0 16384)])) (Tr.leaf (AV.agg [i6 (partC m_c_r m_c_r m_c_g m_c_b (powN (hold (dv (dotN (mir3 ⟨i_x, i_y, i_z⟩ (fac3 ⟨n_x, n_y, n_z⟩ ⟨i_x, i_y, i_z⟩)).x (mir3 ⟨i_x, i_y, i_z⟩ (fac3 ⟨n_x, n_y, n_z⟩ ⟨i_x, i_y, i_z⟩)).y (mir3 ⟨i_x, i_y, i_z⟩ (fac3 ⟨n_x, n_y, n_z⟩ ⟨i_x, i_y, i_z⟩)).z o_x o_y o_z) 16384) 0 16384) m_x) 16384), i6 (partC m_c_g m_c_r m_c_g m_c_b (powN (hold (dv (dotN (mir3 ⟨i_x, i_y, i_z⟩ (fac3 ⟨n_x, n_y, n_z⟩ ⟨i_x, i_y, i_z⟩)).x (mir3 ⟨i_x, i_y, i_z⟩ (fac3 ⟨n_x, n_y, n_z⟩ ⟨i_x, i_y, i_z⟩)).y (mir3 ⟨i_x, i_y, i_z⟩ (fac3 ⟨n_x, n_y, n_z⟩ ⟨i_x, i_y, i_z⟩)).z o_x o_y o_z) 16384) 0 16384) m_x) 16384), i6 (partC m_c_b m_c_r m_c_g m_c_b (powN (hold (dv (dotN (mir3 ⟨i_x, i_y, i_z⟩ (fac3 ⟨n_x, n_y, n_z⟩ ⟨i_x, i_y, i_z⟩)).x (mir3 ⟨i_x, i_y, i_z⟩ (fac3 ⟨n_x, n_y, n_z⟩ ⟨i_x, i_y, i_z⟩)).y (mir3 ⟨i_x, i_y, i_z⟩ (fac3 ⟨n_x, n_y, n_z⟩ ⟨i_x, i_y, i_z⟩)).z o_x o_y o_z) 16384) 0 16384) m_x) 16384)]))))))))) (Tr.leaf (AV.agg [i6 0, i6 0, i6 0]))) (Tr.leaf (AV.agg [i6 0, i6 0, i6 0]))) (Tr.leaf (AV.agg [i6 0, i6 0, i6 0]))))))
theorem run_matter_Value (m_k : Int) (m_c_r : Int) (m_c_g : Int) (m_c_b : Int) (m_x : Int) (n_x : Int) (n_y : Int) (n_z : Int) (i_x : Int) (i_y : Int) (i_z : Int) (o_x : Int) (o_y : Int) (o_z : Int) (h_m_k : InR .i64 m_k) (h_m_c_r : InR .i64 m_c_r) (h_m_c_g : InR .i64 m_c_g) (h_m_c_b : InR .i64 m_c_b) (h_m_x : InR .i64 m_x) (h_n_x : InR .i64 n_x) (h_n_y : InR .i64 n_y) (h_n_z : InR .i64 n_z) (h_i_x : InR .i64 i_x) (h_i_y : InR .i64 i_y) (h_i_z : InR .i64 i_z) (h_o_x : InR .i64 o_x) (h_o_y : InR .i64 o_y) (h_o_z : InR .i64 o_z) : (tr_matter_Value m_k m_c_r m_c_g m_c_b m_x n_x n_y n_z i_x i_y i_z o_x o_y o_z).run = some (v3 (valC m_c_r m_k m_c_r m_c_g m_c_b m_x ⟨n_x, n_y, n_z⟩ ⟨i_x, i_y, i_z⟩ ⟨o_x, o_y, o_z⟩) (valC m_c_g m_k m_c_r m_c_g m_c_b m_x ⟨n_x, n_y, n_z⟩ ⟨i_x, i_y, i_z⟩ ⟨o_x, o_y, o_z⟩) (valC m_c_b m_k m_c_r m_c_g m_c_b m_x ⟨n_x, n_y, n_z⟩ ⟨i_x, i_y, i_z⟩ ⟨o_x, o_y, o_z⟩)) := by
  unfold tr_matter_Value
  cases hm : matB m_k m_c_r m_c_g m_c_b m_x
  · rw [val_no (.inl hm), val_no (.inl hm), val_no (.inl hm)]
    cases hc : colB m_c_r m_c_g m_c_b
    · rfl
    have no := mat_no hm hc
    rw [Bool.not_true]
    refine (run_f rfl).trans ?_
    clear hm hc
    (repeat' (first | exact (rfl : (Tr.leaf (AV.agg [AV.int IntKind.i64 false 0, AV.int IntKind.i64 false 0, AV.int IntKind.i64 false 0])).run = some _) | (exfalso; simp only [beq_iff_eq, beq_eq_false_iff_ne, ne_eq, decide_eq_true_eq, decide_eq_false_iff_not] at *; omega) | (refine run_guard (fun _ => ?_) (fun _ => ?_))))
  obtain ⟨hc, h⟩ := mat_cases hm
  have cr := col_r hc
  rw [hc, Bool.not_true]
  refine (run_f rfl).trans ?_
  
  rcases h with ⟨rfl, rfl⟩ | ⟨rfl, rfl⟩ | ⟨rfl, h1, h2⟩ | ⟨rfl, h1, h2⟩
  · refine (run_t rfl).trans ((run_t rfl).trans ?_)
    refine (short_node _ _ _ _ _).trans ?_
    cases s1 : shortB n_x n_y n_z
    · rw [if_neg (by decide)]; rw [val_no (.inr (.inl s1)), val_no (.inr (.inl s1)), val_no (.inr (.inl s1))]; rfl
    rw [if_pos rfl]
    refine (short_node _ _ _ _ _).trans ?_
    cases s2 : shortB i_x i_y i_z
    · rw [if_neg (by decide)]; rw [val_no (.inr (.inr (.inl s2))), val_no (.inr (.inr (.inl s2))), val_no (.inr (.inr (.inl s2)))]; rfl
    rw [if_pos rfl]
    
    refine (short_node _ _ _ _ _).trans ?_
    cases s3 : shortB o_x o_y o_z
    · rw [if_neg (by decide)]; rw [val_no (.inr (.inr (.inr s3))), val_no (.inr (.inr (.inr s3))), val_no (.inr (.inr (.inr s3)))]; rfl
    rw [if_pos rfl]
    rw [val_ok hm s1 s2 s3, val_ok hm s1 s2 s3, val_ok hm s1 s2 s3]
    
    have q : valG 1 0 ⟨n_x, n_y, n_z⟩ ⟨i_x, i_y, i_z⟩ ⟨o_x, o_y, o_z⟩ = hold (dv (dotN (facC n_x n_x n_y n_z i_x i_y i_z) (facC n_y n_x n_y n_z i_x i_y i_z) (facC n_z n_x n_y n_z i_x i_y i_z) o_x o_y o_z) 16384) 0 16384 := by rw [dv_16384]; rfl
    rw [q]
    have qr := @valG_r 1 0 ⟨n_x, n_y, n_z⟩ ⟨i_x, i_y, i_z⟩ ⟨o_x, o_y, o_z⟩
    rw [q] at qr
    rw [part_eq hc cr.1 qr, part_eq hc cr.2.1 qr, part_eq hc cr.2.2 qr]
    rfl
  · refine (run_f rfl).trans ((run_t rfl).trans ((run_t rfl).trans ?_))
    refine (short_node _ _ _ _ _).trans ?_
    cases s1 : shortB n_x n_y n_z
    · rw [if_neg (by decide)]; rw [val_no (.inr (.inl s1)), val_no (.inr (.inl s1)), val_no (.inr (.inl s1))]; rfl
    rw [if_pos rfl]
    refine (short_node _ _ _ _ _).trans ?_
    cases s2 : shortB i_x i_y i_z
    · rw [if_neg (by decide)]; rw [val_no (.inr (.inr (.inl s2))), val_no (.inr (.inr (.inl s2))), val_no (.inr (.inr (.inl s2)))]; rfl
    rw [if_pos rfl]
    
    refine (short_node _ _ _ _ _).trans ?_
    cases s3 : shortB o_x o_y o_z
    · rw [if_neg (by decide)]; rw [val_no (.inr (.inr (.inr s3))), val_no (.inr (.inr (.inr s3))), val_no (.inr (.inr (.inr s3)))]; rfl
    rw [if_pos rfl]
    rw [val_ok hm s1 s2 s3, val_ok hm s1 s2 s3, val_ok hm s1 s2 s3]
    
    rw [part_eq hc cr.1 (by decide), part_eq hc cr.2.1 (by decide), part_eq hc cr.2.2 (by decide)]
    rfl
  · refine (run_f rfl).trans ((run_f rfl).trans ((run_t rfl).trans ((run_t (decide_eq_true (by omega))).trans ((run_t (decide_eq_true (by omega))).trans ?_))))
    refine (short_node _ _ _ _ _).trans ?_
    cases s1 : shortB n_x n_y n_z
    · rw [if_neg (by decide)]; rw [val_no (.inr (.inl s1)), val_no (.inr (.inl s1)), val_no (.inr (.inl s1))]; rfl
    rw [if_pos rfl]
    refine (short_node _ _ _ _ _).trans ?_
    cases s2 : shortB i_x i_y i_z
    · rw [if_neg (by decide)]; rw [val_no (.inr (.inr (.inl s2))), val_no (.inr (.inr (.inl s2))), val_no (.inr (.inr (.inl s2)))]; rfl
    rw [if_pos rfl]
    
    refine (short_node _ _ _ _ _).trans ?_
    cases s3 : shortB o_x o_y o_z
    · rw [if_neg (by decide)]; rw [val_no (.inr (.inr (.inr s3))), val_no (.inr (.inr (.inr s3))), val_no (.inr (.inr (.inr s3)))]; rfl
    rw [if_pos rfl]
    rw [val_ok hm s1 s2 s3, val_ok hm s1 s2 s3, val_ok hm s1 s2 s3]
    
    rw [part_eq hc cr.1 (by decide), part_eq hc cr.2.1 (by decide), part_eq hc cr.2.2 (by decide)]
    rfl
  · refine (run_f rfl).trans ((run_f rfl).trans ((run_f rfl).trans ((run_t rfl).trans ((run_t (decide_eq_true (by omega))).trans ((run_t (decide_eq_true (by omega))).trans ?_)))))
    refine (short_node _ _ _ _ _).trans ?_
    cases s1 : shortB n_x n_y n_z
    · rw [if_neg (by decide)]; rw [val_no (.inr (.inl s1)), val_no (.inr (.inl s1)), val_no (.inr (.inl s1))]; rfl
    rw [if_pos rfl]
    refine (short_node _ _ _ _ _).trans ?_
    cases s2 : shortB i_x i_y i_z
    · rw [if_neg (by decide)]; rw [val_no (.inr (.inr (.inl s2))), val_no (.inr (.inr (.inl s2))), val_no (.inr (.inr (.inl s2)))]; rfl
    rw [if_pos rfl]
    
    refine (short_node _ _ _ _ _).trans ?_
    cases s3 : shortB o_x o_y o_z
    · rw [if_neg (by decide)]; rw [val_no (.inr (.inr (.inr s3))), val_no (.inr (.inr (.inr s3))), val_no (.inr (.inr (.inr s3)))]; rfl
    rw [if_pos rfl]
    rw [val_ok hm s1 s2 s3, val_ok hm s1 s2 s3, val_ok hm s1 s2 s3]
    
    rw [dv_16384, dv_16384]
    have q : valG 4 m_x ⟨n_x, n_y, n_z⟩ ⟨i_x, i_y, i_z⟩ ⟨o_x, o_y, o_z⟩ = if hold (dotN (facC n_x n_x n_y n_z i_x i_y i_z) (facC n_y n_x n_y n_z i_x i_y i_z) (facC n_z n_x n_y n_z i_x i_y i_z) o_x o_y o_z / 16384) 0 16384 = 0 then 0 else powN (upon3 (mir3 ⟨i_x, i_y, i_z⟩ ⟨facC n_x n_x n_y n_z i_x i_y i_z, facC n_y n_x n_y n_z i_x i_y i_z, facC n_z n_x n_y n_z i_x i_y i_z⟩) ⟨o_x, o_y, o_z⟩) m_x := rfl
    rw [q]
    refine run_guard (fun h0 => ?_) (fun h0 => ?_)
    · have h0 := eq_of_beq h0
      rw [if_pos h0, part_eq hc cr.1 (by decide), part_eq hc cr.2.1 (by decide), part_eq hc cr.2.2 (by decide)]
      rfl
    · have h0 := ne_of_beq_false h0
      rw [if_neg h0]
      have pr := @pow_r m_x (upon3 (mir3 ⟨i_x, i_y, i_z⟩ ⟨facC n_x n_x n_y n_z i_x i_y i_z, facC n_y n_x n_y n_z i_x i_y i_z, facC n_z n_x n_y n_z i_x i_y i_z⟩) ⟨o_x, o_y, o_z⟩)
      show some (AV.agg [.int .i64 false (partC m_c_r m_c_r m_c_g m_c_b (powN (upon3 (mir3 ⟨i_x, i_y, i_z⟩ ⟨facC n_x n_x n_y n_z i_x i_y i_z, facC n_y n_x n_y n_z i_x i_y i_z, facC n_z n_x n_y n_z i_x i_y i_z⟩) ⟨o_x, o_y, o_z⟩) m_x) 16384), .int .i64 false (partC m_c_g m_c_r m_c_g m_c_b (powN (upon3 (mir3 ⟨i_x, i_y, i_z⟩ ⟨facC n_x n_x n_y n_z i_x i_y i_z, facC n_y n_x n_y n_z i_x i_y i_z, facC n_z n_x n_y n_z i_x i_y i_z⟩) ⟨o_x, o_y, o_z⟩) m_x) 16384), .int .i64 false (partC m_c_b m_c_r m_c_g m_c_b (powN (upon3 (mir3 ⟨i_x, i_y, i_z⟩ ⟨facC n_x n_x n_y n_z i_x i_y i_z, facC n_y n_x n_y n_z i_x i_y i_z, facC n_z n_x n_y n_z i_x i_y i_z⟩) ⟨o_x, o_y, o_z⟩) m_x) 16384)]) = _
      rw [part_eq hc cr.1 pr, part_eq hc cr.2.1 pr, part_eq hc cr.2.2 pr]
      rfl

/-! skylightref25.Value -/
def tr_skylightref25_Value (m_k : Int) (m_c_r : Int) (m_c_g : Int) (m_c_b : Int) (m_x : Int) (n_x : Int) (n_y : Int) (n_z : Int) (i_x : Int) (i_y : Int) (i_z : Int) (o_x : Int) (o_y : Int) (o_z : Int) : Tr AV := Tr.node (!matB m_k m_c_r m_c_g m_c_b m_x) (Tr.leaf (AV.agg [i6 0, i6 0, i6 0])) (Tr.node (decide (mm true (mm true n_x n_y) n_z ≤ 16385)) (Tr.node (!decide (mm false (mm false n_x n_y) n_z ≥ -16385)) (Tr.leaf (AV.agg [i6 0, i6 0, i6 0])) (Tr.node (decide (mm true (mm true i_x i_y) i_z ≤ 16385)) (Tr.node (!decide (mm false (mm false i_x i_y) i_z ≥ -16385)) (Tr.leaf (AV.agg [i6 0, i6 0, i6 0])) (Tr.node (decide (mm true (mm true o_x o_y) o_z ≤ 16385)) (Tr.node (!decide (mm false (mm false o_x o_y) o_z ≥ -16385)) (Tr.leaf (AV.agg [i6 0, i6 0, i6 0])) (Tr.node (m_k == 2) (Tr.leaf (AV.agg [i6 0, i6 0, i6 0])) (Tr.node (m_k == 3) (Tr.leaf (AV.agg [i6 0, i6 0, i6 0])) (Tr.node (m_k == 4) (Tr.node (decide (hold (if (1 : Int) ≤ 16384 then dotN (facC n_x n_x n_y n_z i_x i_y i_z) (facC n_y n_x n_y n_z i_x i_y i_z) (facC n_z n_x n_y n_z i_x i_y i_z) o_x o_y o_z / 16384 else 0) 0 16384 > 0)) (Tr.leaf (AV.agg [i6 (if (1 : Int) ≤ 16384 then IntKind.i64.wrap (m_c_r * powN (hold (if (1 : Int) ≤ 16384 then dotN (mir3 ⟨i_x, i_y, i_z⟩ (fac3 ⟨n_x, n_y, n_z⟩ ⟨i_x, i_y, i_z⟩)).x (mir3 ⟨i_x, i_y, i_z⟩ (fac3 ⟨n_x, n_y, n_z⟩ ⟨i_x, i_y, i_z⟩)).y (mir3 ⟨i_x, i_y, i_z⟩ (fac3 ⟨n_x, n_y, n_z⟩ ⟨i_x, i_y, i_z⟩)).z o_x o_y o_z / 16384 else 0) 0 16384) m_x) / 16384 else 0), i6 (if (1 : Int) ≤ 16384 then IntKind.i64.wrap (m_c_g * powN (hold (if (1 : Int) ≤ 16384 then dotN (mir3 ⟨i_x, i_y, i_z⟩ (fac3 ⟨n_x, n_y, n_z⟩ ⟨i_x, i_y, i_z⟩)).x (mir3 ⟨i_x, i_y, i_z⟩ (fac3 ⟨n_x, n_y, n_z⟩ ⟨i_x, i_y, i_z⟩)).y (mir3 ⟨i_x, i_y, i_z⟩ (fac3 ⟨n_x, n_y, n_z⟩ ⟨i_x, i_y, i_z⟩)).z o_x o_y o_z / 16384 else 0) 0 16384) m_x) / 16384 else 0), i6 (if (1 : Int) ≤ 16384 then IntKind.i64.wrap (m_c_b * powN (hold (if (1 : Int) ≤ 16384 then dotN (mir3 ⟨i_x, i_y, i_z⟩ (fac3 ⟨n_x, n_y, n_z⟩ ⟨i_x, i_y, i_z⟩)).x (mir3 ⟨i_x, i_y, i_z⟩ (fac3 ⟨n_x, n_y, n_z⟩ ⟨i_x, i_y, i_z⟩)).y (mir3 ⟨i_x, i_y, i_z⟩ (fac3 ⟨n_x, n_y, n_z⟩ ⟨i_x, i_y, i_z⟩)).z o_x o_y o_z / 16384 else 0) 0 16384) m_x) / 16384 else 0)])) (Tr.leaf (AV.agg [i6 (if (1 : Int) ≤ 16384 then IntKind.i64.wrap (m_c_r * hold (if (1 : Int) ≤ 16384 then dotN (facC n_x n_x n_y n_z i_x i_y i_z) (facC n_y n_x n_y n_z i_x i_y i_z) (facC n_z n_x n_y n_z i_x i_y i_z) o_x o_y o_z / 16384 else 0) 0 16384) / 16384 else 0), i6 (if (1 : Int) ≤ 16384 then IntKind.i64.wrap (m_c_g * hold (if (1 : Int) ≤ 16384 then dotN (facC n_x n_x n_y n_z i_x i_y i_z) (facC n_y n_x n_y n_z i_x i_y i_z) (facC n_z n_x n_y n_z i_x i_y i_z) o_x o_y o_z / 16384 else 0) 0 16384) / 16384 else 0), i6 (if (1 : Int) ≤ 16384 then IntKind.i64.wrap (m_c_b * hold (if (1 : Int) ≤ 16384 then dotN (facC n_x n_x n_y n_z i_x i_y i_z) (facC n_y n_x n_y n_z i_x i_y i_z) (facC n_z n_x n_y n_z i_x i_y i_z) o_x o_y o_z / 16384 else 0) 0 16384) / 16384 else 0)]))) (Tr.leaf (AV.agg [i6 (if (1 : Int) ≤ 16384 then IntKind.i64.wrap (m_c_r * hold (if (1 : Int) ≤ 16384 then dotN (facC n_x n_x n_y n_z i_x i_y i_z) (facC n_y n_x n_y n_z i_x i_y i_z) (facC n_z n_x n_y n_z i_x i_y i_z) o_x o_y o_z / 16384 else 0) 0 16384) / 16384 else 0), i6 (if (1 : Int) ≤ 16384 then IntKind.i64.wrap (m_c_g * hold (if (1 : Int) ≤ 16384 then dotN (facC n_x n_x n_y n_z i_x i_y i_z) (facC n_y n_x n_y n_z i_x i_y i_z) (facC n_z n_x n_y n_z i_x i_y i_z) o_x o_y o_z / 16384 else 0) 0 16384) / 16384 else 0), i6 (if (1 : Int) ≤ 16384 then IntKind.i64.wrap (m_c_b * hold (if (1 : Int) ≤ 16384 then dotN (facC n_x n_x n_y n_z i_x i_y i_z) (facC n_y n_x n_y n_z i_x i_y i_z) (facC n_z n_x n_y n_z i_x i_y i_z) o_x o_y o_z / 16384 else 0) 0 16384) / 16384 else 0)])))))) (Tr.leaf (AV.agg [i6 0, i6 0, i6 0])))) (Tr.leaf (AV.agg [i6 0, i6 0, i6 0])))) (Tr.leaf (AV.agg [i6 0, i6 0, i6 0])))
theorem run_skylightref25_Value (m_k : Int) (m_c_r : Int) (m_c_g : Int) (m_c_b : Int) (m_x : Int) (n_x : Int) (n_y : Int) (n_z : Int) (i_x : Int) (i_y : Int) (i_z : Int) (o_x : Int) (o_y : Int) (o_z : Int) (h_m_k : InR .i64 m_k) (h_m_c_r : InR .i64 m_c_r) (h_m_c_g : InR .i64 m_c_g) (h_m_c_b : InR .i64 m_c_b) (h_m_x : InR .i64 m_x) (h_n_x : InR .i64 n_x) (h_n_y : InR .i64 n_y) (h_n_z : InR .i64 n_z) (h_i_x : InR .i64 i_x) (h_i_y : InR .i64 i_y) (h_i_z : InR .i64 i_z) (h_o_x : InR .i64 o_x) (h_o_y : InR .i64 o_y) (h_o_z : InR .i64 o_z) : (tr_skylightref25_Value m_k m_c_r m_c_g m_c_b m_x n_x n_y n_z i_x i_y i_z o_x o_y o_z).run = some (v3 (valC m_c_r m_k m_c_r m_c_g m_c_b m_x ⟨n_x, n_y, n_z⟩ ⟨i_x, i_y, i_z⟩ ⟨o_x, o_y, o_z⟩) (valC m_c_g m_k m_c_r m_c_g m_c_b m_x ⟨n_x, n_y, n_z⟩ ⟨i_x, i_y, i_z⟩ ⟨o_x, o_y, o_z⟩) (valC m_c_b m_k m_c_r m_c_g m_c_b m_x ⟨n_x, n_y, n_z⟩ ⟨i_x, i_y, i_z⟩ ⟨o_x, o_y, o_z⟩)) := by
  unfold tr_skylightref25_Value
  have t1 : (1 : Int) ≤ 16384 := by decide
  simp only [if_pos t1]
  cases hm : matB m_k m_c_r m_c_g m_c_b m_x
  · rw [val_no (.inl hm), val_no (.inl hm), val_no (.inl hm)]; rfl
  refine (run_f rfl).trans ?_
  obtain ⟨hc, h⟩ := mat_cases hm
  have cr := col_r hc
  
  refine (short_node' _ _ _ _ _).trans ?_
  cases s1 : shortB n_x n_y n_z
  · rw [if_neg (by decide)]; rw [val_no (.inr (.inl s1)), val_no (.inr (.inl s1)), val_no (.inr (.inl s1))]; rfl
  rw [if_pos rfl]
  refine (short_node' _ _ _ _ _).trans ?_
  cases s2 : shortB i_x i_y i_z
  · rw [if_neg (by decide)]; rw [val_no (.inr (.inr (.inl s2))), val_no (.inr (.inr (.inl s2))), val_no (.inr (.inr (.inl s2)))]; rfl
  rw [if_pos rfl]
  
  refine (short_node' _ _ _ _ _).trans ?_
  cases s3 : shortB o_x o_y o_z
  · rw [if_neg (by decide)]; rw [val_no (.inr (.inr (.inr s3))), val_no (.inr (.inr (.inr s3))), val_no (.inr (.inr (.inr s3)))]; rfl
  rw [if_pos rfl]
  rw [val_ok hm s1 s2 s3, val_ok hm s1 s2 s3, val_ok hm s1 s2 s3]
  
  rcases h with ⟨rfl, rfl⟩ | ⟨rfl, rfl⟩ | ⟨rfl, h1, h2⟩ | ⟨rfl, h1, h2⟩
  · have q : valG 1 0 ⟨n_x, n_y, n_z⟩ ⟨i_x, i_y, i_z⟩ ⟨o_x, o_y, o_z⟩ = hold (dotN (facC n_x n_x n_y n_z i_x i_y i_z) (facC n_y n_x n_y n_z i_x i_y i_z) (facC n_z n_x n_y n_z i_x i_y i_z) o_x o_y o_z / 16384) 0 16384 := rfl
    have qr := @valG_r 1 0 ⟨n_x, n_y, n_z⟩ ⟨i_x, i_y, i_z⟩ ⟨o_x, o_y, o_z⟩
    rw [q] at qr ⊢
    refine (run_f rfl).trans ((run_f rfl).trans ((run_f rfl).trans ?_))
    generalize hold (dotN (facC n_x n_x n_y n_z i_x i_y i_z) (facC n_y n_x n_y n_z i_x i_y i_z) (facC n_z n_x n_y n_z i_x i_y i_z) o_x o_y o_z / 16384) 0 16384 = v at *
    have m1 := mul_mono cr.1.1 cr.1.2 qr.1 qr.2; have m2 := mul_mono cr.2.1.1 cr.2.1.2 qr.1 qr.2; have m3 := mul_mono cr.2.2.1 cr.2.2.2 qr.1 qr.2
    rw [wrap_i64_id (n := m_c_r * v) (by omega), wrap_i64_id (n := m_c_g * v) (by omega), wrap_i64_id (n := m_c_b * v) (by omega)]
    rfl
  · refine (run_t rfl).trans ?_
    rw [show valG 2 0 ⟨n_x, n_y, n_z⟩ ⟨i_x, i_y, i_z⟩ ⟨o_x, o_y, o_z⟩ = 0 from rfl, Int.mul_zero, Int.mul_zero, Int.mul_zero]; rfl
  · refine (run_f rfl).trans ((run_t rfl).trans ?_)
    rw [show valG 3 m_x ⟨n_x, n_y, n_z⟩ ⟨i_x, i_y, i_z⟩ ⟨o_x, o_y, o_z⟩ = 0 from rfl, Int.mul_zero, Int.mul_zero, Int.mul_zero]; rfl
  · have q : valG 4 m_x ⟨n_x, n_y, n_z⟩ ⟨i_x, i_y, i_z⟩ ⟨o_x, o_y, o_z⟩ = if upon3 (fac3 ⟨n_x, n_y, n_z⟩ ⟨i_x, i_y, i_z⟩) ⟨o_x, o_y, o_z⟩ = 0 then 0 else powN (upon3 (mir3 ⟨i_x, i_y, i_z⟩ (fac3 ⟨n_x, n_y, n_z⟩ ⟨i_x, i_y, i_z⟩)) ⟨o_x, o_y, o_z⟩) m_x := rfl
    rw [q]
    have ur := upon_r (fac3 ⟨n_x, n_y, n_z⟩ ⟨i_x, i_y, i_z⟩) ⟨o_x, o_y, o_z⟩
    refine (run_f rfl).trans ((run_f rfl).trans ((run_t rfl).trans ?_))
    refine run_guard (fun h0 => ?_) (fun h0 => ?_)
    · have h0 : upon3 (fac3 ⟨n_x, n_y, n_z⟩ ⟨i_x, i_y, i_z⟩) ⟨o_x, o_y, o_z⟩ > 0 := of_decide_eq_true h0
      have pr := @pow_r m_x (upon3 (mir3 ⟨i_x, i_y, i_z⟩ (fac3 ⟨n_x, n_y, n_z⟩ ⟨i_x, i_y, i_z⟩)) ⟨o_x, o_y, o_z⟩)
      rw [if_neg (by omega)]
      show some (AV.agg [.int .i64 false (IntKind.i64.wrap (m_c_r * powN (upon3 (mir3 ⟨i_x, i_y, i_z⟩ (fac3 ⟨n_x, n_y, n_z⟩ ⟨i_x, i_y, i_z⟩)) ⟨o_x, o_y, o_z⟩) m_x) / 16384), .int .i64 false (IntKind.i64.wrap (m_c_g * powN (upon3 (mir3 ⟨i_x, i_y, i_z⟩ (fac3 ⟨n_x, n_y, n_z⟩ ⟨i_x, i_y, i_z⟩)) ⟨o_x, o_y, o_z⟩) m_x) / 16384), .int .i64 false (IntKind.i64.wrap (m_c_b * powN (upon3 (mir3 ⟨i_x, i_y, i_z⟩ (fac3 ⟨n_x, n_y, n_z⟩ ⟨i_x, i_y, i_z⟩)) ⟨o_x, o_y, o_z⟩) m_x) / 16384)]) = _
      generalize powN (upon3 (mir3 ⟨i_x, i_y, i_z⟩ (fac3 ⟨n_x, n_y, n_z⟩ ⟨i_x, i_y, i_z⟩)) ⟨o_x, o_y, o_z⟩) m_x = v at *
      have m1 := mul_mono cr.1.1 cr.1.2 pr.1 pr.2; have m2 := mul_mono cr.2.1.1 cr.2.1.2 pr.1 pr.2; have m3 := mul_mono cr.2.2.1 cr.2.2.2 pr.1 pr.2
      rw [wrap_i64_id (n := m_c_r * v) (by omega), wrap_i64_id (n := m_c_g * v) (by omega), wrap_i64_id (n := m_c_b * v) (by omega)]
      rfl
    · have h0 : ¬ upon3 (fac3 ⟨n_x, n_y, n_z⟩ ⟨i_x, i_y, i_z⟩) ⟨o_x, o_y, o_z⟩ > 0 := of_decide_eq_false h0
      have u0 : upon3 (fac3 ⟨n_x, n_y, n_z⟩ ⟨i_x, i_y, i_z⟩) ⟨o_x, o_y, o_z⟩ = 0 := by omega
      rw [if_pos u0]
      show some (AV.agg [.int .i64 false (IntKind.i64.wrap (m_c_r * upon3 (fac3 ⟨n_x, n_y, n_z⟩ ⟨i_x, i_y, i_z⟩) ⟨o_x, o_y, o_z⟩) / 16384), .int .i64 false (IntKind.i64.wrap (m_c_g * upon3 (fac3 ⟨n_x, n_y, n_z⟩ ⟨i_x, i_y, i_z⟩) ⟨o_x, o_y, o_z⟩) / 16384), .int .i64 false (IntKind.i64.wrap (m_c_b * upon3 (fac3 ⟨n_x, n_y, n_z⟩ ⟨i_x, i_y, i_z⟩) ⟨o_x, o_y, o_z⟩) / 16384)]) = _
      rw [u0, Int.mul_zero, Int.mul_zero, Int.mul_zero]
      rfl

end Go.Sky

/- Trees of functions, and what they come to. -/
set_option linter.unusedSimpArgs false
set_option linter.unusedVariables false
namespace Go.Sky
set_option maxRecDepth 100000

/-! matter.Throw -/
def tr_matter_Throw (m_k : Int) (m_c_r : Int) (m_c_g : Int) (m_c_b : Int) (m_x : Int) (n_x : Int) (n_y : Int) (n_z : Int) (i_x : Int) (i_y : Int) (i_z : Int) (u : Int) (a : Int) (w : Int) : Tr AV := Tr.node (!colB m_c_r m_c_g m_c_b) (Tr.leaf (AV.tuple [AV.agg [i6 0, i6 0, i6 0], AV.bool false false])) (Tr.node (m_k == 1) (Tr.node (m_x == 0) (Tr.node (decide (mm true (mm true n_x n_y) n_z > 16385)) (Tr.leaf (AV.tuple [AV.agg [i6 0, i6 0, i6 0], AV.bool false false])) (Tr.node (decide (mm false (mm false n_x n_y) n_z < -16385)) (Tr.leaf (AV.tuple [AV.agg [i6 0, i6 0, i6 0], AV.bool false false])) (Tr.node (decide (mm true (mm true i_x i_y) i_z > 16385)) (Tr.leaf (AV.tuple [AV.agg [i6 0, i6 0, i6 0], AV.bool false false])) (Tr.node (decide (mm false (mm false i_x i_y) i_z < -16385)) (Tr.leaf (AV.tuple [AV.agg [i6 0, i6 0, i6 0], AV.bool false false])) (Tr.node (n_x == 0 && (n_y == 0 && (n_z == 0 && true))) (Tr.leaf (AV.tuple [AV.agg [i6 0, i6 0, i6 0], AV.bool false false])) (Tr.node (i_x == 0 && (i_y == 0 && (i_z == 0 && true))) (Tr.leaf (AV.tuple [AV.agg [i6 0, i6 0, i6 0], AV.bool false false])) (Tr.leaf (AV.tuple [AV.agg [i6 (half3 (fac3 ⟨n_x, n_y, n_z⟩ ⟨i_x, i_y, i_z⟩) u a).x, i6 (half3 (fac3 ⟨n_x, n_y, n_z⟩ ⟨i_x, i_y, i_z⟩) u a).y, i6 (half3 (fac3 ⟨n_x, n_y, n_z⟩ ⟨i_x, i_y, i_z⟩) u a).z], AV.bool false !((half3 (fac3 ⟨n_x, n_y, n_z⟩ ⟨i_x, i_y, i_z⟩) u a).x == 0 && ((half3 (fac3 ⟨n_x, n_y, n_z⟩ ⟨i_x, i_y, i_z⟩) u a).y == 0 && ((half3 (fac3 ⟨n_x, n_y, n_z⟩ ⟨i_x, i_y, i_z⟩) u a).z == 0 && true)))])))))))) (Tr.node (m_k == 2) (Tr.node (m_x == 0) (Tr.node (decide (mm true (mm true n_x n_y) n_z > 16385)) (Tr.leaf (AV.tuple [AV.agg [i6 0, i6 0, i6 0], AV.bool false false])) (Tr.node (decide (mm false (mm false n_x n_y) n_z < -16385)) (Tr.leaf (AV.tuple [AV.agg [i6 0, i6 0, i6 0], AV.bool false false])) (Tr.node (decide (mm true (mm true i_x i_y) i_z > 16385)) (Tr.leaf (AV.tuple [AV.agg [i6 0, i6 0, i6 0], AV.bool false false])) (Tr.node (decide (mm false (mm false i_x i_y) i_z < -16385)) (Tr.leaf (AV.tuple [AV.agg [i6 0, i6 0, i6 0], AV.bool false false])) (Tr.node (n_x == 0 && (n_y == 0 && (n_z == 0 && true))) (Tr.leaf (AV.tuple [AV.agg [i6 0, i6 0, i6 0], AV.bool false false])) (Tr.node (i_x == 0 && (i_y == 0 && (i_z == 0 && true))) (Tr.leaf (AV.tuple [AV.agg [i6 0, i6 0, i6 0], AV.bool false false])) (Tr.leaf (AV.tuple [AV.agg [i6 ((unit3 (mir3 ⟨i_x, i_y, i_z⟩ (fac3 ⟨n_x, n_y, n_z⟩ ⟨i_x, i_y, i_z⟩))).x), i6 ((unit3 (mir3 ⟨i_x, i_y, i_z⟩ (fac3 ⟨n_x, n_y, n_z⟩ ⟨i_x, i_y, i_z⟩))).y), i6 ((unit3 (mir3 ⟨i_x, i_y, i_z⟩ (fac3 ⟨n_x, n_y, n_z⟩ ⟨i_x, i_y, i_z⟩))).z)], AV.bool false (okU (mir3 ⟨i_x, i_y, i_z⟩ (fac3 ⟨n_x, n_y, n_z⟩ ⟨i_x, i_y, i_z⟩)).x (mir3 ⟨i_x, i_y, i_z⟩ (fac3 ⟨n_x, n_y, n_z⟩ ⟨i_x, i_y, i_z⟩)).y (mir3 ⟨i_x, i_y, i_z⟩ (fac3 ⟨n_x, n_y, n_z⟩ ⟨i_x, i_y, i_z⟩)).z)])))))))) (Tr.node (m_k == 3) (Tr.node (decide (m_x ≥ 16384)) (Tr.node (decide (m_x ≤ 65536)) (Tr.node (decide (mm true (mm true n_x n_y) n_z > 16385)) (Tr.leaf (AV.tuple [AV.agg [i6 0, i6 0, i6 0], AV.bool false false])) (Tr.node (decide (mm false (mm false n_x n_y) n_z < -16385)) (Tr.leaf (AV.tuple [AV.agg [i6 0, i6 0, i6 0], AV.bool false false])) (Tr.node (decide (mm true (mm true i_x i_y) i_z > 16385)) (Tr.leaf (AV.tuple [AV.agg [i6 0, i6 0, i6 0], AV.bool false false])) (Tr.node (decide (mm false (mm false i_x i_y) i_z < -16385)) (Tr.leaf (AV.tuple [AV.agg [i6 0, i6 0, i6 0], AV.bool false false])) (Tr.node (n_x == 0 && (n_y == 0 && (n_z == 0 && true))) (Tr.leaf (AV.tuple [AV.agg [i6 0, i6 0, i6 0], AV.bool false false])) (Tr.node (i_x == 0 && (i_y == 0 && (i_z == 0 && true))) (Tr.leaf (AV.tuple [AV.agg [i6 0, i6 0, i6 0], AV.bool false false])) (Tr.node (decide (dotN n_x n_y n_z i_x i_y i_z > 0)) (Tr.node (decide (md w 65536 ≥ backN (cosN n_x n_y n_z i_x i_y i_z) m_x)) (Tr.node (bendIs i_x i_y i_z n_x n_y n_z m_x 16384) (Tr.leaf (AV.tuple [AV.agg [i6 (bendU (bndC i_x n_x i_x i_y i_z n_x n_y n_z m_x 16384) i_x i_y i_z n_x n_y n_z m_x 16384), i6 (bendU (bndC i_y n_y i_x i_y i_z n_x n_y n_z m_x 16384) i_x i_y i_z n_x n_y n_z m_x 16384), i6 (bendU (bndC i_z n_z i_x i_y i_z n_x n_y n_z m_x 16384) i_x i_y i_z n_x n_y n_z m_x 16384)], AV.bool false true])) (Tr.leaf (AV.tuple [AV.agg [i6 ((unit3 (mir3 ⟨i_x, i_y, i_z⟩ (fac3 ⟨n_x, n_y, n_z⟩ ⟨i_x, i_y, i_z⟩))).x), i6 ((unit3 (mir3 ⟨i_x, i_y, i_z⟩ (fac3 ⟨n_x, n_y, n_z⟩ ⟨i_x, i_y, i_z⟩))).y), i6 ((unit3 (mir3 ⟨i_x, i_y, i_z⟩ (fac3 ⟨n_x, n_y, n_z⟩ ⟨i_x, i_y, i_z⟩))).z)], AV.bool false (okU (mir3 ⟨i_x, i_y, i_z⟩ (fac3 ⟨n_x, n_y, n_z⟩ ⟨i_x, i_y, i_z⟩)).x (mir3 ⟨i_x, i_y, i_z⟩ (fac3 ⟨n_x, n_y, n_z⟩ ⟨i_x, i_y, i_z⟩)).y (mir3 ⟨i_x, i_y, i_z⟩ (fac3 ⟨n_x, n_y, n_z⟩ ⟨i_x, i_y, i_z⟩)).z)]))) (Tr.leaf (AV.tuple [AV.agg [i6 ((unit3 (mir3 ⟨i_x, i_y, i_z⟩ (fac3 ⟨n_x, n_y, n_z⟩ ⟨i_x, i_y, i_z⟩))).x), i6 ((unit3 (mir3 ⟨i_x, i_y, i_z⟩ (fac3 ⟨n_x, n_y, n_z⟩ ⟨i_x, i_y, i_z⟩))).y), i6 ((unit3 (mir3 ⟨i_x, i_y, i_z⟩ (fac3 ⟨n_x, n_y, n_z⟩ ⟨i_x, i_y, i_z⟩))).z)], AV.bool false (okU (mir3 ⟨i_x, i_y, i_z⟩ (fac3 ⟨n_x, n_y, n_z⟩ ⟨i_x, i_y, i_z⟩)).x (mir3 ⟨i_x, i_y, i_z⟩ (fac3 ⟨n_x, n_y, n_z⟩ ⟨i_x, i_y, i_z⟩)).y (mir3 ⟨i_x, i_y, i_z⟩ (fac3 ⟨n_x, n_y, n_z⟩ ⟨i_x, i_y, i_z⟩)).z)]))) (Tr.node (decide (md w 65536 ≥ backN (cosN n_x n_y n_z i_x i_y i_z) m_x)) (Tr.node (bendIs i_x i_y i_z n_x n_y n_z 16384 m_x) (Tr.leaf (AV.tuple [AV.agg [i6 (bendU (bndC i_x n_x i_x i_y i_z n_x n_y n_z 16384 m_x) i_x i_y i_z n_x n_y n_z 16384 m_x), i6 (bendU (bndC i_y n_y i_x i_y i_z n_x n_y n_z 16384 m_x) i_x i_y i_z n_x n_y n_z 16384 m_x), i6 (bendU (bndC i_z n_z i_x i_y i_z n_x n_y n_z 16384 m_x) i_x i_y i_z n_x n_y n_z 16384 m_x)], AV.bool false true])) (Tr.leaf (AV.tuple [AV.agg [i6 ((unit3 (mir3 ⟨i_x, i_y, i_z⟩ (fac3 ⟨n_x, n_y, n_z⟩ ⟨i_x, i_y, i_z⟩))).x), i6 ((unit3 (mir3 ⟨i_x, i_y, i_z⟩ (fac3 ⟨n_x, n_y, n_z⟩ ⟨i_x, i_y, i_z⟩))).y), i6 ((unit3 (mir3 ⟨i_x, i_y, i_z⟩ (fac3 ⟨n_x, n_y, n_z⟩ ⟨i_x, i_y, i_z⟩))).z)], AV.bool false (okU (mir3 ⟨i_x, i_y, i_z⟩ (fac3 ⟨n_x, n_y, n_z⟩ ⟨i_x, i_y, i_z⟩)).x (mir3 ⟨i_x, i_y, i_z⟩ (fac3 ⟨n_x, n_y, n_z⟩ ⟨i_x, i_y, i_z⟩)).y (mir3 ⟨i_x, i_y, i_z⟩ (fac3 ⟨n_x, n_y, n_z⟩ ⟨i_x, i_y, i_z⟩)).z)]))) (Tr.leaf (AV.tuple [AV.agg [i6 ((unit3 (mir3 ⟨i_x, i_y, i_z⟩ (fac3 ⟨n_x, n_y, n_z⟩ ⟨i_x, i_y, i_z⟩))).x), i6 ((unit3 (mir3 ⟨i_x, i_y, i_z⟩ (fac3 ⟨n_x, n_y, n_z⟩ ⟨i_x, i_y, i_z⟩))).y), i6 ((unit3 (mir3 ⟨i_x, i_y, i_z⟩ (fac3 ⟨n_x, n_y, n_z⟩ ⟨i_x, i_y, i_z⟩))).z)], AV.bool false (okU (mir3 ⟨i_x, i_y, i_z⟩ (fac3 ⟨n_x, n_y, n_z⟩ ⟨i_x, i_y, i_z⟩)).x (mir3 ⟨i_x, i_y, i_z⟩ (fac3 ⟨n_x, n_y, n_z⟩ ⟨i_x, i_y, i_z⟩)).y (mir3 ⟨i_x, i_y, i_z⟩ (fac3 ⟨n_x, n_y, n_z⟩ ⟨i_x, i_y, i_z⟩)).z)])))))))))) (Tr.node (m_k == 4) (Tr.node (decide (m_x ≥ 1)) (Tr.node (decide (m_x ≤ 64)) (Tr.node (decide (mm true (mm true n_x n_y) n_z > 16385)) (Tr.leaf (AV.tuple [AV.agg [i6 0, i6 0, i6 0], AV.bool false false])) (Tr.node (decide (mm false (mm false n_x n_y) n_z < -16385)) (Tr.leaf (AV.tuple [AV.agg [i6 0, i6 0, i6 0], AV.bool false false])) (Tr.node (decide (mm true (mm true i_x i_y) i_z > 16385)) (Tr.leaf (AV.tuple [AV.agg [i6 0, i6 0, i6 0], AV.bool false false])) (Tr.node (decide (mm false (mm false i_x i_y) i_z < -16385)) (Tr.leaf (AV.tuple [AV.agg [i6 0, i6 0, i6 0], AV.bool false false])) (Tr.node (n_x == 0 && (n_y == 0 && (n_z == 0 && true))) (Tr.leaf (AV.tuple [AV.agg [i6 0, i6 0, i6 0], AV.bool false false])) (Tr.node (i_x == 0 && (i_y == 0 && (i_z == 0 && true))) (Tr.leaf (AV.tuple [AV.agg [i6 0, i6 0, i6 0], AV.bool false false])) (Tr.node (!okU (mir3 ⟨i_x, i_y, i_z⟩ (fac3 ⟨n_x, n_y, n_z⟩ ⟨i_x, i_y, i_z⟩)).x (mir3 ⟨i_x, i_y, i_z⟩ (fac3 ⟨n_x, n_y, n_z⟩ ⟨i_x, i_y, i_z⟩)).y (mir3 ⟨i_x, i_y, i_z⟩ (fac3 ⟨n_x, n_y, n_z⟩ ⟨i_x, i_y, i_z⟩)).z) (Tr.leaf (AV.tuple [AV.agg [i6 0, i6 0, i6 0], AV.bool false false])) (Tr.node (decide (m_x = 0)) Tr.bad (Tr.node (decide (dotN (facC n_x n_x n_y n_z i_x i_y i_z) (facC n_y n_x n_y n_z i_x i_y i_z) (facC n_z n_x n_y n_z i_x i_y i_z) (cone3 (unit3 (mir3 ⟨i_x, i_y, i_z⟩ (fac3 ⟨n_x, n_y, n_z⟩ ⟨i_x, i_y, i_z⟩))) (IntKind.i64.wrap (16384 - IntKind.i64.wrap (Int.tdiv 16384 m_x))) u a).x (cone3 (unit3 (mir3 ⟨i_x, i_y, i_z⟩ (fac3 ⟨n_x, n_y, n_z⟩ ⟨i_x, i_y, i_z⟩))) (IntKind.i64.wrap (16384 - IntKind.i64.wrap (Int.tdiv 16384 m_x))) u a).y (cone3 (unit3 (mir3 ⟨i_x, i_y, i_z⟩ (fac3 ⟨n_x, n_y, n_z⟩ ⟨i_x, i_y, i_z⟩))) (IntKind.i64.wrap (16384 - IntKind.i64.wrap (Int.tdiv 16384 m_x))) u a).z ≤ 0)) (Tr.leaf (AV.tuple [AV.agg [i6 0, i6 0, i6 0], AV.bool false false])) (Tr.leaf (AV.tuple [AV.agg [i6 (cone3 (unit3 (mir3 ⟨i_x, i_y, i_z⟩ (fac3 ⟨n_x, n_y, n_z⟩ ⟨i_x, i_y, i_z⟩))) (IntKind.i64.wrap (16384 - IntKind.i64.wrap (Int.tdiv 16384 m_x))) u a).x, i6 (cone3 (unit3 (mir3 ⟨i_x, i_y, i_z⟩ (fac3 ⟨n_x, n_y, n_z⟩ ⟨i_x, i_y, i_z⟩))) (IntKind.i64.wrap (16384 - IntKind.i64.wrap (Int.tdiv 16384 m_x))) u a).y, i6 (cone3 (unit3 (mir3 ⟨i_x, i_y, i_z⟩ (fac3 ⟨n_x, n_y, n_z⟩ ⟨i_x, i_y, i_z⟩))) (IntKind.i64.wrap (16384 - IntKind.i64.wrap (Int.tdiv 16384 m_x))) u a).z], AV.bool false true]))))))))))) (Tr.leaf (AV.tuple [AV.agg [i6 0, i6 0, i6 0], AV.bool false false]))) (Tr.leaf (AV.tuple [AV.agg [i6 0, i6 0, i6 0], AV.bool false false]))) (Tr.leaf (AV.tuple [AV.agg [i6 0, i6 0, i6 0], AV.bool false false])))) (Tr.node (m_k == 4) (Tr.node (decide (m_x ≥ 1)) (Tr.node (decide (m_x ≤ 64)) (Tr.node (decide (mm true (mm true n_x n_y) n_z > 16385)) (Tr.leaf (AV.tuple [AV.agg [i6 0, i6 0, i6 0], AV.bool false false])) (Tr.node (decide (mm false (mm false n_x n_y) n_z < -16385)) (Tr.leaf (AV.tuple [AV.agg [i6 0, i6 0, i6 0], AV.bool false false])) (Tr.node (decide (mm true (mm true i_x i_y) i_z > 16385)) (Tr.leaf (AV.tuple [AV.agg [i6 0, i6 0, i6 0], AV.bool false false])) (Tr.node (decide (mm false (mm false i_x i_y) i_z < -16385)) (Tr.leaf (AV.tuple [AV.agg [i6 0, i6 0, i6 0], AV.bool false false])) (Tr.node (n_x == 0 && (n_y == 0 && (n_z == 0 && true))) (Tr.leaf (AV.tuple [AV.agg [i6 0, i6 0, i6 0], AV.bool false false])) (Tr.node (i_x == 0 && (i_y == 0 && (i_z == 0 && true))) (Tr.leaf (AV.tuple [AV.agg [i6 0, i6 0, i6 0], AV.bool false false])) (Tr.node (!okU (mir3 ⟨i_x, i_y, i_z⟩ (fac3 ⟨n_x, n_y, n_z⟩ ⟨i_x, i_y, i_z⟩)).x (mir3 ⟨i_x, i_y, i_z⟩ (fac3 ⟨n_x, n_y, n_z⟩ ⟨i_x, i_y, i_z⟩)).y (mir3 ⟨i_x, i_y, i_z⟩ (fac3 ⟨n_x, n_y, n_z⟩ ⟨i_x, i_y, i_z⟩)).z) (Tr.leaf (AV.tuple [AV.agg [i6 0, i6 0, i6 0], AV.bool false false])) (Tr.node (decide (m_x = 0)) Tr.bad (Tr.node (decide (dotN (facC n_x n_x n_y n_z i_x i_y i_z) (facC n_y n_x n_y n_z i_x i_y i_z) (facC n_z n_x n_y n_z i_x i_y i_z) (cone3 (unit3 (mir3 ⟨i_x, i_y, i_z⟩ (fac3 ⟨n_x, n_y, n_z⟩ ⟨i_x, i_y, i_z⟩))) (IntKind.i64.wrap (16384 - IntKind.i64.wrap (Int.tdiv 16384 m_x))) u a).x (cone3 (unit3 (mir3 ⟨i_x, i_y, i_z⟩ (fac3 ⟨n_x, n_y, n_z⟩ ⟨i_x, i_y, i_z⟩))) (IntKind.i64.wrap (16384 - IntKind.i64.wrap (Int.tdiv 16384 m_x))) u a).y (cone3 (unit3 (mir3 ⟨i_x, i_y, i_z⟩ (fac3 ⟨n_x, n_y, n_z⟩ ⟨i_x, i_y, i_z⟩))) (IntKind.i64.wrap (16384 - IntKind.i64.wrap (Int.tdiv 16384 m_x))) u a).z ≤ 0)) (Tr.leaf (AV.tuple [AV.agg [i6 0, i6 0, i6 0], AV.bool false false])) (Tr.leaf (AV.tuple [AV.agg [i6 (cone3 (unit3 (mir3 ⟨i_x, i_y, i_z⟩ (fac3 ⟨n_x, n_y, n_z⟩ ⟨i_x, i_y, i_z⟩))) (IntKind.i64.wrap (16384 - IntKind.i64.wrap (Int.tdiv 16384 m_x))) u a).x, i6 (cone3 (unit3 (mir3 ⟨i_x, i_y, i_z⟩ (fac3 ⟨n_x, n_y, n_z⟩ ⟨i_x, i_y, i_z⟩))) (IntKind.i64.wrap (16384 - IntKind.i64.wrap (Int.tdiv 16384 m_x))) u a).y, i6 (cone3 (unit3 (mir3 ⟨i_x, i_y, i_z⟩ (fac3 ⟨n_x, n_y, n_z⟩ ⟨i_x, i_y, i_z⟩))) (IntKind.i64.wrap (16384 - IntKind.i64.wrap (Int.tdiv 16384 m_x))) u a).z], AV.bool false true]))))))))))) (Tr.leaf (AV.tuple [AV.agg [i6 0, i6 0, i6 0], AV.bool false false]))) (Tr.leaf (AV.tuple [AV.agg [i6 0, i6 0, i6 0], AV.bool false false]))) (Tr.leaf (AV.tuple [AV.agg [i6 0, i6 0, i6 0], AV.bool false false])))) (Tr.node (m_k == 4) (Tr.node (decide (m_x ≥ 1)) (Tr.node (decide (m_x ≤ 64)) (Tr.node (decide (mm true (mm true n_x n_y) n_z > 16385)) (Tr.leaf (AV.tuple [AV.agg [i6 0, i6 0, i6 0], AV.bool false false])) (Tr.node (decide (mm false (mm false n_x n_y) n_z < -16385)) (Tr.leaf (AV.tuple [AV.agg [i6 0, i6 0, i6 0], AV.bool false false])) (Tr.node (decide (mm true (mm true i_x i_y) i_z > 16385)) (Tr.leaf (AV.tuple [AV.agg [i6 0, i6 0, i6 0], AV.bool false false])) (Tr.node (decide (mm false (mm false i_x i_y) i_z < -16385)) (Tr.leaf (AV.tuple [AV.agg [i6 0, i6 0, i6 0], AV.bool false false])) (Tr.node (n_x == 0 && (n_y == 0 && (n_z == 0 && true))) (Tr.leaf (AV.tuple [AV.agg [i6 0, i6 0, i6 0], AV.bool false false])) (Tr.node (i_x == 0 && (i_y == 0 && (i_z == 0 && true))) (Tr.leaf (AV.tuple [AV.agg [i6 0, i6 0, i6 0], AV.bool false false])) (Tr.node (!okU (mir3 ⟨i_x, i_y, i_z⟩ (fac3 ⟨n_x, n_y, n_z⟩ ⟨i_x, i_y, i_z⟩)).x (mir3 ⟨i_x, i_y, i_z⟩ (fac3 ⟨n_x, n_y, n_z⟩ ⟨i_x, i_y, i_z⟩)).y (mir3 ⟨i_x, i_y, i_z⟩ (fac3 ⟨n_x, n_y, n_z⟩ ⟨i_x, i_y, i_z⟩)).z) (Tr.leaf (AV.tuple [AV.agg [i6 0, i6 0, i6 0], AV.bool false false])) (Tr.node (decide (m_x = 0)) Tr.bad (Tr.node (decide (dotN (facC n_x n_x n_y n_z i_x i_y i_z) (facC n_y n_x n_y n_z i_x i_y i_z) (facC n_z n_x n_y n_z i_x i_y i_z) (cone3 (unit3 (mir3 ⟨i_x, i_y, i_z⟩ (fac3 ⟨n_x, n_y, n_z⟩ ⟨i_x, i_y, i_z⟩))) (IntKind.i64.wrap (16384 - IntKind.i64.wrap (Int.tdiv 16384 m_x))) u a).x (cone3 (unit3 (mir3 ⟨i_x, i_y, i_z⟩ (fac3 ⟨n_x, n_y, n_z⟩ ⟨i_x, i_y, i_z⟩))) (IntKind.i64.wrap (16384 - IntKind.i64.wrap (Int.tdiv 16384 m_x))) u a).y (cone3 (unit3 (mir3 ⟨i_x, i_y, i_z⟩ (fac3 ⟨n_x, n_y, n_z⟩ ⟨i_x, i_y, i_z⟩))) (IntKind.i64.wrap (16384 - IntKind.i64.wrap (Int.tdiv 16384 m_x))) u a).z ≤ 0)) (Tr.leaf (AV.tuple [AV.agg [i6 0, i6 0, i6 0], AV.bool false false])) (Tr.leaf (AV.tuple [AV.agg [i6 (cone3 (unit3 (mir3 ⟨i_x, i_y, i_z⟩ (fac3 ⟨n_x, n_y, n_z⟩ ⟨i_x, i_y, i_z⟩))) (IntKind.i64.wrap (16384 - IntKind.i64.wrap (Int.tdiv 16384 m_x))) u a).x, i6 (cone3 (unit3 (mir3 ⟨i_x, i_y, i_z⟩ (fac3 ⟨n_x, n_y, n_z⟩ ⟨i_x, i_y, i_z⟩))) (IntKind.i64.wrap (16384 - IntKind.i64.wrap (Int.tdiv 16384 m_x))) u a).y, i6 (cone3 (unit3 (mir3 ⟨i_x, i_y, i_z⟩ (fac3 ⟨n_x, n_y, n_z⟩ ⟨i_x, i_y, i_z⟩))) (IntKind.i64.wrap (16384 - IntKind.i64.wrap (Int.tdiv 16384 m_x))) u a).z], AV.bool false true]))))))))))) (Tr.leaf (AV.tuple [AV.agg [i6 0, i6 0, i6 0], AV.bool false false]))) (Tr.leaf (AV.tuple [AV.agg [i6 0, i6 0, i6 0], AV.bool false false]))) (Tr.leaf (AV.tuple [AV.agg [i6 0, i6 0, i6 0], AV.bool false false]))))) (Tr.node (m_k == 3) (Tr.node (decide (m_x ≥ 16384)) (Tr.node (decide (m_x ≤ 65536)) (Tr.node (decide (mm true (mm true n_x n_y) n_z > 16385)) (Tr.leaf (AV.tuple [AV.agg [i6 0, i6 0, i6 0], AV.bool false false])) (Tr.node (decide (mm false (mm false n_x n_y) n_z < -16385)) (Tr.leaf (AV.tuple [AV.agg [i6 0, i6 0, i6 0], AV.bool false false])) (Tr.node (decide (mm true (mm true i_x i_y) i_z > 16385)) (Tr.leaf (AV.tuple [AV.agg [i6 0, i6 0, i6 0], AV.bool false false])) (Tr.node (decide (mm false (mm false i_x i_y) i_z < -16385)) (Tr.leaf (AV.tuple [AV.agg [i6 0, i6 0, i6 0], AV.bool false false])) (Tr.node (n_x == 0 && (n_y == 0 && (n_z == 0 && true))) (Tr.leaf (AV.tuple [AV.agg [i6 0, i6 0, i6 0], AV.bool false false])) (Tr.node (i_x == 0 && (i_y == 0 && (i_z == 0 && true))) (Tr.leaf (AV.tuple [AV.agg [i6 0, i6 0, i6 0], AV.bool false false])) (Tr.node (decide (dotN n_x n_y n_z i_x i_y i_z > 0)) (Tr.node (decide (md w 65536 ≥ backN (cosN n_x n_y n_z i_x i_y i_z) m_x)) (Tr.node (bendIs i_x i_y i_z n_x n_y n_z m_x 16384) (Tr.leaf (AV.tuple [AV.agg [i6 (bendU (bndC i_x n_x i_x i_y i_z n_x n_y n_z m_x 16384) i_x i_y i_z n_x n_y n_z m_x 16384), i6 (bendU (bndC i_y n_y i_x i_y i_z n_x n_y n_z m_x 16384) i_x i_y i_z n_x n_y n_z m_x 16384), i6 (bendU (bndC i_z n_z i_x i_y i_z n_x n_y n_z m_x 16384) i_x i_y i_z n_x n_y n_z m_x 16384)], AV.bool false true])) (Tr.leaf (AV.tuple [AV.agg [i6 ((unit3 (mir3 ⟨i_x, i_y, i_z⟩ (fac3 ⟨n_x, n_y, n_z⟩ ⟨i_x, i_y, i_z⟩))).x), i6 ((unit3 (mir3 ⟨i_x, i_y, i_z⟩ (fac3 ⟨n_x, n_y, n_z⟩ ⟨i_x, i_y, i_z⟩))).y), i6 ((unit3 (mir3 ⟨i_x, i_y, i_z⟩ (fac3 ⟨n_x, n_y, n_z⟩ ⟨i_x, i_y, i_z⟩))).z)], AV.bool false (okU (mir3 ⟨i_x, i_y, i_z⟩ (fac3 ⟨n_x, n_y, n_z⟩ ⟨i_x, i_y, i_z⟩)).x (mir3 ⟨i_x, i_y, i_z⟩ (fac3 ⟨n_x, n_y, n_z⟩ ⟨i_x, i_y, i_z⟩)).y (mir3 ⟨i_x, i_y, i_z⟩ (fac3 ⟨n_x, n_y, n_z⟩ ⟨i_x, i_y, i_z⟩)).z)]))) (Tr.leaf (AV.tuple [AV.agg [i6 ((unit3 (mir3 ⟨i_x, i_y, i_z⟩ (fac3 ⟨n_x, n_y, n_z⟩ ⟨i_x, i_y, i_z⟩))).x), i6 ((unit3 (mir3 ⟨i_x, i_y, i_z⟩ (fac3 ⟨n_x, n_y, n_z⟩ ⟨i_x, i_y, i_z⟩))).y), i6 ((unit3 (mir3 ⟨i_x, i_y, i_z⟩ (fac3 ⟨n_x, n_y, n_z⟩ ⟨i_x, i_y, i_z⟩))).z)], AV.bool false (okU (mir3 ⟨i_x, i_y, i_z⟩ (fac3 ⟨n_x, n_y, n_z⟩ ⟨i_x, i_y, i_z⟩)).x (mir3 ⟨i_x, i_y, i_z⟩ (fac3 ⟨n_x, n_y, n_z⟩ ⟨i_x, i_y, i_z⟩)).y (mir3 ⟨i_x, i_y, i_z⟩ (fac3 ⟨n_x, n_y, n_z⟩ ⟨i_x, i_y, i_z⟩)).z)]))) (Tr.node (decide (md w 65536 ≥ backN (cosN n_x n_y n_z i_x i_y i_z) m_x)) (Tr.node (bendIs i_x i_y i_z n_x n_y n_z 16384 m_x) (Tr.leaf (AV.tuple [AV.agg [i6 (bendU (bndC i_x n_x i_x i_y i_z n_x n_y n_z 16384 m_x) i_x i_y i_z n_x n_y n_z 16384 m_x), i6 (bendU (bndC i_y n_y i_x i_y i_z n_x n_y n_z 16384 m_x) i_x i_y i_z n_x n_y n_z 16384 m_x), i6 (bendU (bndC i_z n_z i_x i_y i_z n_x n_y n_z 16384 m_x) i_x i_y i_z n_x n_y n_z 16384 m_x)], AV.bool false true])) (Tr.leaf (AV.tuple [AV.agg [i6 ((unit3 (mir3 ⟨i_x, i_y, i_z⟩ (fac3 ⟨n_x, n_y, n_z⟩ ⟨i_x, i_y, i_z⟩))).x), i6 ((unit3 (mir3 ⟨i_x, i_y, i_z⟩ (fac3 ⟨n_x, n_y, n_z⟩ ⟨i_x, i_y, i_z⟩))).y), i6 ((unit3 (mir3 ⟨i_x, i_y, i_z⟩ (fac3 ⟨n_x, n_y, n_z⟩ ⟨i_x, i_y, i_z⟩))).z)], AV.bool false (okU (mir3 ⟨i_x, i_y, i_z⟩ (fac3 ⟨n_x, n_y, n_z⟩ ⟨i_x, i_y, i_z⟩)).x (mir3 ⟨i_x, i_y, i_z⟩ (fac3 ⟨n_x, n_y, n_z⟩ ⟨i_x, i_y, i_z⟩)).y (mir3 ⟨i_x, i_y, i_z⟩ (fac3 ⟨n_x, n_y, n_z⟩ ⟨i_x, i_y, i_z⟩)).z)]))) (Tr.leaf (AV.tuple [AV.agg [i6 ((unit3 (mir3 ⟨i_x, i_y, i_z⟩ (fac3 ⟨n_x, n_y, n_z⟩ ⟨i_x, i_y, i_z⟩))).x), i6 ((unit3 (mir3 ⟨i_x, i_y, i_z⟩ (fac3 ⟨n_x, n_y, n_z⟩ ⟨i_x, i_y, i_z⟩))).y), i6 ((unit3 (mir3 ⟨i_x, i_y, i_z⟩ (fac3 ⟨n_x, n_y, n_z⟩ ⟨i_x, i_y, i_z⟩))).z)], AV.bool false (okU (mir3 ⟨i_x, i_y, i_z⟩ (fac3 ⟨n_x, n_y, n_z⟩ ⟨i_x, i_y, i_z⟩)).x (mir3 ⟨i_x, i_y, i_z⟩ (fac3 ⟨n_x, n_y, n_z⟩ ⟨i_x, i_y, i_z⟩)).y (mir3 ⟨i_x, i_y, i_z⟩ (fac3 ⟨n_x, n_y, n_z⟩ ⟨i_x, i_y, i_z⟩)).z)])))))))))) (Tr.node (m_k == 4) (Tr.node (decide (m_x ≥ 1)) (Tr.node (decide (m_x ≤ 64)) (Tr.node (decide (mm true (mm true n_x n_y) n_z > 16385)) (Tr.leaf (AV.tuple [AV.agg [i6 0, i6 0, i6 0], AV.bool false false])) (Tr.node (decide (mm false (mm false n_x n_y) n_z < -16385)) (Tr.leaf (AV.tuple [AV.agg [i6 0, i6 0, i6 0], AV.bool false false])) (Tr.node (decide (mm true (mm true i_x i_y) i_z > 16385)) (Tr.leaf (AV.tuple [AV.agg [i6 0, i6 0, i6 0], AV.bool false false])) (Tr.node (decide (mm false (mm false i_x i_y) i_z < -16385)) (Tr.leaf (AV.tuple [AV.agg [i6 0, i6 0, i6 0], AV.bool false false])) (Tr.node (n_x == 0 && (n_y == 0 && (n_z == 0 && true))) (Tr.leaf (AV.tuple [AV.agg [i6 0, i6 0, i6 0], AV.bool false false])) (Tr.node (i_x == 0 && (i_y == 0 && (i_z == 0 && true))) (Tr.leaf (AV.tuple [AV.agg [i6 0, i6 0, i6 0], AV.bool false false])) (Tr.node (!okU (mir3 ⟨i_x, i_y, i_z⟩ (fac3 ⟨n_x, n_y, n_z⟩ ⟨i_x, i_y, i_z⟩)).x (mir3 ⟨i_x, i_y, i_z⟩ (fac3 ⟨n_x, n_y, n_z⟩ ⟨i_x, i_y, i_z⟩)).y (mir3 ⟨i_x, i_y, i_z⟩ (fac3 ⟨n_x, n_y, n_z⟩ ⟨i_x, i_y, i_z⟩)).z) (Tr.leaf (AV.tuple [AV.agg [i6 0, i6 0, i6 0], AV.bool false false])) (Tr.node (decide (m_x = 0)) Tr.bad (Tr.node (decide (dotN (facC n_x n_x n_y n_z i_x i_y i_z) (facC n_y n_x n_y n_z i_x i_y i_z) (facC n_z n_x n_y n_z i_x i_y i_z) (cone3 (unit3 (mir3 ⟨i_x, i_y, i_z⟩ (fac3 ⟨n_x, n_y, n_z⟩ ⟨i_x, i_y, i_z⟩))) (IntKind.i64.wrap (16384 - IntKind.i64.wrap (Int.tdiv 16384 m_x))) u a).x (cone3 (unit3 (mir3 ⟨i_x, i_y, i_z⟩ (fac3 ⟨n_x, n_y, n_z⟩ ⟨i_x, i_y, i_z⟩))) (IntKind.i64.wrap (16384 - IntKind.i64.wrap (Int.tdiv 16384 m_x))) u a).y (cone3 (unit3 (mir3 ⟨i_x, i_y, i_z⟩ (fac3 ⟨n_x, n_y, n_z⟩ ⟨i_x, i_y, i_z⟩))) (IntKind.i64.wrap (16384 - IntKind.i64.wrap (Int.tdiv 16384 m_x))) u a).z ≤ 0)) (Tr.leaf (AV.tuple [AV.agg [i6 0, i6 0, i6 0], AV.bool false false])) (Tr.leaf (AV.tuple [AV.agg [i6 (cone3 (unit3 (mir3 ⟨i_x, i_y, i_z⟩ (fac3 ⟨n_x, n_y, n_z⟩ ⟨i_x, i_y, i_z⟩))) (IntKind.i64.wrap (16384 - IntKind.i64.wrap (Int.tdiv 16384 m_x))) u a).x, i6 (cone3 (unit3 (mir3 ⟨i_x, i_y, i_z⟩ (fac3 ⟨n_x, n_y, n_z⟩ ⟨i_x, i_y, i_z⟩))) (IntKind.i64.wrap (16384 - IntKind.i64.wrap (Int.tdiv 16384 m_x))) u a).y, i6 (cone3 (unit3 (mir3 ⟨i_x, i_y, i_z⟩ (fac3 ⟨n_x, n_y, n_z⟩ ⟨i_x, i_y, i_z⟩))) (IntKind.i64.wrap (16384 - IntKind.i64.wrap (Int.tdiv 16384 m_x))) u a).z], AV.bool false true]))))))))))) (Tr.leaf (AV.tuple [AV.agg [i6 0, i6 0, i6 0], AV.bool false false]))) (Tr.leaf (AV.tuple [AV.agg [i6 0, i6 0, i6 0], AV.bool false false]))) (Tr.leaf (AV.tuple [AV.agg [i6 0, i6 0, i6 0], AV.bool false false])))) (Tr.node (m_k == 4) (Tr.node (decide (m_x ≥ 1)) (Tr.node (decide (m_x ≤ 64)) (Tr.node (decide (mm true (mm true n_x n_y) n_z > 16385)) (Tr.leaf (AV.tuple [AV.agg [i6 0, i6 0, i6 0], AV.bool false false])) (Tr.node (decide (mm false (mm false n_x n_y) n_z < -16385)) (Tr.leaf (AV.tuple [AV.agg [i6 0, i6 0, i6 0], AV.bool false false])) (Tr.node (decide (mm true (mm true i_x i_y) i_z > 16385)) (Tr.leaf (AV.tuple [AV.agg [i6 0, i6 0, i6 0], AV.bool false false])) (Tr.node (decide (mm false (mm false i_x i_y) i_z < -16385)) (Tr.leaf (AV.tuple [AV.agg [i6 0, i6 0, i6 0], AV.bool false false])) (Tr.node (n_x == 0 && (n_y == 0 && (n_z == 0 && true))) (Tr.leaf (AV.tuple [AV.agg [i6 0, i6 0, i6 0], AV.bool false false])) (Tr.node (i_x == 0 && (i_y == 0 && (i_z == 0 && true))) (Tr.leaf (AV.tuple [AV.agg [i6 0, i6 0, i6 0], AV.bool false false])) (Tr.node (!okU (mir3 ⟨i_x, i_y, i_z⟩ (fac3 ⟨n_x, n_y, n_z⟩ ⟨i_x, i_y, i_z⟩)).x (mir3 ⟨i_x, i_y, i_z⟩ (fac3 ⟨n_x, n_y, n_z⟩ ⟨i_x, i_y, i_z⟩)).y (mir3 ⟨i_x, i_y, i_z⟩ (fac3 ⟨n_x, n_y, n_z⟩ ⟨i_x, i_y, i_z⟩)).z) (Tr.leaf (AV.tuple [AV.agg [i6 0, i6 0, i6 0], AV.bool false false])) (Tr.node (decide (m_x = 0)) Tr.bad (Tr.node (decide (dotN (facC n_x n_x n_y n_z i_x i_y i_z) (facC n_y n_x n_y n_z i_x i_y i_z) (facC n_z n_x n_y n_z i_x i_y i_z) (cone3 (unit3 (mir3 ⟨i_x, i_y, i_z⟩ (fac3 ⟨n_x, n_y, n_z⟩ ⟨i_x, i_y, i_z⟩))) (IntKind.i64.wrap (16384 - IntKind.i64.wrap (Int.tdiv 16384 m_x))) u a).x (cone3 (unit3 (mir3 ⟨i_x, i_y, i_z⟩ (fac3 ⟨n_x, n_y, n_z⟩ ⟨i_x, i_y, i_z⟩))) (IntKind.i64.wrap (16384 - IntKind.i64.wrap (Int.tdiv 16384 m_x))) u a).y (cone3 (unit3 (mir3 ⟨i_x, i_y, i_z⟩ (fac3 ⟨n_x, n_y, n_z⟩ ⟨i_x, i_y, i_z⟩))) (IntKind.i64.wrap (16384 - IntKind.i64.wrap (Int.tdiv 16384 m_x))) u a).z ≤ 0)) (Tr.leaf (AV.tuple [AV.agg [i6 0, i6 0, i6 0], AV.bool false false])) (Tr.leaf (AV.tuple [AV.agg [i6 (cone3 (unit3 (mir3 ⟨i_x, i_y, i_z⟩ (fac3 ⟨n_x, n_y, n_z⟩ ⟨i_x, i_y, i_z⟩))) (IntKind.i64.wrap (16384 - IntKind.i64.wrap (Int.tdiv 16384 m_x))) u a).x, i6 (cone3 (unit3 (mir3 ⟨i_x, i_y, i_z⟩ (fac3 ⟨n_x, n_y, n_z⟩ ⟨i_x, i_y, i_z⟩))) (IntKind.i64.wrap (16384 - IntKind.i64.wrap (Int.tdiv 16384 m_x))) u a).y, i6 (cone3 (unit3 (mir3 ⟨i_x, i_y, i_z⟩ (fac3 ⟨n_x, n_y, n_z⟩ ⟨i_x, i_y, i_z⟩))) (IntKind.i64.wrap (16384 - IntKind.i64.wrap (Int.tdiv 16384 m_x))) u a).z], AV.bool false true]))))))))))) (Tr.leaf (AV.tuple [AV.agg [i6 0, i6 0, i6 0], AV.bool false false]))) (Tr.leaf (AV.tuple [AV.agg [i6 0, i6 0, i6 0], AV.bool false false]))) (Tr.leaf (AV.tuple [AV.agg [i6 0, i6 0, i6 0], AV.bool false false])))) (Tr.node (m_k == 4) (Tr.node (decide (m_x ≥ 1)) (Tr.node (decide (m_x ≤ 64)) (Tr.node (decide (mm true (mm true n_x n_y) n_z > 16385)) (Tr.leaf (AV.tuple [AV.agg [i6 0, i6 0, i6 0], AV.bool false false])) (Tr.node (decide (mm false (mm false n_x n_y) n_z < -16385)) (Tr.leaf (AV.tuple [AV.agg [i6 0, i6 0, i6 0], AV.bool false false])) (Tr.node (decide (mm true (mm true i_x i_y) i_z > 16385)) (Tr.leaf (AV.tuple [AV.agg [i6 0, i6 0, i6 0], AV.bool false false])) (Tr.node (decide (mm false (mm false i_x i_y) i_z < -16385)) (Tr.leaf (AV.tuple [AV.agg [i6 0, i6 0, i6 0], AV.bool false false])) (Tr.node (n_x == 0 && (n_y == 0 && (n_z == 0 && true))) (Tr.leaf (AV.tuple [AV.agg [i6 0, i6 0, i6 0], AV.bool false false])) (Tr.node (i_x == 0 && (i_y == 0 && (i_z == 0 && true))) (Tr.leaf (AV.tuple [AV.agg [i6 0, i6 0, i6 0], AV.bool false false])) (Tr.node (!okU (mir3 ⟨i_x, i_y, i_z⟩ (fac3 ⟨n_x, n_y, n_z⟩ ⟨i_x, i_y, i_z⟩)).x (mir3 ⟨i_x, i_y, i_z⟩ (fac3 ⟨n_x, n_y, n_z⟩ ⟨i_x, i_y, i_z⟩)).y (mir3 ⟨i_x, i_y, i_z⟩ (fac3 ⟨n_x, n_y, n_z⟩ ⟨i_x, i_y, i_z⟩)).z) (Tr.leaf (AV.tuple [AV.agg [i6 0, i6 0, i6 0], AV.bool false false])) (Tr.node (decide (m_x = 0)) Tr.bad (Tr.node (decide (dotN (facC n_x n_x n_y n_z i_x i_y i_z) (facC n_y n_x n_y n_z i_x i_y i_z) (facC n_z n_x n_y n_z i_x i_y i_z) (cone3 (unit3 (mir3 ⟨i_x, i_y, i_z⟩ (fac3 ⟨n_x, n_y, n_z⟩ ⟨i_x, i_y, i_z⟩))) (IntKind.i64.wrap (16384 - IntKind.i64.wrap (Int.tdiv 16384 m_x))) u a).x (cone3 (unit3 (mir3 ⟨i_x, i_y, i_z⟩ (fac3 ⟨n_x, n_y, n_z⟩ ⟨i_x, i_y, i_z⟩))) (IntKind.i64.wrap (16384 - IntKind.i64.wrap (Int.tdiv 16384 m_x))) u a).y (cone3 (unit3 (mir3 ⟨i_x, i_y, i_z⟩ (fac3 ⟨n_x, n_y, n_z⟩ ⟨i_x, i_y, i_z⟩))) (IntKind.i64.wrap (16384 - IntKind.i64.wrap (Int.tdiv 16384 m_x))) u a).z ≤ 0)) (Tr.leaf (AV.tuple [AV.agg [i6 0, i6 0, i6 0], AV.bool false false])) (Tr.leaf (AV.tuple [AV.agg [i6 (cone3 (unit3 (mir3 ⟨i_x, i_y, i_z⟩ (fac3 ⟨n_x, n_y, n_z⟩ ⟨i_x, i_y, i_z⟩))) (IntKind.i64.wrap (16384 - IntKind.i64.wrap (Int.tdiv 16384 m_x))) u a).x, i6 (cone3 (unit3 (mir3 ⟨i_x, i_y, i_z⟩ (fac3 ⟨n_x, n_y, n_z⟩ ⟨i_x, i_y, i_z⟩))) (IntKind.i64.wrap (16384 - IntKind.i64.wrap (Int.tdiv 16384 m_x))) u a).y, i6 (cone3 (unit3 (mir3 ⟨i_x, i_y, i_z⟩ (fac3 ⟨n_x, n_y, n_z⟩ ⟨i_x, i_y, i_z⟩))) (IntKind.i64.wrap (16384 - IntKind.i64.wrap (Int.tdiv 16384 m_x))) u a).z], AV.bool false true]))))))))))) (Tr.leaf (AV.tuple [AV.agg [i6 0, i6 0, i6 0], AV.bool false false]))) (Tr.leaf (AV.tuple [AV.agg [i6 0, i6 0, i6 0], AV.bool false false]))) (Tr.leaf (AV.tuple [AV.agg [i6 0, i6 0, i6 0], AV.bool false false])))))) (Tr.node (m_k == 2) (Tr.node (m_x == 0) (Tr.node (decide (mm true (mm true n_x n_y) n_z > 16385)) (Tr.leaf (AV.tuple [AV.agg [i6 0, i6 0, i6 0], AV.bool false false])) (Tr.node (decide (mm false (mm false n_x n_y) n_z < -16385)) (Tr.leaf (AV.tuple [AV.agg [i6 0, i6 0, i6 0], AV.bool false false])) (Tr.node (decide (mm true (mm true i_x i_y) i_z > 16385)) (Tr.leaf (AV.tuple [AV.agg [i6 0, i6 0, i6 0], AV.bool false false])) (Tr.node (decide (mm false (mm false i_x i_y) i_z < -16385)) (Tr.leaf (AV.tuple [AV.agg [i6 0, i6 0, i6 0], AV.bool false false])) (Tr.node (n_x == 0 && (n_y == 0 && (n_z == 0 && true))) (Tr.leaf (AV.tuple [AV.agg [i6 0, i6 0, i6 0], AV.bool false false])) (Tr.node (i_x == 0 && (i_y == 0 && (i_z == 0 && true))) (Tr.leaf (AV.tuple [AV.agg [i6 0, i6 0, i6 0], AV.bool false false])) (Tr.leaf (AV.tuple [AV.agg [i6 ((unit3 (mir3 ⟨i_x, i_y, i_z⟩ (fac3 ⟨n_x, n_y, n_z⟩ ⟨i_x, i_y, i_z⟩))).x), i6 ((unit3 (mir3 ⟨i_x, i_y, i_z⟩ (fac3 ⟨n_x, n_y, n_z⟩ ⟨i_x, i_y, i_z⟩))).y), i6 ((unit3 (mir3 ⟨i_x, i_y, i_z⟩ (fac3 ⟨n_x, n_y, n_z⟩ ⟨i_x, i_y, i_z⟩))).z)], AV.bool false (okU (mir3 ⟨i_x, i_y, i_z⟩ (fac3 ⟨n_x, n_y, n_z⟩ ⟨i_x, i_y, i_z⟩)).x (mir3 ⟨i_x, i_y, i_z⟩ (fac3 ⟨n_x, n_y, n_z⟩ ⟨i_x, i_y, i_z⟩)).y (mir3 ⟨i_x, i_y, i_z⟩ (fac3 ⟨n_x, n_y, n_z⟩ ⟨i_x, i_y, i_z⟩)).z)])))))))) (Tr.node (m_k == 3) (Tr.node (decide (m_x ≥ 16384)) (Tr.node (decide (m_x ≤ 65536)) (Tr.node (decide (mm true (mm true n_x n_y) n_z > 16385)) (Tr.leaf (AV.tuple [AV.agg [i6 0, i6 0, i6 0], AV.bool false false])) (Tr.node (decide (mm false (mm false n_x n_y) n_z < -16385)) (Tr.leaf (AV.tuple [AV.agg [i6 0, i6 0, i6 0], AV.bool false false])) (Tr.node (decide (mm true (mm true i_x i_y) i_z > 16385)) (Tr.leaf (AV.tuple [AV.agg [i6 0, i6 0, i6 0], AV.bool false false])) (Tr.node (decide (mm false (mm false i_x i_y) i_z < -16385)) (Tr.leaf (AV.tuple [AV.agg [i6 0, i6 0, i6 0], AV.bool false false])) (Tr.node (n_x == 0 && (n_y == 0 && (n_z == 0 && true))) (Tr.leaf (AV.tuple [AV.agg [i6 0, i6 0, i6 0], AV.bool false false])) (Tr.node (i_x == 0 && (i_y == 0 && (i_z == 0 && true))) (Tr.leaf (AV.tuple [AV.agg [i6 0, i6 0, i6 0], AV.bool false false])) (Tr.node (decide (dotN n_x n_y n_z i_x i_y i_z > 0)) (Tr.node (decide (md w 65536 ≥ backN (cosN n_x n_y n_z i_x i_y i_z) m_x)) (Tr.node (bendIs i_x i_y i_z n_x n_y n_z m_x 16384) (Tr.leaf (AV.tuple [AV.agg [i6 (bendU (bndC i_x n_x i_x i_y i_z n_x n_y n_z m_x 16384) i_x i_y i_z n_x n_y n_z m_x 16384), i6 (bendU (bndC i_y n_y i_x i_y i_z n_x n_y n_z m_x 16384) i_x i_y i_z n_x n_y n_z m_x 16384), i6 (bendU (bndC i_z n_z i_x i_y i_z n_x n_y n_z m_x 16384) i_x i_y i_z n_x n_y n_z m_x 16384)], AV.bool false true])) (Tr.leaf (AV.tuple [AV.agg [i6 ((unit3 (mir3 ⟨i_x, i_y, i_z⟩ (fac3 ⟨n_x, n_y, n_z⟩ ⟨i_x, i_y, i_z⟩))).x), i6 ((unit3 (mir3 ⟨i_x, i_y, i_z⟩ (fac3 ⟨n_x, n_y, n_z⟩ ⟨i_x, i_y, i_z⟩))).y), i6 ((unit3 (mir3 ⟨i_x, i_y, i_z⟩ (fac3 ⟨n_x, n_y, n_z⟩ ⟨i_x, i_y, i_z⟩))).z)], AV.bool false (okU (mir3 ⟨i_x, i_y, i_z⟩ (fac3 ⟨n_x, n_y, n_z⟩ ⟨i_x, i_y, i_z⟩)).x (mir3 ⟨i_x, i_y, i_z⟩ (fac3 ⟨n_x, n_y, n_z⟩ ⟨i_x, i_y, i_z⟩)).y (mir3 ⟨i_x, i_y, i_z⟩ (fac3 ⟨n_x, n_y, n_z⟩ ⟨i_x, i_y, i_z⟩)).z)]))) (Tr.leaf (AV.tuple [AV.agg [i6 ((unit3 (mir3 ⟨i_x, i_y, i_z⟩ (fac3 ⟨n_x, n_y, n_z⟩ ⟨i_x, i_y, i_z⟩))).x), i6 ((unit3 (mir3 ⟨i_x, i_y, i_z⟩ (fac3 ⟨n_x, n_y, n_z⟩ ⟨i_x, i_y, i_z⟩))).y), i6 ((unit3 (mir3 ⟨i_x, i_y, i_z⟩ (fac3 ⟨n_x, n_y, n_z⟩ ⟨i_x, i_y, i_z⟩))).z)], AV.bool false (okU (mir3 ⟨i_x, i_y, i_z⟩ (fac3 ⟨n_x, n_y, n_z⟩ ⟨i_x, i_y, i_z⟩)).x (mir3 ⟨i_x, i_y, i_z⟩ (fac3 ⟨n_x, n_y, n_z⟩ ⟨i_x, i_y, i_z⟩)).y (mir3 ⟨i_x, i_y, i_z⟩ (fac3 ⟨n_x, n_y, n_z⟩ ⟨i_x, i_y, i_z⟩)).z)]))) (Tr.node (decide (md w 65536 ≥ backN (cosN n_x n_y n_z i_x i_y i_z) m_x)) (Tr.node (bendIs i_x i_y i_z n_x n_y n_z 16384 m_x) (Tr.leaf (AV.tuple [AV.agg [i6 (bendU (bndC i_x n_x i_x i_y i_z n_x n_y n_z 16384 m_x) i_x i_y i_z n_x n_y n_z 16384 m_x), i6 (bendU (bndC i_y n_y i_x i_y i_z n_x n_y n_z 16384 m_x) i_x i_y i_z n_x n_y n_z 16384 m_x), i6 (bendU (bndC i_z n_z i_x i_y i_z n_x n_y n_z 16384 m_x) i_x i_y i_z n_x n_y n_z 16384 m_x)], AV.bool false true])) (Tr.leaf (AV.tuple [AV.agg [i6 ((unit3 (mir3 ⟨i_x, i_y, i_z⟩ (fac3 ⟨n_x, n_y, n_z⟩ ⟨i_x, i_y, i_z⟩))).x), i6 ((unit3 (mir3 ⟨i_x, i_y, i_z⟩ (fac3 ⟨n_x, n_y, n_z⟩ ⟨i_x, i_y, i_z⟩))).y), i6 ((unit3 (mir3 ⟨i_x, i_y, i_z⟩ (fac3 ⟨n_x, n_y, n_z⟩ ⟨i_x, i_y, i_z⟩))).z)], AV.bool false (okU (mir3 ⟨i_x, i_y, i_z⟩ (fac3 ⟨n_x, n_y, n_z⟩ ⟨i_x, i_y, i_z⟩)).x (mir3 ⟨i_x, i_y, i_z⟩ (fac3 ⟨n_x, n_y, n_z⟩ ⟨i_x, i_y, i_z⟩)).y (mir3 ⟨i_x, i_y, i_z⟩ (fac3 ⟨n_x, n_y, n_z⟩ ⟨i_x, i_y, i_z⟩)).z)]))) (Tr.leaf (AV.tuple [AV.agg [i6 ((unit3 (mir3 ⟨i_x, i_y, i_z⟩ (fac3 ⟨n_x, n_y, n_z⟩ ⟨i_x, i_y, i_z⟩))).x), i6 ((unit3 (mir3 ⟨i_x, i_y, i_z⟩ (fac3 ⟨n_x, n_y, n_z⟩ ⟨i_x, i_y, i_z⟩))).y), i6 ((unit3 (mir3 ⟨i_x, i_y, i_z⟩ (fac3 ⟨n_x, n_y, n_z⟩ ⟨i_x, i_y, i_z⟩))).z)], AV.bool false (okU (mir3 ⟨i_x, i_y, i_z⟩ (fac3 ⟨n_x, n_y, n_z⟩ ⟨i_x, i_y, i_z⟩)).x (mir3 ⟨i_x, i_y, i_z⟩ (fac3 ⟨n_x, n_y, n_z⟩ ⟨i_x, i_y, i_z⟩)).y (mir3 ⟨i_x, i_y, i_z⟩ (fac3 ⟨n_x, n_y, n_z⟩ ⟨i_x, i_y, i_z⟩)).z)])))))))))) (Tr.node (m_k == 4) (Tr.node (decide (m_x ≥ 1)) (Tr.node (decide (m_x ≤ 64)) (Tr.node (decide (mm true (mm true n_x n_y) n_z > 16385)) (Tr.leaf (AV.tuple [AV.agg [i6 0, i6 0, i6 0], AV.bool false false])) (Tr.node (decide (mm false (mm false n_x n_y) n_z < -16385)) (Tr.leaf (AV.tuple [AV.agg [i6 0, i6 0, i6 0], AV.bool false false])) (Tr.node (decide (mm true (mm true i_x i_y) i_z > 16385)) (Tr.leaf (AV.tuple [AV.agg [i6 0, i6 0, i6 0], AV.bool false false])) (Tr.node (decide (mm false (mm false i_x i_y) i_z < -16385)) (Tr.leaf (AV.tuple [AV.agg [i6 0, i6 0, i6 0], AV.bool false false])) (Tr.node (n_x == 0 && (n_y == 0 && (n_z == 0 && true))) (Tr.leaf (AV.tuple [AV.agg [i6 0, i6 0, i6 0], AV.bool false false])) (Tr.node (i_x == 0 && (i_y == 0 && (i_z == 0 && true))) (Tr.leaf (AV.tuple [AV.agg [i6 0, i6 0, i6 0], AV.bool false false])) (Tr.node (!okU (mir3 ⟨i_x, i_y, i_z⟩ (fac3 ⟨n_x, n_y, n_z⟩ ⟨i_x, i_y, i_z⟩)).x (mir3 ⟨i_x, i_y, i_z⟩ (fac3 ⟨n_x, n_y, n_z⟩ ⟨i_x, i_y, i_z⟩)).y (mir3 ⟨i_x, i_y, i_z⟩ (fac3 ⟨n_x, n_y, n_z⟩ ⟨i_x, i_y, i_z⟩)).z) (Tr.leaf (AV.tuple [AV.agg [i6 0, i6 0, i6 0], AV.bool false false])) (Tr.node (decide (m_x = 0)) Tr.bad (Tr.node (decide (dotN (facC n_x n_x n_y n_z i_x i_y i_z) (facC n_y n_x n_y n_z i_x i_y i_z) (facC n_z n_x n_y n_z i_x i_y i_z) (cone3 (unit3 (mir3 ⟨i_x, i_y, i_z⟩ (fac3 ⟨n_x, n_y, n_z⟩ ⟨i_x, i_y, i_z⟩))) (IntKind.i64.wrap (16384 - IntKind.i64.wrap (Int.tdiv 16384 m_x))) u a).x (cone3 (unit3 (mir3 ⟨i_x, i_y, i_z⟩ (fac3 ⟨n_x, n_y, n_z⟩ ⟨i_x, i_y, i_z⟩))) (IntKind.i64.wrap (16384 - IntKind.i64.wrap (Int.tdiv 16384 m_x))) u a).y (cone3 (unit3 (mir3 ⟨i_x, i_y, i_z⟩ (fac3 ⟨n_x, n_y, n_z⟩ ⟨i_x, i_y, i_z⟩))) (IntKind.i64.wrap (16384 - IntKind.i64.wrap (Int.tdiv 16384 m_x))) u a).z ≤ 0)) (Tr.leaf (AV.tuple [AV.agg [i6 0, i6 0, i6 0], AV.bool false false])) (Tr.leaf (AV.tuple [AV.agg [i6 (cone3 (unit3 (mir3 ⟨i_x, i_y, i_z⟩ (fac3 ⟨n_x, n_y, n_z⟩ ⟨i_x, i_y, i_z⟩))) (IntKind.i64.wrap (16384 - IntKind.i64.wrap (Int.tdiv 16384 m_x))) u a).x, i6 (cone3 (unit3 (mir3 ⟨i_x, i_y, i_z⟩ (fac3 ⟨n_x, n_y, n_z⟩ ⟨i_x, i_y, i_z⟩))) (IntKind.i64.wrap (16384 - IntKind.i64.wrap (Int.tdiv 16384 m_x))) u a).y, i6 (cone3 (unit3 (mir3 ⟨i_x, i_y, i_z⟩ (fac3 ⟨n_x, n_y, n_z⟩ ⟨i_x, i_y, i_z⟩))) (IntKind.i64.wrap (16384 - IntKind.i64.wrap (Int.tdiv 16384 m_x))) u a).z], AV.bool false true]))))))))))) (Tr.leaf (AV.tuple [AV.agg [i6 0, i6 0, i6 0], AV.bool false false]))) (Tr.leaf (AV.tuple [AV.agg [i6 0, i6 0, i6 0], AV.bool false false]))) (Tr.leaf (AV.tuple [AV.agg [i6 0, i6 0, i6 0], AV.bool false false])))) (Tr.node (m_k == 4) (Tr.node (decide (m_x ≥ 1)) (Tr.node (decide (m_x ≤ 64)) (Tr.node (decide (mm true (mm true n_x n_y) n_z > 16385)) (Tr.leaf (AV.tuple [AV.agg [i6 0, i6 0, i6 0], AV.bool false false])) (Tr.node (decide (mm false (mm false n_x n_y) n_z < -16385)) (Tr.leaf (AV.tuple [AV.agg [i6 0, i6 0, i6 0], AV.bool false false])) (Tr.node (decide (mm true (mm true i_x i_y) i_z > 16385)) (Tr.leaf (AV.tuple [AV.agg [i6 0, i6 0, i6 0], AV.bool false false])) (Tr.node (decide (mm false (mm false i_x i_y) i_z < -16385)) (Tr.leaf (AV.tuple [AV.agg [i6 0, i6 0, i6 0], AV.bool false false])) (Tr.node (n_x == 0 && (n_y == 0 && (n_z == 0 && true))) (Tr.leaf (AV.tuple [AV.agg [i6 0, i6 0, i6 0], AV.bool false false])) (Tr.node (i_x == 0 && (i_y == 0 && (i_z == 0 && true))) (Tr.leaf (AV.tuple [AV.agg [i6 0, i6 0, i6 0], AV.bool false false])) (Tr.node (!okU (mir3 ⟨i_x, i_y, i_z⟩ (fac3 ⟨n_x, n_y, n_z⟩ ⟨i_x, i_y, i_z⟩)).x (mir3 ⟨i_x, i_y, i_z⟩ (fac3 ⟨n_x, n_y, n_z⟩ ⟨i_x, i_y, i_z⟩)).y (mir3 ⟨i_x, i_y, i_z⟩ (fac3 ⟨n_x, n_y, n_z⟩ ⟨i_x, i_y, i_z⟩)).z) (Tr.leaf (AV.tuple [AV.agg [i6 0, i6 0, i6 0], AV.bool false false])) (Tr.node (decide (m_x = 0)) Tr.bad (Tr.node (decide (dotN (facC n_x n_x n_y n_z i_x i_y i_z) (facC n_y n_x n_y n_z i_x i_y i_z) (facC n_z n_x n_y n_z i_x i_y i_z) (cone3 (unit3 (mir3 ⟨i_x, i_y, i_z⟩ (fac3 ⟨n_x, n_y, n_z⟩ ⟨i_x, i_y, i_z⟩))) (IntKind.i64.wrap (16384 - IntKind.i64.wrap (Int.tdiv 16384 m_x))) u a).x (cone3 (unit3 (mir3 ⟨i_x, i_y, i_z⟩ (fac3 ⟨n_x, n_y, n_z⟩ ⟨i_x, i_y, i_z⟩))) (IntKind.i64.wrap (16384 - IntKind.i64.wrap (Int.tdiv 16384 m_x))) u a).y (cone3 (unit3 (mir3 ⟨i_x, i_y, i_z⟩ (fac3 ⟨n_x, n_y, n_z⟩ ⟨i_x, i_y, i_z⟩))) (IntKind.i64.wrap (16384 - IntKind.i64.wrap (Int.tdiv 16384 m_x))) u a).z ≤ 0)) (Tr.leaf (AV.tuple [AV.agg [i6 0, i6 0, i6 0], AV.bool false false])) (Tr.leaf (AV.tuple [AV.agg [i6 (cone3 (unit3 (mir3 ⟨i_x, i_y, i_z⟩ (fac3 ⟨n_x, n_y, n_z⟩ ⟨i_x, i_y, i_z⟩))) (IntKind.i64.wrap (16384 - IntKind.i64.wrap (Int.tdiv 16384 m_x))) u a).x, i6 (cone3 (unit3 (mir3 ⟨i_x, i_y, i_z⟩ (fac3 ⟨n_x, n_y, n_z⟩ ⟨i_x, i_y, i_z⟩))) (IntKind.i64.wrap (16384 - IntKind.i64.wrap (Int.tdiv 16384 m_x))) u a).y, i6 (cone3 (unit3 (mir3 ⟨i_x, i_y, i_z⟩ (fac3 ⟨n_x, n_y, n_z⟩ ⟨i_x, i_y, i_z⟩))) (IntKind.i64.wrap (16384 - IntKind.i64.wrap (Int.tdiv 16384 m_x))) u a).z], AV.bool false true]))))))))))) (Tr.leaf (AV.tuple [AV.agg [i6 0, i6 0, i6 0], AV.bool false false]))) (Tr.leaf (AV.tuple [AV.agg [i6 0, i6 0, i6 0], AV.bool false false]))) (Tr.leaf (AV.tuple [AV.agg [i6 0, i6 0, i6 0], AV.bool false false])))) (Tr.node (m_k == 4) (Tr.node (decide (m_x ≥ 1)) (Tr.node (decide (m_x ≤ 64)) (Tr.node (decide (mm true (mm true n_x n_y) n_z > 16385)) (Tr.leaf (AV.tuple [AV.agg [i6 0, i6 0, i6 0], AV.bool false false])) (Tr.node (decide (mm false (mm false n_x n_y) n_z < -16385)) (Tr.leaf (AV.tuple [AV.agg [i6 0, i6 0, i6 0], AV.bool false false])) (Tr.node (decide (mm true (mm true i_x i_y) i_z > 16385)) (Tr.leaf (AV.tuple [AV.agg [i6 0, i6 0, i6 0], AV.bool false false])) (Tr.node (decide (mm false (mm false i_x i_y) i_z < -16385)) (Tr.leaf (AV.tuple [AV.agg [i6 0, i6 0, i6 0], AV.bool false false])) (Tr.node (n_x == 0 && (n_y == 0 && (n_z == 0 && true))) (Tr.leaf (AV.tuple [AV.agg [i6 0, i6 0, i6 0], AV.bool false false])) (Tr.node (i_x == 0 && (i_y == 0 && (i_z == 0 && true))) (Tr.leaf (AV.tuple [AV.agg [i6 0, i6 0, i6 0], AV.bool false false])) (Tr.node (!okU (mir3 ⟨i_x, i_y, i_z⟩ (fac3 ⟨n_x, n_y, n_z⟩ ⟨i_x, i_y, i_z⟩)).x (mir3 ⟨i_x, i_y, i_z⟩ (fac3 ⟨n_x, n_y, n_z⟩ ⟨i_x, i_y, i_z⟩)).y (mir3 ⟨i_x, i_y, i_z⟩ (fac3 ⟨n_x, n_y, n_z⟩ ⟨i_x, i_y, i_z⟩)).z) (Tr.leaf (AV.tuple [AV.agg [i6 0, i6 0, i6 0], AV.bool false false])) (Tr.node (decide (m_x = 0)) Tr.bad (Tr.node (decide (dotN (facC n_x n_x n_y n_z i_x i_y i_z) (facC n_y n_x n_y n_z i_x i_y i_z) (facC n_z n_x n_y n_z i_x i_y i_z) (cone3 (unit3 (mir3 ⟨i_x, i_y, i_z⟩ (fac3 ⟨n_x, n_y, n_z⟩ ⟨i_x, i_y, i_z⟩))) (IntKind.i64.wrap (16384 - IntKind.i64.wrap (Int.tdiv 16384 m_x))) u a).x (cone3 (unit3 (mir3 ⟨i_x, i_y, i_z⟩ (fac3 ⟨n_x, n_y, n_z⟩ ⟨i_x, i_y, i_z⟩))) (IntKind.i64.wrap (16384 - IntKind.i64.wrap (Int.tdiv 16384 m_x))) u a).y (cone3 (unit3 (mir3 ⟨i_x, i_y, i_z⟩ (fac3 ⟨n_x, n_y, n_z⟩ ⟨i_x, i_y, i_z⟩))) (IntKind.i64.wrap (16384 - IntKind.i64.wrap (Int.tdiv 16384 m_x))) u a).z ≤ 0)) (Tr.leaf (AV.tuple [AV.agg [i6 0, i6 0, i6 0], AV.bool false false])) (Tr.leaf (AV.tuple [AV.agg [i6 (cone3 (unit3 (mir3 ⟨i_x, i_y, i_z⟩ (fac3 ⟨n_x, n_y, n_z⟩ ⟨i_x, i_y, i_z⟩))) (IntKind.i64.wrap (16384 - IntKind.i64.wrap (Int.tdiv 16384 m_x))) u a).x, i6 (cone3 (unit3 (mir3 ⟨i_x, i_y, i_z⟩ (fac3 ⟨n_x, n_y, n_z⟩ ⟨i_x, i_y, i_z⟩))) (IntKind.i64.wrap (16384 - IntKind.i64.wrap (Int.tdiv 16384 m_x))) u a).y, i6 (cone3 (unit3 (mir3 ⟨i_x, i_y, i_z⟩ (fac3 ⟨n_x, n_y, n_z⟩ ⟨i_x, i_y, i_z⟩))) (IntKind.i64.wrap (16384 - IntKind.i64.wrap (Int.tdiv 16384 m_x))) u a).z], AV.bool false true]))))))))))) (Tr.leaf (AV.tuple [AV.agg [i6 0, i6 0, i6 0], AV.bool false false]))) (Tr.leaf (AV.tuple [AV.agg [i6 0, i6 0, i6 0], AV.bool false false]))) (Tr.leaf (AV.tuple [AV.agg [i6 0, i6 0, i6 0], AV.bool false false]))))) (Tr.node (m_k == 3) (Tr.node (decide (m_x ≥ 16384)) (Tr.node (decide (m_x ≤ 65536)) (Tr.node (decide (mm true (mm true n_x n_y) n_z > 16385)) (Tr.leaf (AV.tuple [AV.agg [i6 0, i6 0, i6 0], AV.bool false false])) (Tr.node (decide (mm false (mm false n_x n_y) n_z < -16385)) (Tr.leaf (AV.tuple [AV.agg [i6 0, i6 0, i6 0], AV.bool false false])) (Tr.node (decide (mm true (mm true i_x i_y) i_z > 16385)) (Tr.leaf (AV.tuple [AV.agg [i6 0, i6 0, i6 0], AV.bool false false])) (Tr.node (decide (mm false (mm false i_x i_y) i_z < -16385)) (Tr.leaf (AV.tuple [AV.agg [i6 0, i6 0, i6 0], AV.bool false false])) (Tr.node (n_x == 0 && (n_y == 0 && (n_z == 0 && true))) (Tr.leaf (AV.tuple [AV.agg [i6 0, i6 0, i6 0], AV.bool false false])) (Tr.node (i_x == 0 && (i_y == 0 && (i_z == 0 && true))) (Tr.leaf (AV.tuple [AV.agg [i6 0, i6 0, i6 0], AV.bool false false])) (Tr.node (decide (dotN n_x n_y n_z i_x i_y i_z > 0)) (Tr.node (decide (md w 65536 ≥ backN (cosN n_x n_y n_z i_x i_y i_z) m_x)) (Tr.node (bendIs i_x i_y i_z n_x n_y n_z m_x 16384) (Tr.leaf (AV.tuple [AV.agg [i6 (bendU (bndC i_x n_x i_x i_y i_z n_x n_y n_z m_x 16384) i_x i_y i_z n_x n_y n_z m_x 16384), i6 (bendU (bndC i_y n_y i_x i_y i_z n_x n_y n_z m_x 16384) i_x i_y i_z n_x n_y n_z m_x 16384), i6 (bendU (bndC i_z n_z i_x i_y i_z n_x n_y n_z m_x 16384) i_x i_y i_z n_x n_y n_z m_x 16384)], AV.bool false true])) (Tr.leaf (AV.tuple [AV.agg [i6 ((unit3 (mir3 ⟨i_x, i_y, i_z⟩ (fac3 ⟨n_x, n_y, n_z⟩ ⟨i_x, i_y, i_z⟩))).x), i6 ((unit3 (mir3 ⟨i_x, i_y, i_z⟩ (fac3 ⟨n_x, n_y, n_z⟩ ⟨i_x, i_y, i_z⟩))).y), i6 ((unit3 (mir3 ⟨i_x, i_y, i_z⟩ (fac3 ⟨n_x, n_y, n_z⟩ ⟨i_x, i_y, i_z⟩))).z)], AV.bool false (okU (mir3 ⟨i_x, i_y, i_z⟩ (fac3 ⟨n_x, n_y, n_z⟩ ⟨i_x, i_y, i_z⟩)).x (mir3 ⟨i_x, i_y, i_z⟩ (fac3 ⟨n_x, n_y, n_z⟩ ⟨i_x, i_y, i_z⟩)).y (mir3 ⟨i_x, i_y, i_z⟩ (fac3 ⟨n_x, n_y, n_z⟩ ⟨i_x, i_y, i_z⟩)).z)]))) (Tr.leaf (AV.tuple [AV.agg [i6 ((unit3 (mir3 ⟨i_x, i_y, i_z⟩ (fac3 ⟨n_x, n_y, n_z⟩ ⟨i_x, i_y, i_z⟩))).x), i6 ((unit3 (mir3 ⟨i_x, i_y, i_z⟩ (fac3 ⟨n_x, n_y, n_z⟩ ⟨i_x, i_y, i_z⟩))).y), i6 ((unit3 (mir3 ⟨i_x, i_y, i_z⟩ (fac3 ⟨n_x, n_y, n_z⟩ ⟨i_x, i_y, i_z⟩))).z)], AV.bool false (okU (mir3 ⟨i_x, i_y, i_z⟩ (fac3 ⟨n_x, n_y, n_z⟩ ⟨i_x, i_y, i_z⟩)).x (mir3 ⟨i_x, i_y, i_z⟩ (fac3 ⟨n_x, n_y, n_z⟩ ⟨i_x, i_y, i_z⟩)).y (mir3 ⟨i_x, i_y, i_z⟩ (fac3 ⟨n_x, n_y, n_z⟩ ⟨i_x, i_y, i_z⟩)).z)]))) (Tr.node (decide (md w 65536 ≥ backN (cosN n_x n_y n_z i_x i_y i_z) m_x)) (Tr.node (bendIs i_x i_y i_z n_x n_y n_z 16384 m_x) (Tr.leaf (AV.tuple [AV.agg [i6 (bendU (bndC i_x n_x i_x i_y i_z n_x n_y n_z 16384 m_x) i_x i_y i_z n_x n_y n_z 16384 m_x), i6 (bendU (bndC i_y n_y i_x i_y i_z n_x n_y n_z 16384 m_x) i_x i_y i_z n_x n_y n_z 16384 m_x), i6 (bendU (bndC i_z n_z i_x i_y i_z n_x n_y n_z 16384 m_x) i_x i_y i_z n_x n_y n_z 16384 m_x)], AV.bool false true])) (Tr.leaf (AV.tuple [AV.agg [i6 ((unit3 (mir3 ⟨i_x, i_y, i_z⟩ (fac3 ⟨n_x, n_y, n_z⟩ ⟨i_x, i_y, i_z⟩))).x), i6 ((unit3 (mir3 ⟨i_x, i_y, i_z⟩ (fac3 ⟨n_x, n_y, n_z⟩ ⟨i_x, i_y, i_z⟩))).y), i6 ((unit3 (mir3 ⟨i_x, i_y, i_z⟩ (fac3 ⟨n_x, n_y, n_z⟩ ⟨i_x, i_y, i_z⟩))).z)], AV.bool false (okU (mir3 ⟨i_x, i_y, i_z⟩ (fac3 ⟨n_x, n_y, n_z⟩ ⟨i_x, i_y, i_z⟩)).x (mir3 ⟨i_x, i_y, i_z⟩ (fac3 ⟨n_x, n_y, n_z⟩ ⟨i_x, i_y, i_z⟩)).y (mir3 ⟨i_x, i_y, i_z⟩ (fac3 ⟨n_x, n_y, n_z⟩ ⟨i_x, i_y, i_z⟩)).z)]))) (Tr.leaf (AV.tuple [AV.agg [i6 ((unit3 (mir3 ⟨i_x, i_y, i_z⟩ (fac3 ⟨n_x, n_y, n_z⟩ ⟨i_x, i_y, i_z⟩))).x), i6 ((unit3 (mir3 ⟨i_x, i_y, i_z⟩ (fac3 ⟨n_x, n_y, n_z⟩ ⟨i_x, i_y, i_z⟩))).y), i6 ((unit3 (mir3 ⟨i_x, i_y, i_z⟩ (fac3 ⟨n_x, n_y, n_z⟩ ⟨i_x, i_y, i_z⟩))).z)], AV.bool false (okU (mir3 ⟨i_x, i_y, i_z⟩ (fac3 ⟨n_x, n_y, n_z⟩ ⟨i_x, i_y, i_z⟩)).x (mir3 ⟨i_x, i_y, i_z⟩ (fac3 ⟨n_x, n_y, n_z⟩ ⟨i_x, i_y, i_z⟩)).y (mir3 ⟨i_x, i_y, i_z⟩ (fac3 ⟨n_x, n_y, n_z⟩ ⟨i_x, i_y, i_z⟩)).z)])))))))))) (Tr.node (m_k == 4) (Tr.node (decide (m_x ≥ 1)) (Tr.node (decide (m_x ≤ 64)) (Tr.node (decide (mm true (mm true n_x n_y) n_z > 16385)) (Tr.leaf (AV.tuple [AV.agg [i6 0, i6 0, i6 0], AV.bool false false])) (Tr.node (decide (mm false (mm false n_x n_y) n_z < -16385)) (Tr.leaf (AV.tuple [AV.agg [i6 0, i6 0, i6 0], AV.bool false false])) (Tr.node (decide (mm true (mm true i_x i_y) i_z > 16385)) (Tr.leaf (AV.tuple [AV.agg [i6 0, i6 0, i6 0], AV.bool false false])) (Tr.node (decide (mm false (mm false i_x i_y) i_z < -16385)) (Tr.leaf (AV.tuple [AV.agg [i6 0, i6 0, i6 0], AV.bool false false])) (Tr.node (n_x == 0 && (n_y == 0 && (n_z == 0 && true))) (Tr.leaf (AV.tuple [AV.agg [i6 0, i6 0, i6 0], AV.bool false false])) (Tr.node (i_x == 0 && (i_y == 0 && (i_z == 0 && true))) (Tr.leaf (AV.tuple [AV.agg [i6 0, i6 0, i6 0], AV.bool false false])) (Tr.node (!okU (mir3 ⟨i_x, i_y, i_z⟩ (fac3 ⟨n_x, n_y, n_z⟩ ⟨i_x, i_y, i_z⟩)).x (mir3 ⟨i_x, i_y, i_z⟩ (fac3 ⟨n_x, n_y, n_z⟩ ⟨i_x, i_y, i_z⟩)).y (mir3 ⟨i_x, i_y, i_z⟩ (fac3 ⟨n_x, n_y, n_z⟩ ⟨i_x, i_y, i_z⟩)).z) (Tr.leaf (AV.tuple [AV.agg [i6 0, i6 0, i6 0], AV.bool false false])) (Tr.node (decide (m_x = 0)) Tr.bad (Tr.node (decide (dotN (facC n_x n_x n_y n_z i_x i_y i_z) (facC n_y n_x n_y n_z i_x i_y i_z) (facC n_z n_x n_y n_z i_x i_y i_z) (cone3 (unit3 (mir3 ⟨i_x, i_y, i_z⟩ (fac3 ⟨n_x, n_y, n_z⟩ ⟨i_x, i_y, i_z⟩))) (IntKind.i64.wrap (16384 - IntKind.i64.wrap (Int.tdiv 16384 m_x))) u a).x (cone3 (unit3 (mir3 ⟨i_x, i_y, i_z⟩ (fac3 ⟨n_x, n_y, n_z⟩ ⟨i_x, i_y, i_z⟩))) (IntKind.i64.wrap (16384 - IntKind.i64.wrap (Int.tdiv 16384 m_x))) u a).y (cone3 (unit3 (mir3 ⟨i_x, i_y, i_z⟩ (fac3 ⟨n_x, n_y, n_z⟩ ⟨i_x, i_y, i_z⟩))) (IntKind.i64.wrap (16384 - IntKind.i64.wrap (Int.tdiv 16384 m_x))) u a).z ≤ 0)) (Tr.leaf (AV.tuple [AV.agg [i6 0, i6 0, i6 0], AV.bool false false])) (Tr.leaf (AV.tuple [AV.agg [i6 (cone3 (unit3 (mir3 ⟨i_x, i_y, i_z⟩ (fac3 ⟨n_x, n_y, n_z⟩ ⟨i_x, i_y, i_z⟩))) (IntKind.i64.wrap (16384 - IntKind.i64.wrap (Int.tdiv 16384 m_x))) u a).x, i6 (cone3 (unit3 (mir3 ⟨i_x, i_y, i_z⟩ (fac3 ⟨n_x, n_y, n_z⟩ ⟨i_x, i_y, i_z⟩))) (IntKind.i64.wrap (16384 - IntKind.i64.wrap (Int.tdiv 16384 m_x))) u a).y, i6 (cone3 (unit3 (mir3 ⟨i_x, i_y, i_z⟩ (fac3 ⟨n_x, n_y, n_z⟩ ⟨i_x, i_y, i_z⟩))) (IntKind.i64.wrap (16384 - IntKind.i64.wrap (Int.tdiv 16384 m_x))) u a).z], AV.bool false true]))))))))))) (Tr.leaf (AV.tuple [AV.agg [i6 0, i6 0, i6 0], AV.bool false false]))) (Tr.leaf (AV.tuple [AV.agg [i6 0, i6 0, i6 0], AV.bool false false]))) (Tr.leaf (AV.tuple [AV.agg [i6 0, i6 0, i6 0], AV.bool false false])))) (Tr.node (m_k == 4) (Tr.node (decide (m_x ≥ 1)) (Tr.node (decide (m_x ≤ 64)) (Tr.node (decide (mm true (mm true n_x n_y) n_z > 16385)) (Tr.leaf (AV.tuple [AV.agg [i6 0, i6 0, i6 0], AV.bool false false])) (Tr.node (decide (mm false (mm false n_x n_y) n_z < -16385)) (Tr.leaf (AV.tuple [AV.agg [i6 0, i6 0, i6 0], AV.bool false false])) (Tr.node (decide (mm true (mm true i_x i_y) i_z > 16385)) (Tr.leaf (AV.tuple [AV.agg [i6 0, i6 0, i6 0], AV.bool false false])) (Tr.node (decide (mm false (mm false i_x i_y) i_z < -16385)) (Tr.leaf (AV.tuple [AV.agg [i6 0, i6 0, i6 0], AV.bool false false])) (Tr.node (n_x == 0 && (n_y == 0 && (n_z == 0 && true))) (Tr.leaf (AV.tuple [AV.agg [i6 0, i6 0, i6 0], AV.bool false false])) (Tr.node (i_x == 0 && (i_y == 0 && (i_z == 0 && true))) (Tr.leaf (AV.tuple [AV.agg [i6 0, i6 0, i6 0], AV.bool false false])) (Tr.node (!okU (mir3 ⟨i_x, i_y, i_z⟩ (fac3 ⟨n_x, n_y, n_z⟩ ⟨i_x, i_y, i_z⟩)).x (mir3 ⟨i_x, i_y, i_z⟩ (fac3 ⟨n_x, n_y, n_z⟩ ⟨i_x, i_y, i_z⟩)).y (mir3 ⟨i_x, i_y, i_z⟩ (fac3 ⟨n_x, n_y, n_z⟩ ⟨i_x, i_y, i_z⟩)).z) (Tr.leaf (AV.tuple [AV.agg [i6 0, i6 0, i6 0], AV.bool false false])) (Tr.node (decide (m_x = 0)) Tr.bad (Tr.node (decide (dotN (facC n_x n_x n_y n_z i_x i_y i_z) (facC n_y n_x n_y n_z i_x i_y i_z) (facC n_z n_x n_y n_z i_x i_y i_z) (cone3 (unit3 (mir3 ⟨i_x, i_y, i_z⟩ (fac3 ⟨n_x, n_y, n_z⟩ ⟨i_x, i_y, i_z⟩))) (IntKind.i64.wrap (16384 - IntKind.i64.wrap (Int.tdiv 16384 m_x))) u a).x (cone3 (unit3 (mir3 ⟨i_x, i_y, i_z⟩ (fac3 ⟨n_x, n_y, n_z⟩ ⟨i_x, i_y, i_z⟩))) (IntKind.i64.wrap (16384 - IntKind.i64.wrap (Int.tdiv 16384 m_x))) u a).y (cone3 (unit3 (mir3 ⟨i_x, i_y, i_z⟩ (fac3 ⟨n_x, n_y, n_z⟩ ⟨i_x, i_y, i_z⟩))) (IntKind.i64.wrap (16384 - IntKind.i64.wrap (Int.tdiv 16384 m_x))) u a).z ≤ 0)) (Tr.leaf (AV.tuple [AV.agg [i6 0, i6 0, i6 0], AV.bool false false])) (Tr.leaf (AV.tuple [AV.agg [i6 (cone3 (unit3 (mir3 ⟨i_x, i_y, i_z⟩ (fac3 ⟨n_x, n_y, n_z⟩ ⟨i_x, i_y, i_z⟩))) (IntKind.i64.wrap (16384 - IntKind.i64.wrap (Int.tdiv 16384 m_x))) u a).x, i6 (cone3 (unit3 (mir3 ⟨i_x, i_y, i_z⟩ (fac3 ⟨n_x, n_y, n_z⟩ ⟨i_x, i_y, i_z⟩))) (IntKind.i64.wrap (16384 - IntKind.i64.wrap (Int.tdiv 16384 m_x))) u a).y, i6 (cone3 (unit3 (mir3 ⟨i_x, i_y, i_z⟩ (fac3 ⟨n_x, n_y, n_z⟩ ⟨i_x, i_y, i_z⟩))) (IntKind.i64.wrap (16384 - IntKind.i64.wrap (Int.tdiv 16384 m_x))) u a).z], AV.bool false true]))))))))))) (Tr.leaf (AV.tuple [AV.agg [i6 0, i6 0, i6 0], AV.bool false false]))) (Tr.leaf (AV.tuple [AV.agg [i6 0, i6 0, i6 0], AV.bool false false]))) (Tr.leaf (AV.tuple [AV.agg [i6 0, i6 0, i6 0], AV.bool false false])))) (Tr.node (m_k == 4) (Tr.node (decide (m_x ≥ 1)) (Tr.node (decide (m_x ≤ 64)) (Tr.node (decide (mm true (mm true n_x n_y) n_z > 16385)) (Tr.leaf (AV.tuple [AV.agg [i6 0, i6 0, i6 0], AV.bool false false])) (Tr.node (decide (mm false (mm false n_x n_y) n_z < -16385)) (Tr.leaf (AV.tuple [AV.agg [i6 0, i6 0, i6 0], AV.bool false false])) (Tr.node (decide (mm true (mm true i_x i_y) i_z > 16385)) (Tr.leaf (AV.tuple [AV.agg [i6 0, i6 0, i6 0], AV.bool false false])) (Tr.node (decide (mm false (mm false i_x i_y) i_z < -16385)) (Tr.leaf (AV.tuple [AV.agg [i6 0, i6 0, i6 0], AV.bool false false])) (Tr.node (n_x == 0 && (n_y == 0 && (n_z == 0 && true))) (Tr.leaf (AV.tuple [AV.agg [i6 0, i6 0, i6 0], AV.bool false false])) (Tr.node (i_x == 0 && (i_y == 0 && (i_z == 0 && true))) (Tr.leaf (AV.tuple [AV.agg [i6 0, i6 0, i6 0], AV.bool false false])) (Tr.node (!okU (mir3 ⟨i_x, i_y, i_z⟩ (fac3 ⟨n_x, n_y, n_z⟩ ⟨i_x, i_y, i_z⟩)).x (mir3 ⟨i_x, i_y, i_z⟩ (fac3 ⟨n_x, n_y, n_z⟩ ⟨i_x, i_y, i_z⟩)).y (mir3 ⟨i_x, i_y, i_z⟩ (fac3 ⟨n_x, n_y, n_z⟩ ⟨i_x, i_y, i_z⟩)).z) (Tr.leaf (AV.tuple [AV.agg [i6 0, i6 0, i6 0], AV.bool false false])) (Tr.node (decide (m_x = 0)) Tr.bad (Tr.node (decide (dotN (facC n_x n_x n_y n_z i_x i_y i_z) (facC n_y n_x n_y n_z i_x i_y i_z) (facC n_z n_x n_y n_z i_x i_y i_z) (cone3 (unit3 (mir3 ⟨i_x, i_y, i_z⟩ (fac3 ⟨n_x, n_y, n_z⟩ ⟨i_x, i_y, i_z⟩))) (IntKind.i64.wrap (16384 - IntKind.i64.wrap (Int.tdiv 16384 m_x))) u a).x (cone3 (unit3 (mir3 ⟨i_x, i_y, i_z⟩ (fac3 ⟨n_x, n_y, n_z⟩ ⟨i_x, i_y, i_z⟩))) (IntKind.i64.wrap (16384 - IntKind.i64.wrap (Int.tdiv 16384 m_x))) u a).y (cone3 (unit3 (mir3 ⟨i_x, i_y, i_z⟩ (fac3 ⟨n_x, n_y, n_z⟩ ⟨i_x, i_y, i_z⟩))) (IntKind.i64.wrap (16384 - IntKind.i64.wrap (Int.tdiv 16384 m_x))) u a).z ≤ 0)) (Tr.leaf (AV.tuple [AV.agg [i6 0, i6 0, i6 0], AV.bool false false])) (Tr.leaf (AV.tuple [AV.agg [i6 (cone3 (unit3 (mir3 ⟨i_x, i_y, i_z⟩ (fac3 ⟨n_x, n_y, n_z⟩ ⟨i_x, i_y, i_z⟩))) (IntKind.i64.wrap (16384 - IntKind.i64.wrap (Int.tdiv 16384 m_x))) u a).x, i6 (cone3 (unit3 (mir3 ⟨i_x, i_y, i_z⟩ (fac3 ⟨n_x, n_y, n_z⟩ ⟨i_x, i_y, i_z⟩))) (IntKind.i64.wrap (16384 - IntKind.i64.wrap (Int.tdiv 16384 m_x))) u a).y, i6 (cone3 (unit3 (mir3 ⟨i_x, i_y, i_z⟩ (fac3 ⟨n_x, n_y, n_z⟩ ⟨i_x, i_y, i_z⟩))) (IntKind.i64.wrap (16384 - IntKind.i64.wrap (Int.tdiv 16384 m_x))) u a).z], AV.bool false true]))))))))))) (Tr.leaf (AV.tuple [AV.agg [i6 0, i6 0, i6 0], AV.bool false false]))) (Tr.leaf (AV.tuple [AV.agg [i6 0, i6 0, i6 0], AV.bool false false]))) (Tr.leaf (AV.tuple [AV.agg [i6 0, i6 0, i6 0], AV.bool false false]))))))
theorem run_matter_Throw (m_k : Int) (m_c_r : Int) (m_c_g : Int) (m_c_b : Int) (m_x : Int) (n_x : Int) (n_y : Int) (n_z : Int) (i_x : Int) (i_y : Int) (i_z : Int) (u : Int) (a : Int) (w : Int) (h_m_k : InR .i64 m_k) (h_m_c_r : InR .i64 m_c_r) (h_m_c_g : InR .i64 m_c_g) (h_m_c_b : InR .i64 m_c_b) (h_m_x : InR .i64 m_x) (h_n_x : InR .i64 n_x) (h_n_y : InR .i64 n_y) (h_n_z : InR .i64 n_z) (h_i_x : InR .i64 i_x) (h_i_y : InR .i64 i_y) (h_i_z : InR .i64 i_z) (h_u : InR .i64 u) (h_a : InR .i64 a) (h_w : InR .i64 w) : (tr_matter_Throw m_k m_c_r m_c_g m_c_b m_x n_x n_y n_z i_x i_y i_z u a w).run = some (.tuple [v3 (((thr3 m_k m_c_r m_c_g m_c_b m_x ⟨n_x, n_y, n_z⟩ ⟨i_x, i_y, i_z⟩ u a w).1).x) (((thr3 m_k m_c_r m_c_g m_c_b m_x ⟨n_x, n_y, n_z⟩ ⟨i_x, i_y, i_z⟩ u a w).1).y) (((thr3 m_k m_c_r m_c_g m_c_b m_x ⟨n_x, n_y, n_z⟩ ⟨i_x, i_y, i_z⟩ u a w).1).z), bb (thr3 m_k m_c_r m_c_g m_c_b m_x ⟨n_x, n_y, n_z⟩ ⟨i_x, i_y, i_z⟩ u a w).2]) := by
  unfold tr_matter_Throw
  cases hm : matB m_k m_c_r m_c_g m_c_b m_x
  · rw [thr_no (thr_m hm)]
    cases hc : colB m_c_r m_c_g m_c_b
    · rfl
    have no := mat_no hm hc
    rw [Bool.not_true]
    refine (run_f rfl).trans ?_
    clear hm hc
    (repeat' (first | exact (rfl : (Tr.leaf (AV.tuple [AV.agg [AV.int IntKind.i64 false 0, AV.int IntKind.i64 false 0, AV.int IntKind.i64 false 0], AV.bool false false])).run = some _) | (exfalso; simp only [beq_iff_eq, beq_eq_false_iff_ne, ne_eq, decide_eq_true_eq, decide_eq_false_iff_not] at *; omega) | (refine run_guard (fun _ => ?_) (fun _ => ?_))))
  obtain ⟨hc, h⟩ := mat_cases hm
  have cr := col_r hc
  rw [hc, Bool.not_true]
  refine (run_f rfl).trans ?_
  
  rcases h with ⟨rfl, rfl⟩ | ⟨rfl, rfl⟩ | ⟨rfl, h1, h2⟩ | ⟨rfl, h1, h2⟩
  · refine (run_t rfl).trans ((run_t rfl).trans ?_)
    refine (short_node _ _ _ _ _).trans ?_
    cases s1 : shortB n_x n_y n_z
    · rw [if_neg (by decide)]; rw [thr_no (thr_sn s1)]; rfl
    rw [if_pos rfl]
    refine (short_node _ _ _ _ _).trans ?_
    cases s2 : shortB i_x i_y i_z
    · rw [if_neg (by decide)]; rw [thr_no (thr_si s2)]; rfl
    rw [if_pos rfl]
    
    refine (zero_node _ _ _ _ _).trans ?_
    by_cases z1 : (⟨n_x, n_y, n_z⟩ : V3) ≠ ⟨0, 0, 0⟩
    rotate_left
    · rw [if_neg z1, thr_no (thr_zn z1)]; rfl
    rw [if_pos z1]
    refine (zero_node _ _ _ _ _).trans ?_
    by_cases z2 : (⟨i_x, i_y, i_z⟩ : V3) ≠ ⟨0, 0, 0⟩
    rotate_left
    · rw [if_neg z2, thr_no (thr_zi z2)]; rfl
    rw [if_pos z2]
    have tk := thr_ok hm s1 s2 z1 z2
    
    rw [thr_1 tk]
    show some (AV.tuple [_, AV.bool false (!((half3 (fac3 ⟨n_x, n_y, n_z⟩ ⟨i_x, i_y, i_z⟩) u a).x == 0 && ((half3 (fac3 ⟨n_x, n_y, n_z⟩ ⟨i_x, i_y, i_z⟩) u a).y == 0 && ((half3 (fac3 ⟨n_x, n_y, n_z⟩ ⟨i_x, i_y, i_z⟩) u a).z == 0 && true))))]) = _
    rw [ne3]
    rfl
  · refine (run_f rfl).trans ((run_t rfl).trans ((run_t rfl).trans ?_))
    refine (short_node _ _ _ _ _).trans ?_
    cases s1 : shortB n_x n_y n_z
    · rw [if_neg (by decide)]; rw [thr_no (thr_sn s1)]; rfl
    rw [if_pos rfl]
    refine (short_node _ _ _ _ _).trans ?_
    cases s2 : shortB i_x i_y i_z
    · rw [if_neg (by decide)]; rw [thr_no (thr_si s2)]; rfl
    rw [if_pos rfl]
    
    refine (zero_node _ _ _ _ _).trans ?_
    by_cases z1 : (⟨n_x, n_y, n_z⟩ : V3) ≠ ⟨0, 0, 0⟩
    rotate_left
    · rw [if_neg z1, thr_no (thr_zn z1)]; rfl
    rw [if_pos z1]
    refine (zero_node _ _ _ _ _).trans ?_
    by_cases z2 : (⟨i_x, i_y, i_z⟩ : V3) ≠ ⟨0, 0, 0⟩
    rotate_left
    · rw [if_neg z2, thr_no (thr_zi z2)]; rfl
    rw [if_pos z2]
    have tk := thr_ok hm s1 s2 z1 z2
    
    rw [thr_2 tk]
    rfl
  · refine (run_f rfl).trans ((run_f rfl).trans ((run_t rfl).trans ((run_t (decide_eq_true (by omega))).trans ((run_t (decide_eq_true (by omega))).trans ?_))))
    refine (short_node _ _ _ _ _).trans ?_
    cases s1 : shortB n_x n_y n_z
    · rw [if_neg (by decide)]; rw [thr_no (thr_sn s1)]; rfl
    rw [if_pos rfl]
    refine (short_node _ _ _ _ _).trans ?_
    cases s2 : shortB i_x i_y i_z
    · rw [if_neg (by decide)]; rw [thr_no (thr_si s2)]; rfl
    rw [if_pos rfl]
    
    refine (zero_node _ _ _ _ _).trans ?_
    by_cases z1 : (⟨n_x, n_y, n_z⟩ : V3) ≠ ⟨0, 0, 0⟩
    rotate_left
    · rw [if_neg z1, thr_no (thr_zn z1)]; rfl
    rw [if_pos z1]
    refine (zero_node _ _ _ _ _).trans ?_
    by_cases z2 : (⟨i_x, i_y, i_z⟩ : V3) ≠ ⟨0, 0, 0⟩
    rotate_left
    · rw [if_neg z2, thr_no (thr_zi z2)]; rfl
    rw [if_pos z2]
    have tk := thr_ok hm s1 s2 z1 z2
    
    rw [thr_3 tk, md_64k]
    have gd : glB m_x ⟨n_x, n_y, n_z⟩ ⟨i_x, i_y, i_z⟩ w = (decide (backN (cosN n_x n_y n_z i_x i_y i_z) m_x ≤ w % 65536) && bendIs i_x i_y i_z n_x n_y n_z (if dotN n_x n_y n_z i_x i_y i_z > 0 then m_x else 16384) (if dotN n_x n_y n_z i_x i_y i_z > 0 then 16384 else m_x)) := rfl
    have dd : dot3 ⟨n_x, n_y, n_z⟩ ⟨i_x, i_y, i_z⟩ = dotN n_x n_y n_z i_x i_y i_z := rfl
    rw [dd, gd]
    have miss : ∀ b : Bool, b = false → (if b = true then (bend3 ⟨i_x, i_y, i_z⟩ ⟨n_x, n_y, n_z⟩ (if dotN n_x n_y n_z i_x i_y i_z > 0 then m_x else 16384) (if dotN n_x n_y n_z i_x i_y i_z > 0 then 16384 else m_x), true) else (unit3 (mir3 ⟨i_x, i_y, i_z⟩ (fac3 ⟨n_x, n_y, n_z⟩ ⟨i_x, i_y, i_z⟩)), ok3 (mir3 ⟨i_x, i_y, i_z⟩ (fac3 ⟨n_x, n_y, n_z⟩ ⟨i_x, i_y, i_z⟩)))) = (unit3 (mir3 ⟨i_x, i_y, i_z⟩ (fac3 ⟨n_x, n_y, n_z⟩ ⟨i_x, i_y, i_z⟩)), ok3 (mir3 ⟨i_x, i_y, i_z⟩ (fac3 ⟨n_x, n_y, n_z⟩ ⟨i_x, i_y, i_z⟩))) := fun b h => by rw [h]; rfl
    refine run_guard (fun hp => ?_) (fun hp => ?_)
    · have hp := of_decide_eq_true hp
      rw [if_pos hp, if_pos hp] at miss ⊢
      refine run_guard (fun hb => ?_) (fun hb => ?_)
      · have hb := of_decide_eq_true hb
        cases is : bendIs i_x i_y i_z n_x n_y n_z m_x 16384
        · rw [miss _ (by simp)]; rfl
        · rw [decide_eq_true (by omega)]; rfl
      · have hb := of_decide_eq_false hb
        rw [miss _ (by rw [decide_eq_false (by omega)]; rfl)]; rfl
    · have hp := of_decide_eq_false hp
      rw [if_neg hp, if_neg hp] at miss ⊢
      refine run_guard (fun hb => ?_) (fun hb => ?_)
      · have hb := of_decide_eq_true hb
        cases is : bendIs i_x i_y i_z n_x n_y n_z 16384 m_x
        · rw [miss _ (by simp)]; rfl
        · rw [decide_eq_true (by omega)]; rfl
      · have hb := of_decide_eq_false hb
        rw [miss _ (by rw [decide_eq_false (by omega)]; rfl)]; rfl
  · refine (run_f rfl).trans ((run_f rfl).trans ((run_f rfl).trans ((run_t rfl).trans ((run_t (decide_eq_true (by omega))).trans ((run_t (decide_eq_true (by omega))).trans ?_)))))
    refine (short_node _ _ _ _ _).trans ?_
    cases s1 : shortB n_x n_y n_z
    · rw [if_neg (by decide)]; rw [thr_no (thr_sn s1)]; rfl
    rw [if_pos rfl]
    refine (short_node _ _ _ _ _).trans ?_
    cases s2 : shortB i_x i_y i_z
    · rw [if_neg (by decide)]; rw [thr_no (thr_si s2)]; rfl
    rw [if_pos rfl]
    
    refine (zero_node _ _ _ _ _).trans ?_
    by_cases z1 : (⟨n_x, n_y, n_z⟩ : V3) ≠ ⟨0, 0, 0⟩
    rotate_left
    · rw [if_neg z1, thr_no (thr_zn z1)]; rfl
    rw [if_pos z1]
    refine (zero_node _ _ _ _ _).trans ?_
    by_cases z2 : (⟨i_x, i_y, i_z⟩ : V3) ≠ ⟨0, 0, 0⟩
    rotate_left
    · rw [if_neg z2, thr_no (thr_zi z2)]; rfl
    rw [if_pos z2]
    have tk := thr_ok hm s1 s2 z1 z2
    
    rw [thr_4 tk]
    cases ko : ok3 (mir3 ⟨i_x, i_y, i_z⟩ (fac3 ⟨n_x, n_y, n_z⟩ ⟨i_x, i_y, i_z⟩))
    · rw [if_neg (by rintro ⟨h, _⟩; cases h)]
      refine (run_t (congrArg not ko)).trans rfl
    have e0 : IntKind.i64.wrap (16384 - IntKind.i64.wrap ((16384 : Int).tdiv m_x)) = 16384 - 16384 / m_x := by
      have q1 : 0 ≤ 16384 / m_x := Int.ediv_nonneg (by omega) (by omega)
      have q2 : 16384 / m_x ≤ 16384 := Int.ediv_le_self _ (by omega)
      rw [Int.tdiv_eq_ediv_of_nonneg (by omega), wrap_i64_id (n := 16384 / m_x) (by omega), wrap_i64_id (by omega)]
    refine (run_f (congrArg not ko)).trans ((run_f (decide_eq_false (by omega))).trans ?_)
    rw [e0]
    refine run_guard (fun h0 => ?_) (fun h0 => ?_)
    · have h0 : ¬ dot3 (fac3 ⟨n_x, n_y, n_z⟩ ⟨i_x, i_y, i_z⟩) (glossD m_x ⟨n_x, n_y, n_z⟩ ⟨i_x, i_y, i_z⟩ u a) > 0 := by have := of_decide_eq_true h0; first | exact Int.not_lt.2 this | exact Int.not_le.1 this
      rw [if_neg (fun h => h0 h.2)]; rfl
    · have h0 : dot3 (fac3 ⟨n_x, n_y, n_z⟩ ⟨i_x, i_y, i_z⟩) (glossD m_x ⟨n_x, n_y, n_z⟩ ⟨i_x, i_y, i_z⟩ u a) > 0 := by have := of_decide_eq_false h0; first | exact Int.not_lt.2 this | exact Int.not_le.1 this
      rw [if_pos ⟨rfl, h0⟩]; rfl

/-! skylightref25.Throw -/
def tr_skylightref25_Throw (m_k : Int) (m_c_r : Int) (m_c_g : Int) (m_c_b : Int) (m_x : Int) (n_x : Int) (n_y : Int) (n_z : Int) (i_x : Int) (i_y : Int) (i_z : Int) (u : Int) (a : Int) (w : Int) : Tr AV := Tr.node (!matB m_k m_c_r m_c_g m_c_b m_x) (Tr.leaf (AV.tuple [AV.agg [i6 0, i6 0, i6 0], AV.bool false false])) (Tr.node (decide (mm true (mm true n_x n_y) n_z ≤ 16385)) (Tr.node (!decide (mm false (mm false n_x n_y) n_z ≥ -16385)) (Tr.leaf (AV.tuple [AV.agg [i6 0, i6 0, i6 0], AV.bool false false])) (Tr.node (decide (mm true (mm true i_x i_y) i_z ≤ 16385)) (Tr.node (!decide (mm false (mm false i_x i_y) i_z ≥ -16385)) (Tr.leaf (AV.tuple [AV.agg [i6 0, i6 0, i6 0], AV.bool false false])) (Tr.node (n_x == 0 && (n_y == 0 && (n_z == 0 && true))) (Tr.leaf (AV.tuple [AV.agg [i6 0, i6 0, i6 0], AV.bool false false])) (Tr.node (i_x == 0 && (i_y == 0 && (i_z == 0 && true))) (Tr.leaf (AV.tuple [AV.agg [i6 0, i6 0, i6 0], AV.bool false false])) (Tr.node (m_k == 1) (Tr.leaf (AV.tuple [AV.agg [i6 (half3 (fac3 ⟨n_x, n_y, n_z⟩ ⟨i_x, i_y, i_z⟩) u a).x, i6 (half3 (fac3 ⟨n_x, n_y, n_z⟩ ⟨i_x, i_y, i_z⟩) u a).y, i6 (half3 (fac3 ⟨n_x, n_y, n_z⟩ ⟨i_x, i_y, i_z⟩) u a).z], AV.bool false !((half3 (fac3 ⟨n_x, n_y, n_z⟩ ⟨i_x, i_y, i_z⟩) u a).x == 0 && ((half3 (fac3 ⟨n_x, n_y, n_z⟩ ⟨i_x, i_y, i_z⟩) u a).y == 0 && ((half3 (fac3 ⟨n_x, n_y, n_z⟩ ⟨i_x, i_y, i_z⟩) u a).z == 0 && true)))])) (Tr.node (m_k == 2) (Tr.leaf (AV.tuple [AV.agg [i6 ((unit3 (mir3 ⟨i_x, i_y, i_z⟩ (fac3 ⟨n_x, n_y, n_z⟩ ⟨i_x, i_y, i_z⟩))).x), i6 ((unit3 (mir3 ⟨i_x, i_y, i_z⟩ (fac3 ⟨n_x, n_y, n_z⟩ ⟨i_x, i_y, i_z⟩))).y), i6 ((unit3 (mir3 ⟨i_x, i_y, i_z⟩ (fac3 ⟨n_x, n_y, n_z⟩ ⟨i_x, i_y, i_z⟩))).z)], AV.bool false (okU (mir3 ⟨i_x, i_y, i_z⟩ (fac3 ⟨n_x, n_y, n_z⟩ ⟨i_x, i_y, i_z⟩)).x (mir3 ⟨i_x, i_y, i_z⟩ (fac3 ⟨n_x, n_y, n_z⟩ ⟨i_x, i_y, i_z⟩)).y (mir3 ⟨i_x, i_y, i_z⟩ (fac3 ⟨n_x, n_y, n_z⟩ ⟨i_x, i_y, i_z⟩)).z)])) (Tr.node (m_k == 4) (Tr.node (!okU (mir3 ⟨i_x, i_y, i_z⟩ (fac3 ⟨n_x, n_y, n_z⟩ ⟨i_x, i_y, i_z⟩)).x (mir3 ⟨i_x, i_y, i_z⟩ (fac3 ⟨n_x, n_y, n_z⟩ ⟨i_x, i_y, i_z⟩)).y (mir3 ⟨i_x, i_y, i_z⟩ (fac3 ⟨n_x, n_y, n_z⟩ ⟨i_x, i_y, i_z⟩)).z) (Tr.leaf (AV.tuple [AV.agg [i6 0, i6 0, i6 0], AV.bool false false])) (Tr.node (decide (dotN (facC n_x n_x n_y n_z i_x i_y i_z) (facC n_y n_x n_y n_z i_x i_y i_z) (facC n_z n_x n_y n_z i_x i_y i_z) (cone3 (unit3 (mir3 ⟨i_x, i_y, i_z⟩ (fac3 ⟨n_x, n_y, n_z⟩ ⟨i_x, i_y, i_z⟩))) (IntKind.i64.wrap (16384 - if 1 ≤ m_x then 16384 / m_x else 0)) u a).x (cone3 (unit3 (mir3 ⟨i_x, i_y, i_z⟩ (fac3 ⟨n_x, n_y, n_z⟩ ⟨i_x, i_y, i_z⟩))) (IntKind.i64.wrap (16384 - if 1 ≤ m_x then 16384 / m_x else 0)) u a).y (cone3 (unit3 (mir3 ⟨i_x, i_y, i_z⟩ (fac3 ⟨n_x, n_y, n_z⟩ ⟨i_x, i_y, i_z⟩))) (IntKind.i64.wrap (16384 - if 1 ≤ m_x then 16384 / m_x else 0)) u a).z ≤ 0)) (Tr.leaf (AV.tuple [AV.agg [i6 0, i6 0, i6 0], AV.bool false false])) (Tr.leaf (AV.tuple [AV.agg [i6 (cone3 (unit3 (mir3 ⟨i_x, i_y, i_z⟩ (fac3 ⟨n_x, n_y, n_z⟩ ⟨i_x, i_y, i_z⟩))) (IntKind.i64.wrap (16384 - if 1 ≤ m_x then 16384 / m_x else 0)) u a).x, i6 (cone3 (unit3 (mir3 ⟨i_x, i_y, i_z⟩ (fac3 ⟨n_x, n_y, n_z⟩ ⟨i_x, i_y, i_z⟩))) (IntKind.i64.wrap (16384 - if 1 ≤ m_x then 16384 / m_x else 0)) u a).y, i6 (cone3 (unit3 (mir3 ⟨i_x, i_y, i_z⟩ (fac3 ⟨n_x, n_y, n_z⟩ ⟨i_x, i_y, i_z⟩))) (IntKind.i64.wrap (16384 - if 1 ≤ m_x then 16384 / m_x else 0)) u a).z], AV.bool false true])))) (Tr.node (decide (dotN n_x n_y n_z i_x i_y i_z > 0)) (Tr.node (decide (md w 65536 < backN (cosN n_x n_y n_z i_x i_y i_z) m_x)) (Tr.leaf (AV.tuple [AV.agg [i6 ((unit3 (mir3 ⟨i_x, i_y, i_z⟩ (fac3 ⟨n_x, n_y, n_z⟩ ⟨i_x, i_y, i_z⟩))).x), i6 ((unit3 (mir3 ⟨i_x, i_y, i_z⟩ (fac3 ⟨n_x, n_y, n_z⟩ ⟨i_x, i_y, i_z⟩))).y), i6 ((unit3 (mir3 ⟨i_x, i_y, i_z⟩ (fac3 ⟨n_x, n_y, n_z⟩ ⟨i_x, i_y, i_z⟩))).z)], AV.bool false (okU (mir3 ⟨i_x, i_y, i_z⟩ (fac3 ⟨n_x, n_y, n_z⟩ ⟨i_x, i_y, i_z⟩)).x (mir3 ⟨i_x, i_y, i_z⟩ (fac3 ⟨n_x, n_y, n_z⟩ ⟨i_x, i_y, i_z⟩)).y (mir3 ⟨i_x, i_y, i_z⟩ (fac3 ⟨n_x, n_y, n_z⟩ ⟨i_x, i_y, i_z⟩)).z)])) (Tr.node (!bendIs i_x i_y i_z n_x n_y n_z m_x 16384) (Tr.leaf (AV.tuple [AV.agg [i6 ((unit3 (mir3 ⟨i_x, i_y, i_z⟩ (fac3 ⟨n_x, n_y, n_z⟩ ⟨i_x, i_y, i_z⟩))).x), i6 ((unit3 (mir3 ⟨i_x, i_y, i_z⟩ (fac3 ⟨n_x, n_y, n_z⟩ ⟨i_x, i_y, i_z⟩))).y), i6 ((unit3 (mir3 ⟨i_x, i_y, i_z⟩ (fac3 ⟨n_x, n_y, n_z⟩ ⟨i_x, i_y, i_z⟩))).z)], AV.bool false (okU (mir3 ⟨i_x, i_y, i_z⟩ (fac3 ⟨n_x, n_y, n_z⟩ ⟨i_x, i_y, i_z⟩)).x (mir3 ⟨i_x, i_y, i_z⟩ (fac3 ⟨n_x, n_y, n_z⟩ ⟨i_x, i_y, i_z⟩)).y (mir3 ⟨i_x, i_y, i_z⟩ (fac3 ⟨n_x, n_y, n_z⟩ ⟨i_x, i_y, i_z⟩)).z)])) (Tr.leaf (AV.tuple [AV.agg [i6 (bendU (bndC i_x n_x i_x i_y i_z n_x n_y n_z m_x 16384) i_x i_y i_z n_x n_y n_z m_x 16384), i6 (bendU (bndC i_y n_y i_x i_y i_z n_x n_y n_z m_x 16384) i_x i_y i_z n_x n_y n_z m_x 16384), i6 (bendU (bndC i_z n_z i_x i_y i_z n_x n_y n_z m_x 16384) i_x i_y i_z n_x n_y n_z m_x 16384)], AV.bool false true])))) (Tr.node (decide (md w 65536 < backN (cosN n_x n_y n_z i_x i_y i_z) m_x)) (Tr.leaf (AV.tuple [AV.agg [i6 ((unit3 (mir3 ⟨i_x, i_y, i_z⟩ (fac3 ⟨n_x, n_y, n_z⟩ ⟨i_x, i_y, i_z⟩))).x), i6 ((unit3 (mir3 ⟨i_x, i_y, i_z⟩ (fac3 ⟨n_x, n_y, n_z⟩ ⟨i_x, i_y, i_z⟩))).y), i6 ((unit3 (mir3 ⟨i_x, i_y, i_z⟩ (fac3 ⟨n_x, n_y, n_z⟩ ⟨i_x, i_y, i_z⟩))).z)], AV.bool false (okU (mir3 ⟨i_x, i_y, i_z⟩ (fac3 ⟨n_x, n_y, n_z⟩ ⟨i_x, i_y, i_z⟩)).x (mir3 ⟨i_x, i_y, i_z⟩ (fac3 ⟨n_x, n_y, n_z⟩ ⟨i_x, i_y, i_z⟩)).y (mir3 ⟨i_x, i_y, i_z⟩ (fac3 ⟨n_x, n_y, n_z⟩ ⟨i_x, i_y, i_z⟩)).z)])) (Tr.node (!bendIs i_x i_y i_z n_x n_y n_z 16384 m_x) (Tr.leaf (AV.tuple [AV.agg [i6 ((unit3 (mir3 ⟨i_x, i_y, i_z⟩ (fac3 ⟨n_x, n_y, n_z⟩ ⟨i_x, i_y, i_z⟩))).x), i6 ((unit3 (mir3 ⟨i_x, i_y, i_z⟩ (fac3 ⟨n_x, n_y, n_z⟩ ⟨i_x, i_y, i_z⟩))).y), i6 ((unit3 (mir3 ⟨i_x, i_y, i_z⟩ (fac3 ⟨n_x, n_y, n_z⟩ ⟨i_x, i_y, i_z⟩))).z)], AV.bool false (okU (mir3 ⟨i_x, i_y, i_z⟩ (fac3 ⟨n_x, n_y, n_z⟩ ⟨i_x, i_y, i_z⟩)).x (mir3 ⟨i_x, i_y, i_z⟩ (fac3 ⟨n_x, n_y, n_z⟩ ⟨i_x, i_y, i_z⟩)).y (mir3 ⟨i_x, i_y, i_z⟩ (fac3 ⟨n_x, n_y, n_z⟩ ⟨i_x, i_y, i_z⟩)).z)])) (Tr.leaf (AV.tuple [AV.agg [i6 (bendU (bndC i_x n_x i_x i_y i_z n_x n_y n_z 16384 m_x) i_x i_y i_z n_x n_y n_z 16384 m_x), i6 (bendU (bndC i_y n_y i_x i_y i_z n_x n_y n_z 16384 m_x) i_x i_y i_z n_x n_y n_z 16384 m_x), i6 (bendU (bndC i_z n_z i_x i_y i_z n_x n_y n_z 16384 m_x) i_x i_y i_z n_x n_y n_z 16384 m_x)], AV.bool false true]))))))))))) (Tr.leaf (AV.tuple [AV.agg [i6 0, i6 0, i6 0], AV.bool false false])))) (Tr.leaf (AV.tuple [AV.agg [i6 0, i6 0, i6 0], AV.bool false false])))
theorem run_skylightref25_Throw (m_k : Int) (m_c_r : Int) (m_c_g : Int) (m_c_b : Int) (m_x : Int) (n_x : Int) (n_y : Int) (n_z : Int) (i_x : Int) (i_y : Int) (i_z : Int) (u : Int) (a : Int) (w : Int) (h_m_k : InR .i64 m_k) (h_m_c_r : InR .i64 m_c_r) (h_m_c_g : InR .i64 m_c_g) (h_m_c_b : InR .i64 m_c_b) (h_m_x : InR .i64 m_x) (h_n_x : InR .i64 n_x) (h_n_y : InR .i64 n_y) (h_n_z : InR .i64 n_z) (h_i_x : InR .i64 i_x) (h_i_y : InR .i64 i_y) (h_i_z : InR .i64 i_z) (h_u : InR .i64 u) (h_a : InR .i64 a) (h_w : InR .i64 w) : (tr_skylightref25_Throw m_k m_c_r m_c_g m_c_b m_x n_x n_y n_z i_x i_y i_z u a w).run = some (.tuple [v3 (((thr3 m_k m_c_r m_c_g m_c_b m_x ⟨n_x, n_y, n_z⟩ ⟨i_x, i_y, i_z⟩ u a w).1).x) (((thr3 m_k m_c_r m_c_g m_c_b m_x ⟨n_x, n_y, n_z⟩ ⟨i_x, i_y, i_z⟩ u a w).1).y) (((thr3 m_k m_c_r m_c_g m_c_b m_x ⟨n_x, n_y, n_z⟩ ⟨i_x, i_y, i_z⟩ u a w).1).z), bb (thr3 m_k m_c_r m_c_g m_c_b m_x ⟨n_x, n_y, n_z⟩ ⟨i_x, i_y, i_z⟩ u a w).2]) := by
  unfold tr_skylightref25_Throw
  cases hm : matB m_k m_c_r m_c_g m_c_b m_x
  · rw [thr_no (thr_m hm)]; rfl
  refine (run_f rfl).trans ?_
  obtain ⟨hc, h⟩ := mat_cases hm
  
  refine (short_node' _ _ _ _ _).trans ?_
  cases s1 : shortB n_x n_y n_z
  · rw [if_neg (by decide)]; rw [thr_no (thr_sn s1)]; rfl
  rw [if_pos rfl]
  refine (short_node' _ _ _ _ _).trans ?_
  cases s2 : shortB i_x i_y i_z
  · rw [if_neg (by decide)]; rw [thr_no (thr_si s2)]; rfl
  rw [if_pos rfl]
  
  refine (zero_node _ _ _ _ _).trans ?_
  by_cases z1 : (⟨n_x, n_y, n_z⟩ : V3) ≠ ⟨0, 0, 0⟩
  rotate_left
  · rw [if_neg z1, thr_no (thr_zn z1)]; rfl
  rw [if_pos z1]
  refine (zero_node _ _ _ _ _).trans ?_
  by_cases z2 : (⟨i_x, i_y, i_z⟩ : V3) ≠ ⟨0, 0, 0⟩
  rotate_left
  · rw [if_neg z2, thr_no (thr_zi z2)]; rfl
  rw [if_pos z2]
  have tk := thr_ok hm s1 s2 z1 z2
  
  rcases h with ⟨rfl, rfl⟩ | ⟨rfl, rfl⟩ | ⟨rfl, h1, h2⟩ | ⟨rfl, h1, h2⟩
  · refine (run_t rfl).trans ?_
    
    rw [thr_1 tk]
    show some (AV.tuple [_, AV.bool false (!((half3 (fac3 ⟨n_x, n_y, n_z⟩ ⟨i_x, i_y, i_z⟩) u a).x == 0 && ((half3 (fac3 ⟨n_x, n_y, n_z⟩ ⟨i_x, i_y, i_z⟩) u a).y == 0 && ((half3 (fac3 ⟨n_x, n_y, n_z⟩ ⟨i_x, i_y, i_z⟩) u a).z == 0 && true))))]) = _
    rw [ne3]
    rfl
  · refine (run_f rfl).trans ((run_t rfl).trans ?_)
    
    rw [thr_2 tk]
    rfl
  · refine (run_f rfl).trans ((run_f rfl).trans ((run_f rfl).trans ?_))
    
    rw [thr_3 tk, md_64k]
    have gd : glB m_x ⟨n_x, n_y, n_z⟩ ⟨i_x, i_y, i_z⟩ w = (decide (backN (cosN n_x n_y n_z i_x i_y i_z) m_x ≤ w % 65536) && bendIs i_x i_y i_z n_x n_y n_z (if dotN n_x n_y n_z i_x i_y i_z > 0 then m_x else 16384) (if dotN n_x n_y n_z i_x i_y i_z > 0 then 16384 else m_x)) := rfl
    have dd : dot3 ⟨n_x, n_y, n_z⟩ ⟨i_x, i_y, i_z⟩ = dotN n_x n_y n_z i_x i_y i_z := rfl
    rw [dd, gd]
    have miss : ∀ b : Bool, b = false → (if b = true then (bend3 ⟨i_x, i_y, i_z⟩ ⟨n_x, n_y, n_z⟩ (if dotN n_x n_y n_z i_x i_y i_z > 0 then m_x else 16384) (if dotN n_x n_y n_z i_x i_y i_z > 0 then 16384 else m_x), true) else (unit3 (mir3 ⟨i_x, i_y, i_z⟩ (fac3 ⟨n_x, n_y, n_z⟩ ⟨i_x, i_y, i_z⟩)), ok3 (mir3 ⟨i_x, i_y, i_z⟩ (fac3 ⟨n_x, n_y, n_z⟩ ⟨i_x, i_y, i_z⟩)))) = (unit3 (mir3 ⟨i_x, i_y, i_z⟩ (fac3 ⟨n_x, n_y, n_z⟩ ⟨i_x, i_y, i_z⟩)), ok3 (mir3 ⟨i_x, i_y, i_z⟩ (fac3 ⟨n_x, n_y, n_z⟩ ⟨i_x, i_y, i_z⟩))) := fun b h => by rw [h]; rfl
    refine run_guard (fun hp => ?_) (fun hp => ?_)
    · have hp := of_decide_eq_true hp
      rw [if_pos hp, if_pos hp] at miss ⊢
      refine run_guard (fun hb => ?_) (fun hb => ?_)
      · have hb := of_decide_eq_true hb
        rw [miss _ (by rw [decide_eq_false (by omega)]; rfl)]; rfl
      · have hb := of_decide_eq_false hb
        cases is : bendIs i_x i_y i_z n_x n_y n_z m_x 16384
        · rw [miss _ (by simp)]; rfl
        · rw [decide_eq_true (by omega)]; rfl
    · have hp := of_decide_eq_false hp
      rw [if_neg hp, if_neg hp] at miss ⊢
      refine run_guard (fun hb => ?_) (fun hb => ?_)
      · have hb := of_decide_eq_true hb
        rw [miss _ (by rw [decide_eq_false (by omega)]; rfl)]; rfl
      · have hb := of_decide_eq_false hb
        cases is : bendIs i_x i_y i_z n_x n_y n_z 16384 m_x
        · rw [miss _ (by simp)]; rfl
        · rw [decide_eq_true (by omega)]; rfl
  · refine (run_f rfl).trans ((run_f rfl).trans ((run_t rfl).trans ?_))
    
    have ix : (if 1 ≤ m_x then 16384 / m_x else 0) = 16384 / m_x := if_pos h1
    have q1 : 0 ≤ 16384 / m_x := Int.ediv_nonneg (by omega) (by omega)
    have q2 : 16384 / m_x ≤ 16384 := Int.ediv_le_self _ (by omega)
    have e0 : IntKind.i64.wrap (16384 - 16384 / m_x) = 16384 - 16384 / m_x := wrap_i64_id (by omega)
    rw [ix, e0]
    
    rw [thr_4 tk]
    cases ko : ok3 (mir3 ⟨i_x, i_y, i_z⟩ (fac3 ⟨n_x, n_y, n_z⟩ ⟨i_x, i_y, i_z⟩))
    · rw [if_neg (by rintro ⟨h, _⟩; cases h)]
      refine (run_t (congrArg not ko)).trans rfl
    refine (run_f (congrArg not ko)).trans ?_
    refine run_guard (fun h0 => ?_) (fun h0 => ?_)
    · have h0 : ¬ dot3 (fac3 ⟨n_x, n_y, n_z⟩ ⟨i_x, i_y, i_z⟩) (glossD m_x ⟨n_x, n_y, n_z⟩ ⟨i_x, i_y, i_z⟩ u a) > 0 := by have := of_decide_eq_true h0; first | exact Int.not_lt.2 this | exact Int.not_le.1 this
      rw [if_neg (fun h => h0 h.2)]; rfl
    · have h0 : dot3 (fac3 ⟨n_x, n_y, n_z⟩ ⟨i_x, i_y, i_z⟩) (glossD m_x ⟨n_x, n_y, n_z⟩ ⟨i_x, i_y, i_z⟩ u a) > 0 := by have := of_decide_eq_false h0; first | exact Int.not_lt.2 this | exact Int.not_le.1 this
      rw [if_pos ⟨rfl, h0⟩]; rfl

end Go.Sky

/- Trees of functions, and what they come to. -/
set_option linter.unusedSimpArgs false
set_option linter.unusedVariables false
namespace Go.Sky
set_option maxRecDepth 100000

/-! skylightlaw25.MatterTells -/
def tr_skylightlaw25_MatterTells (m_k : Int) (m_c_r : Int) (m_c_g : Int) (m_c_b : Int) (m_x : Int) (n_x : Int) (n_y : Int) (n_z : Int) (i_x : Int) (i_y : Int) (i_z : Int) (o_x : Int) (o_y : Int) (o_z : Int) (u : Int) (a : Int) (w : Int) : Tr AV := Tr.node (matB m_k m_c_r m_c_g m_c_b m_x == matB m_k m_c_r m_c_g m_c_b m_x) (Tr.node (powN u a == powN u a) (Tr.node (valC m_c_r m_k m_c_r m_c_g m_c_b m_x { x := n_x, y := n_y, z := n_z } { x := i_x, y := i_y, z := i_z } { x := o_x, y := o_y, z := o_z } == valC m_c_r m_k m_c_r m_c_g m_c_b m_x { x := n_x, y := n_y, z := n_z } { x := i_x, y := i_y, z := i_z } { x := o_x, y := o_y, z := o_z } && (valC m_c_g m_k m_c_r m_c_g m_c_b m_x { x := n_x, y := n_y, z := n_z } { x := i_x, y := i_y, z := i_z } { x := o_x, y := o_y, z := o_z } == valC m_c_g m_k m_c_r m_c_g m_c_b m_x { x := n_x, y := n_y, z := n_z } { x := i_x, y := i_y, z := i_z } { x := o_x, y := o_y, z := o_z } && (valC m_c_b m_k m_c_r m_c_g m_c_b m_x { x := n_x, y := n_y, z := n_z } { x := i_x, y := i_y, z := i_z } { x := o_x, y := o_y, z := o_z } == valC m_c_b m_k m_c_r m_c_g m_c_b m_x { x := n_x, y := n_y, z := n_z } { x := i_x, y := i_y, z := i_z } { x := o_x, y := o_y, z := o_z } && true))) (Tr.node ((thr3 m_k m_c_r m_c_g m_c_b m_x { x := n_x, y := n_y, z := n_z } { x := i_x, y := i_y, z := i_z } u a w).fst.x == (thr3 m_k m_c_r m_c_g m_c_b m_x { x := n_x, y := n_y, z := n_z } { x := i_x, y := i_y, z := i_z } u a w).fst.x && ((thr3 m_k m_c_r m_c_g m_c_b m_x { x := n_x, y := n_y, z := n_z } { x := i_x, y := i_y, z := i_z } u a w).fst.y == (thr3 m_k m_c_r m_c_g m_c_b m_x { x := n_x, y := n_y, z := n_z } { x := i_x, y := i_y, z := i_z } u a w).fst.y && ((thr3 m_k m_c_r m_c_g m_c_b m_x { x := n_x, y := n_y, z := n_z } { x := i_x, y := i_y, z := i_z } u a w).fst.z == (thr3 m_k m_c_r m_c_g m_c_b m_x { x := n_x, y := n_y, z := n_z } { x := i_x, y := i_y, z := i_z } u a w).fst.z && true))) (Tr.node ((thr3 m_k m_c_r m_c_g m_c_b m_x { x := n_x, y := n_y, z := n_z } { x := i_x, y := i_y, z := i_z } u a w).fst.x == (thr3 m_k m_c_r m_c_g m_c_b m_x { x := n_x, y := n_y, z := n_z } { x := i_x, y := i_y, z := i_z } u a w).fst.x && ((thr3 m_k m_c_r m_c_g m_c_b m_x { x := n_x, y := n_y, z := n_z } { x := i_x, y := i_y, z := i_z } u a w).fst.y == (thr3 m_k m_c_r m_c_g m_c_b m_x { x := n_x, y := n_y, z := n_z } { x := i_x, y := i_y, z := i_z } u a w).fst.y && ((thr3 m_k m_c_r m_c_g m_c_b m_x { x := n_x, y := n_y, z := n_z } { x := i_x, y := i_y, z := i_z } u a w).fst.z == (thr3 m_k m_c_r m_c_g m_c_b m_x { x := n_x, y := n_y, z := n_z } { x := i_x, y := i_y, z := i_z } u a w).fst.z && true))) (Tr.node ((thr3 m_k m_c_r m_c_g m_c_b m_x { x := n_x, y := n_y, z := n_z } { x := i_x, y := i_y, z := i_z } u a w).snd == (thr3 m_k m_c_r m_c_g m_c_b m_x { x := n_x, y := n_y, z := n_z } { x := i_x, y := i_y, z := i_z } u a w).snd) (Tr.leaf (AV.bool false true)) (Tr.leaf (AV.bool false false))) (Tr.leaf (AV.bool false false))) (Tr.node ((thr3 m_k m_c_r m_c_g m_c_b m_x { x := n_x, y := n_y, z := n_z } { x := i_x, y := i_y, z := i_z } u a w).fst.x == (thr3 m_k m_c_r m_c_g m_c_b m_x { x := n_x, y := n_y, z := n_z } { x := i_x, y := i_y, z := i_z } u a w).fst.x && ((thr3 m_k m_c_r m_c_g m_c_b m_x { x := n_x, y := n_y, z := n_z } { x := i_x, y := i_y, z := i_z } u a w).fst.y == (thr3 m_k m_c_r m_c_g m_c_b m_x { x := n_x, y := n_y, z := n_z } { x := i_x, y := i_y, z := i_z } u a w).fst.y && ((thr3 m_k m_c_r m_c_g m_c_b m_x { x := n_x, y := n_y, z := n_z } { x := i_x, y := i_y, z := i_z } u a w).fst.z == (thr3 m_k m_c_r m_c_g m_c_b m_x { x := n_x, y := n_y, z := n_z } { x := i_x, y := i_y, z := i_z } u a w).fst.z && true))) Tr.bad (Tr.leaf (AV.bool false false)))) (Tr.leaf (AV.bool false false))) (Tr.leaf (AV.bool false false))) (Tr.leaf (AV.bool false false))
theorem run_skylightlaw25_MatterTells (m_k : Int) (m_c_r : Int) (m_c_g : Int) (m_c_b : Int) (m_x : Int) (n_x : Int) (n_y : Int) (n_z : Int) (i_x : Int) (i_y : Int) (i_z : Int) (o_x : Int) (o_y : Int) (o_z : Int) (u : Int) (a : Int) (w : Int) (h_m_k : InR .i64 m_k) (h_m_c_r : InR .i64 m_c_r) (h_m_c_g : InR .i64 m_c_g) (h_m_c_b : InR .i64 m_c_b) (h_m_x : InR .i64 m_x) (h_n_x : InR .i64 n_x) (h_n_y : InR .i64 n_y) (h_n_z : InR .i64 n_z) (h_i_x : InR .i64 i_x) (h_i_y : InR .i64 i_y) (h_i_z : InR .i64 i_z) (h_o_x : InR .i64 o_x) (h_o_y : InR .i64 o_y) (h_o_z : InR .i64 o_z) (h_u : InR .i64 u) (h_a : InR .i64 a) (h_w : InR .i64 w) : (tr_skylightlaw25_MatterTells m_k m_c_r m_c_g m_c_b m_x n_x n_y n_z i_x i_y i_z o_x o_y o_z u a w).run = some (bb true) := by
  unfold tr_skylightlaw25_MatterTells
  simp only [beq_self_eq_true, Bool.and_self]
  rfl

/-! skylightlaw25.MatterLess -/
def tr_skylightlaw25_MatterLess (m_k : Int) (m_c_r : Int) (m_c_g : Int) (m_c_b : Int) (m_x : Int) (a_x : Int) (a_y : Int) (a_z : Int) (b_x : Int) (b_y : Int) (b_z : Int) (c_x : Int) (c_y : Int) (c_z : Int) : Tr AV := Tr.node (!okU a_x a_y a_z) (Tr.leaf (AV.bool false true)) (Tr.node (!okU b_x b_y b_z) (Tr.leaf (AV.bool false true)) (Tr.node (!okU c_x c_y c_z) (Tr.leaf (AV.bool false true)) (Tr.node (!matB m_k m_c_r m_c_g m_c_b m_x) (Tr.leaf (AV.bool false true)) (Tr.node (decide (valC m_c_r m_k m_c_r m_c_g m_c_b m_x { x := unitC a_x a_y a_z a_x, y := unitC a_x a_y a_z a_y, z := unitC a_x a_y a_z a_z } { x := unitC b_x b_y b_z b_x, y := unitC b_x b_y b_z b_y, z := unitC b_x b_y b_z b_z } { x := unitC c_x c_y c_z c_x, y := unitC c_x c_y c_z c_y, z := unitC c_x c_y c_z c_z } ≤ m_c_r)) (Tr.node (decide (valC m_c_g m_k m_c_r m_c_g m_c_b m_x { x := unitC a_x a_y a_z a_x, y := unitC a_x a_y a_z a_y, z := unitC a_x a_y a_z a_z } { x := unitC b_x b_y b_z b_x, y := unitC b_x b_y b_z b_y, z := unitC b_x b_y b_z b_z } { x := unitC c_x c_y c_z c_x, y := unitC c_x c_y c_z c_y, z := unitC c_x c_y c_z c_z } ≤ m_c_g)) (Tr.node (!decide (valC m_c_b m_k m_c_r m_c_g m_c_b m_x { x := unitC a_x a_y a_z a_x, y := unitC a_x a_y a_z a_y, z := unitC a_x a_y a_z a_z } { x := unitC b_x b_y b_z b_x, y := unitC b_x b_y b_z b_y, z := unitC b_x b_y b_z b_z } { x := unitC c_x c_y c_z c_x, y := unitC c_x c_y c_z c_y, z := unitC c_x c_y c_z c_z } ≤ m_c_b)) (Tr.leaf (AV.bool false false)) (Tr.node (!colB (valC m_c_r m_k m_c_r m_c_g m_c_b m_x { x := unitC a_x a_y a_z a_x, y := unitC a_x a_y a_z a_y, z := unitC a_x a_y a_z a_z } { x := unitC b_x b_y b_z b_x, y := unitC b_x b_y b_z b_y, z := unitC b_x b_y b_z b_z } { x := unitC c_x c_y c_z c_x, y := unitC c_x c_y c_z c_y, z := unitC c_x c_y c_z c_z }) (valC m_c_g m_k m_c_r m_c_g m_c_b m_x { x := unitC a_x a_y a_z a_x, y := unitC a_x a_y a_z a_y, z := unitC a_x a_y a_z a_z } { x := unitC b_x b_y b_z b_x, y := unitC b_x b_y b_z b_y, z := unitC b_x b_y b_z b_z } { x := unitC c_x c_y c_z c_x, y := unitC c_x c_y c_z c_y, z := unitC c_x c_y c_z c_z }) (valC m_c_b m_k m_c_r m_c_g m_c_b m_x { x := unitC a_x a_y a_z a_x, y := unitC a_x a_y a_z a_y, z := unitC a_x a_y a_z a_z } { x := unitC b_x b_y b_z b_x, y := unitC b_x b_y b_z b_y, z := unitC b_x b_y b_z b_z } { x := unitC c_x c_y c_z c_x, y := unitC c_x c_y c_z c_y, z := unitC c_x c_y c_z c_z })) (Tr.leaf (AV.bool false false)) (Tr.node (m_k == 2) (Tr.node (!(valC m_c_r m_k m_c_r m_c_g m_c_b m_x { x := unitC a_x a_y a_z a_x, y := unitC a_x a_y a_z a_y, z := unitC a_x a_y a_z a_z } { x := unitC b_x b_y b_z b_x, y := unitC b_x b_y b_z b_y, z := unitC b_x b_y b_z b_z } { x := unitC c_x c_y c_z c_x, y := unitC c_x c_y c_z c_y, z := unitC c_x c_y c_z c_z } == 0 && (valC m_c_g m_k m_c_r m_c_g m_c_b m_x { x := unitC a_x a_y a_z a_x, y := unitC a_x a_y a_z a_y, z := unitC a_x a_y a_z a_z } { x := unitC b_x b_y b_z b_x, y := unitC b_x b_y b_z b_y, z := unitC b_x b_y b_z b_z } { x := unitC c_x c_y c_z c_x, y := unitC c_x c_y c_z c_y, z := unitC c_x c_y c_z c_z } == 0 && (valC m_c_b m_k m_c_r m_c_g m_c_b m_x { x := unitC a_x a_y a_z a_x, y := unitC a_x a_y a_z a_y, z := unitC a_x a_y a_z a_z } { x := unitC b_x b_y b_z b_x, y := unitC b_x b_y b_z b_y, z := unitC b_x b_y b_z b_z } { x := unitC c_x c_y c_z c_x, y := unitC c_x c_y c_z c_y, z := unitC c_x c_y c_z c_z } == 0 && true)))) (Tr.leaf (AV.bool false false)) (Tr.node (decide (dotN (facC (unitC a_x a_y a_z a_x) (unitC a_x a_y a_z a_x) (unitC a_x a_y a_z a_y) (unitC a_x a_y a_z a_z) (unitC b_x b_y b_z b_x) (unitC b_x b_y b_z b_y) (unitC b_x b_y b_z b_z)) (facC (unitC a_x a_y a_z a_y) (unitC a_x a_y a_z a_x) (unitC a_x a_y a_z a_y) (unitC a_x a_y a_z a_z) (unitC b_x b_y b_z b_x) (unitC b_x b_y b_z b_y) (unitC b_x b_y b_z b_z)) (facC (unitC a_x a_y a_z a_z) (unitC a_x a_y a_z a_x) (unitC a_x a_y a_z a_y) (unitC a_x a_y a_z a_z) (unitC b_x b_y b_z b_x) (unitC b_x b_y b_z b_y) (unitC b_x b_y b_z b_z)) (unitC c_x c_y c_z c_x) (unitC c_x c_y c_z c_y) (unitC c_x c_y c_z c_z) > 0)) (Tr.leaf (AV.bool false true)) (Tr.node (valC m_c_r m_k m_c_r m_c_g m_c_b m_x { x := unitC a_x a_y a_z a_x, y := unitC a_x a_y a_z a_y, z := unitC a_x a_y a_z a_z } { x := unitC b_x b_y b_z b_x, y := unitC b_x b_y b_z b_y, z := unitC b_x b_y b_z b_z } { x := unitC c_x c_y c_z c_x, y := unitC c_x c_y c_z c_y, z := unitC c_x c_y c_z c_z } == 0 && (valC m_c_g m_k m_c_r m_c_g m_c_b m_x { x := unitC a_x a_y a_z a_x, y := unitC a_x a_y a_z a_y, z := unitC a_x a_y a_z a_z } { x := unitC b_x b_y b_z b_x, y := unitC b_x b_y b_z b_y, z := unitC b_x b_y b_z b_z } { x := unitC c_x c_y c_z c_x, y := unitC c_x c_y c_z c_y, z := unitC c_x c_y c_z c_z } == 0 && (valC m_c_b m_k m_c_r m_c_g m_c_b m_x { x := unitC a_x a_y a_z a_x, y := unitC a_x a_y a_z a_y, z := unitC a_x a_y a_z a_z } { x := unitC b_x b_y b_z b_x, y := unitC b_x b_y b_z b_y, z := unitC b_x b_y b_z b_z } { x := unitC c_x c_y c_z c_x, y := unitC c_x c_y c_z c_y, z := unitC c_x c_y c_z c_z } == 0 && true))) (Tr.leaf (AV.bool false true)) (Tr.leaf (AV.bool false false))))) (Tr.node (m_k == 3) (Tr.node (!(valC m_c_r m_k m_c_r m_c_g m_c_b m_x { x := unitC a_x a_y a_z a_x, y := unitC a_x a_y a_z a_y, z := unitC a_x a_y a_z a_z } { x := unitC b_x b_y b_z b_x, y := unitC b_x b_y b_z b_y, z := unitC b_x b_y b_z b_z } { x := unitC c_x c_y c_z c_x, y := unitC c_x c_y c_z c_y, z := unitC c_x c_y c_z c_z } == 0 && (valC m_c_g m_k m_c_r m_c_g m_c_b m_x { x := unitC a_x a_y a_z a_x, y := unitC a_x a_y a_z a_y, z := unitC a_x a_y a_z a_z } { x := unitC b_x b_y b_z b_x, y := unitC b_x b_y b_z b_y, z := unitC b_x b_y b_z b_z } { x := unitC c_x c_y c_z c_x, y := unitC c_x c_y c_z c_y, z := unitC c_x c_y c_z c_z } == 0 && (valC m_c_b m_k m_c_r m_c_g m_c_b m_x { x := unitC a_x a_y a_z a_x, y := unitC a_x a_y a_z a_y, z := unitC a_x a_y a_z a_z } { x := unitC b_x b_y b_z b_x, y := unitC b_x b_y b_z b_y, z := unitC b_x b_y b_z b_z } { x := unitC c_x c_y c_z c_x, y := unitC c_x c_y c_z c_y, z := unitC c_x c_y c_z c_z } == 0 && true)))) (Tr.leaf (AV.bool false false)) (Tr.node (decide (dotN (facC (unitC a_x a_y a_z a_x) (unitC a_x a_y a_z a_x) (unitC a_x a_y a_z a_y) (unitC a_x a_y a_z a_z) (unitC b_x b_y b_z b_x) (unitC b_x b_y b_z b_y) (unitC b_x b_y b_z b_z)) (facC (unitC a_x a_y a_z a_y) (unitC a_x a_y a_z a_x) (unitC a_x a_y a_z a_y) (unitC a_x a_y a_z a_z) (unitC b_x b_y b_z b_x) (unitC b_x b_y b_z b_y) (unitC b_x b_y b_z b_z)) (facC (unitC a_x a_y a_z a_z) (unitC a_x a_y a_z a_x) (unitC a_x a_y a_z a_y) (unitC a_x a_y a_z a_z) (unitC b_x b_y b_z b_x) (unitC b_x b_y b_z b_y) (unitC b_x b_y b_z b_z)) (unitC c_x c_y c_z c_x) (unitC c_x c_y c_z c_y) (unitC c_x c_y c_z c_z) > 0)) (Tr.leaf (AV.bool false true)) (Tr.node (valC m_c_r m_k m_c_r m_c_g m_c_b m_x { x := unitC a_x a_y a_z a_x, y := unitC a_x a_y a_z a_y, z := unitC a_x a_y a_z a_z } { x := unitC b_x b_y b_z b_x, y := unitC b_x b_y b_z b_y, z := unitC b_x b_y b_z b_z } { x := unitC c_x c_y c_z c_x, y := unitC c_x c_y c_z c_y, z := unitC c_x c_y c_z c_z } == 0 && (valC m_c_g m_k m_c_r m_c_g m_c_b m_x { x := unitC a_x a_y a_z a_x, y := unitC a_x a_y a_z a_y, z := unitC a_x a_y a_z a_z } { x := unitC b_x b_y b_z b_x, y := unitC b_x b_y b_z b_y, z := unitC b_x b_y b_z b_z } { x := unitC c_x c_y c_z c_x, y := unitC c_x c_y c_z c_y, z := unitC c_x c_y c_z c_z } == 0 && (valC m_c_b m_k m_c_r m_c_g m_c_b m_x { x := unitC a_x a_y a_z a_x, y := unitC a_x a_y a_z a_y, z := unitC a_x a_y a_z a_z } { x := unitC b_x b_y b_z b_x, y := unitC b_x b_y b_z b_y, z := unitC b_x b_y b_z b_z } { x := unitC c_x c_y c_z c_x, y := unitC c_x c_y c_z c_y, z := unitC c_x c_y c_z c_z } == 0 && true))) (Tr.leaf (AV.bool false true)) (Tr.leaf (AV.bool false false))))) (Tr.node (decide (dotN (facC (unitC a_x a_y a_z a_x) (unitC a_x a_y a_z a_x) (unitC a_x a_y a_z a_y) (unitC a_x a_y a_z a_z) (unitC b_x b_y b_z b_x) (unitC b_x b_y b_z b_y) (unitC b_x b_y b_z b_z)) (facC (unitC a_x a_y a_z a_y) (unitC a_x a_y a_z a_x) (unitC a_x a_y a_z a_y) (unitC a_x a_y a_z a_z) (unitC b_x b_y b_z b_x) (unitC b_x b_y b_z b_y) (unitC b_x b_y b_z b_z)) (facC (unitC a_x a_y a_z a_z) (unitC a_x a_y a_z a_x) (unitC a_x a_y a_z a_y) (unitC a_x a_y a_z a_z) (unitC b_x b_y b_z b_x) (unitC b_x b_y b_z b_y) (unitC b_x b_y b_z b_z)) (unitC c_x c_y c_z c_x) (unitC c_x c_y c_z c_y) (unitC c_x c_y c_z c_z) > 0)) (Tr.leaf (AV.bool false true)) (Tr.node (valC m_c_r m_k m_c_r m_c_g m_c_b m_x { x := unitC a_x a_y a_z a_x, y := unitC a_x a_y a_z a_y, z := unitC a_x a_y a_z a_z } { x := unitC b_x b_y b_z b_x, y := unitC b_x b_y b_z b_y, z := unitC b_x b_y b_z b_z } { x := unitC c_x c_y c_z c_x, y := unitC c_x c_y c_z c_y, z := unitC c_x c_y c_z c_z } == 0 && (valC m_c_g m_k m_c_r m_c_g m_c_b m_x { x := unitC a_x a_y a_z a_x, y := unitC a_x a_y a_z a_y, z := unitC a_x a_y a_z a_z } { x := unitC b_x b_y b_z b_x, y := unitC b_x b_y b_z b_y, z := unitC b_x b_y b_z b_z } { x := unitC c_x c_y c_z c_x, y := unitC c_x c_y c_z c_y, z := unitC c_x c_y c_z c_z } == 0 && (valC m_c_b m_k m_c_r m_c_g m_c_b m_x { x := unitC a_x a_y a_z a_x, y := unitC a_x a_y a_z a_y, z := unitC a_x a_y a_z a_z } { x := unitC b_x b_y b_z b_x, y := unitC b_x b_y b_z b_y, z := unitC b_x b_y b_z b_z } { x := unitC c_x c_y c_z c_x, y := unitC c_x c_y c_z c_y, z := unitC c_x c_y c_z c_z } == 0 && true))) (Tr.leaf (AV.bool false true)) (Tr.leaf (AV.bool false false)))))))) (Tr.leaf (AV.bool false false))) (Tr.leaf (AV.bool false false))))))
theorem run_skylightlaw25_MatterLess (m_k : Int) (m_c_r : Int) (m_c_g : Int) (m_c_b : Int) (m_x : Int) (a_x : Int) (a_y : Int) (a_z : Int) (b_x : Int) (b_y : Int) (b_z : Int) (c_x : Int) (c_y : Int) (c_z : Int) (h_m_k : InR .i64 m_k) (h_m_c_r : InR .i64 m_c_r) (h_m_c_g : InR .i64 m_c_g) (h_m_c_b : InR .i64 m_c_b) (h_m_x : InR .i64 m_x) (h_a_x : InR .i64 a_x) (h_a_y : InR .i64 a_y) (h_a_z : InR .i64 a_z) (h_b_x : InR .i64 b_x) (h_b_y : InR .i64 b_y) (h_b_z : InR .i64 b_z) (h_c_x : InR .i64 c_x) (h_c_y : InR .i64 c_y) (h_c_z : InR .i64 c_z) : (tr_skylightlaw25_MatterLess m_k m_c_r m_c_g m_c_b m_x a_x a_y a_z b_x b_y b_z c_x c_y c_z).run = some (bb true) := by
  unfold tr_skylightlaw25_MatterLess
  cases h1 : okU a_x a_y a_z
  · rfl
  cases h2 : okU b_x b_y b_z
  · rfl
  cases h3 : okU c_x c_y c_z
  · rfl
  cases hm : matB m_k m_c_r m_c_g m_c_b m_x
  · rfl
  refine (run_f rfl).trans ((run_f rfl).trans ((run_f rfl).trans ((run_f rfl).trans ?_)))
  obtain ⟨hc, h⟩ := mat_cases hm
  have cr := col_r hc
  have v1 := @valC_r m_c_r m_k m_c_r m_c_g m_c_b m_x ⟨unitC a_x a_y a_z a_x, unitC a_x a_y a_z a_y, unitC a_x a_y a_z a_z⟩ ⟨unitC b_x b_y b_z b_x, unitC b_x b_y b_z b_y, unitC b_x b_y b_z b_z⟩ ⟨unitC c_x c_y c_z c_x, unitC c_x c_y c_z c_y, unitC c_x c_y c_z c_z⟩ cr.1.1
  have v2 := @valC_r m_c_g m_k m_c_r m_c_g m_c_b m_x ⟨unitC a_x a_y a_z a_x, unitC a_x a_y a_z a_y, unitC a_x a_y a_z a_z⟩ ⟨unitC b_x b_y b_z b_x, unitC b_x b_y b_z b_y, unitC b_x b_y b_z b_z⟩ ⟨unitC c_x c_y c_z c_x, unitC c_x c_y c_z c_y, unitC c_x c_y c_z c_z⟩ cr.2.1.1
  have v3' := @valC_r m_c_b m_k m_c_r m_c_g m_c_b m_x ⟨unitC a_x a_y a_z a_x, unitC a_x a_y a_z a_y, unitC a_x a_y a_z a_z⟩ ⟨unitC b_x b_y b_z b_x, unitC b_x b_y b_z b_y, unitC b_x b_y b_z b_z⟩ ⟨unitC c_x c_y c_z c_x, unitC c_x c_y c_z c_y, unitC c_x c_y c_z c_z⟩ cr.2.2.1
  have z : (m_k = 2 ∨ m_k = 3 ∨ dotN (facC (unitC a_x a_y a_z a_x) (unitC a_x a_y a_z a_x) (unitC a_x a_y a_z a_y) (unitC a_x a_y a_z a_z) (unitC b_x b_y b_z b_x) (unitC b_x b_y b_z b_y) (unitC b_x b_y b_z b_z)) (facC (unitC a_x a_y a_z a_y) (unitC a_x a_y a_z a_x) (unitC a_x a_y a_z a_y) (unitC a_x a_y a_z a_z) (unitC b_x b_y b_z b_x) (unitC b_x b_y b_z b_y) (unitC b_x b_y b_z b_z)) (facC (unitC a_x a_y a_z a_z) (unitC a_x a_y a_z a_x) (unitC a_x a_y a_z a_y) (unitC a_x a_y a_z a_z) (unitC b_x b_y b_z b_x) (unitC b_x b_y b_z b_y) (unitC b_x b_y b_z b_z)) (unitC c_x c_y c_z c_x) (unitC c_x c_y c_z c_y) (unitC c_x c_y c_z c_z) ≤ 0) → ∀ c, valC c m_k m_c_r m_c_g m_c_b m_x ⟨unitC a_x a_y a_z a_x, unitC a_x a_y a_z a_y, unitC a_x a_y a_z a_z⟩ ⟨unitC b_x b_y b_z b_x, unitC b_x b_y b_z b_y, unitC b_x b_y b_z b_z⟩ ⟨unitC c_x c_y c_z c_x, unitC c_x c_y c_z c_y, unitC c_x c_y c_z c_z⟩ = 0 := by
    intro hz c
    have g0 : valG m_k m_x ⟨unitC a_x a_y a_z a_x, unitC a_x a_y a_z a_y, unitC a_x a_y a_z a_z⟩ ⟨unitC b_x b_y b_z b_x, unitC b_x b_y b_z b_y, unitC b_x b_y b_z b_z⟩ ⟨unitC c_x c_y c_z c_x, unitC c_x c_y c_z c_y, unitC c_x c_y c_z c_z⟩ = 0 := by
      have u0 : dotN (facC (unitC a_x a_y a_z a_x) (unitC a_x a_y a_z a_x) (unitC a_x a_y a_z a_y) (unitC a_x a_y a_z a_z) (unitC b_x b_y b_z b_x) (unitC b_x b_y b_z b_y) (unitC b_x b_y b_z b_z)) (facC (unitC a_x a_y a_z a_y) (unitC a_x a_y a_z a_x) (unitC a_x a_y a_z a_y) (unitC a_x a_y a_z a_z) (unitC b_x b_y b_z b_x) (unitC b_x b_y b_z b_y) (unitC b_x b_y b_z b_z)) (facC (unitC a_x a_y a_z a_z) (unitC a_x a_y a_z a_x) (unitC a_x a_y a_z a_y) (unitC a_x a_y a_z a_z) (unitC b_x b_y b_z b_x) (unitC b_x b_y b_z b_y) (unitC b_x b_y b_z b_z)) (unitC c_x c_y c_z c_x) (unitC c_x c_y c_z c_y) (unitC c_x c_y c_z c_z) ≤ 0 → upon3 (fac3 ⟨unitC a_x a_y a_z a_x, unitC a_x a_y a_z a_y, unitC a_x a_y a_z a_z⟩ ⟨unitC b_x b_y b_z b_x, unitC b_x b_y b_z b_y, unitC b_x b_y b_z b_z⟩) ⟨unitC c_x c_y c_z c_x, unitC c_x c_y c_z c_y, unitC c_x c_y c_z c_z⟩ = 0 := by
        intro h
        show hold (dotN (facC (unitC a_x a_y a_z a_x) (unitC a_x a_y a_z a_x) (unitC a_x a_y a_z a_y) (unitC a_x a_y a_z a_z) (unitC b_x b_y b_z b_x) (unitC b_x b_y b_z b_y) (unitC b_x b_y b_z b_z)) (facC (unitC a_x a_y a_z a_y) (unitC a_x a_y a_z a_x) (unitC a_x a_y a_z a_y) (unitC a_x a_y a_z a_z) (unitC b_x b_y b_z b_x) (unitC b_x b_y b_z b_y) (unitC b_x b_y b_z b_z)) (facC (unitC a_x a_y a_z a_z) (unitC a_x a_y a_z a_x) (unitC a_x a_y a_z a_y) (unitC a_x a_y a_z a_z) (unitC b_x b_y b_z b_x) (unitC b_x b_y b_z b_y) (unitC b_x b_y b_z b_z)) (unitC c_x c_y c_z c_x) (unitC c_x c_y c_z c_y) (unitC c_x c_y c_z c_z) / 16384) 0 16384 = 0
        unfold hold; omega
      unfold valG
      rcases hz with rfl | rfl | hz
      · rfl
      · rfl
      · rw [u0 hz]
        split
        · rfl
        · split <;> rfl
    unfold valC
    rw [g0]
    split <;> omega
  have zr := fun hz => z hz m_c_r
  have zg := fun hz => z hz m_c_g
  have zb := fun hz => z hz m_c_b
  clear z
  generalize valC m_c_r m_k m_c_r m_c_g m_c_b m_x ⟨unitC a_x a_y a_z a_x, unitC a_x a_y a_z a_y, unitC a_x a_y a_z a_z⟩ ⟨unitC b_x b_y b_z b_x, unitC b_x b_y b_z b_y, unitC b_x b_y b_z b_z⟩ ⟨unitC c_x c_y c_z c_x, unitC c_x c_y c_z c_y, unitC c_x c_y c_z c_z⟩ = p at *
  generalize valC m_c_g m_k m_c_r m_c_g m_c_b m_x ⟨unitC a_x a_y a_z a_x, unitC a_x a_y a_z a_y, unitC a_x a_y a_z a_z⟩ ⟨unitC b_x b_y b_z b_x, unitC b_x b_y b_z b_y, unitC b_x b_y b_z b_z⟩ ⟨unitC c_x c_y c_z c_x, unitC c_x c_y c_z c_y, unitC c_x c_y c_z c_z⟩ = q at *
  generalize valC m_c_b m_k m_c_r m_c_g m_c_b m_x ⟨unitC a_x a_y a_z a_x, unitC a_x a_y a_z a_y, unitC a_x a_y a_z a_z⟩ ⟨unitC b_x b_y b_z b_x, unitC b_x b_y b_z b_y, unitC b_x b_y b_z b_z⟩ ⟨unitC c_x c_y c_z c_x, unitC c_x c_y c_z c_y, unitC c_x c_y c_z c_z⟩ = s at *
  generalize dotN (facC (unitC a_x a_y a_z a_x) (unitC a_x a_y a_z a_x) (unitC a_x a_y a_z a_y) (unitC a_x a_y a_z a_z) (unitC b_x b_y b_z b_x) (unitC b_x b_y b_z b_y) (unitC b_x b_y b_z b_z)) (facC (unitC a_x a_y a_z a_y) (unitC a_x a_y a_z a_x) (unitC a_x a_y a_z a_y) (unitC a_x a_y a_z a_z) (unitC b_x b_y b_z b_x) (unitC b_x b_y b_z b_y) (unitC b_x b_y b_z b_z)) (facC (unitC a_x a_y a_z a_z) (unitC a_x a_y a_z a_x) (unitC a_x a_y a_z a_y) (unitC a_x a_y a_z a_z) (unitC b_x b_y b_z b_x) (unitC b_x b_y b_z b_y) (unitC b_x b_y b_z b_z)) (unitC c_x c_y c_z c_x) (unitC c_x c_y c_z c_y) (unitC c_x c_y c_z c_z) = D at *
  have cb : colB p q s = true := decide_eq_true (by omega)
  rw [cb]
  clear h1 h2 h3 hm hc h
  simp only [Tr.run, decide_eq_true_eq, Bool.not_true, Bool.false_eq_true, if_false, Bool.not_eq_true', decide_eq_false_iff_not, Bool.and_eq_true, beq_iff_eq, and_true, Bool.and_eq_false_iff, beq_eq_false_iff_ne, ne_eq, reduceCtorEq, or_false]
  (repeat' split) <;> first | rfl | (exfalso; omega)

end Go.Sky

/- Matter: on which side light is thrown. -/
set_option linter.unusedSimpArgs false
set_option linter.unusedVariables false
namespace Go.Sky

theorem sz_sq (x : Int) : sz x * sz x = x * x := by unfold sz; split <;> grind
theorem sz_nn (x : Int) : 0 ≤ sz x := by unfold sz; omega
theorem sz_le {x m : Int} : sz x ≤ m ↔ -m ≤ x ∧ x ≤ m := by unfold sz; omega

/-- The sum of the sizes of a direction's coordinates. -/
theorem one_norm {x y z : Int} (h : x * x + y * y + z * z < 268468225) : sz x + sz y + sz z ≤ 28379 := by
  have a := sz_sq x; have b := sz_sq y; have c := sz_sq z
  have p := sz_nn x; have q := sz_nn y; have r := sz_nn z
  generalize sz x = u at *
  generalize sz y = v at *
  generalize sz z = w at *
  have e : (u + v + w) * (u + v + w) + (u - v) * (u - v) + (u - w) * (u - w) + (v - w) * (v - w) = 3 * (u * u + v * v + w * w) := by clear a b c h; grind
  have := sq_nonneg (u - v); have := sq_nonneg (u - w); have := sq_nonneg (v - w)
  have : u + v + w < 28380 := sq_lt (by omega) (by omega) (by omega)
  omega

theorem mul_sz {e f l : Int} (h : -l ≤ e ∧ e ≤ l) : -(l * sz f) ≤ e * f ∧ e * f ≤ l * sz f := by
  have := mul_abs h (show -(sz f) ≤ f ∧ f ≤ sz f by unfold sz; omega)
  exact this

/-- How great the length is against the greatest coordinate. -/
theorem len_most {x y z : Int} (h : okU x y z = true) : mostI (nrm x y z x) (nrm x y z y) (nrm x y z z) ≤ lenU x y z := by
  obtain ⟨hn, l1, l2, l3, l4⟩ := len_spec h
  have nr := near_r hn
  generalize nrm x y z x = a at *
  generalize nrm x y z y = b at *
  generalize nrm x y z z = c at *
  have hm : mostI a b c ≤ 1048576 := by unfold mostI; simp only [max_r]; rw [sat_id (by omega), sat_id (by omega), sat_id (by omega)]; omega
  obtain ⟨_, _, _, hh⟩ := most_spec (x := a) (y := b) (z := c) (by omega)
  have h0 := most_nonneg a b c
  have sa := sq_nonneg a; have sb := sq_nonneg b; have sc := sq_nonneg c
  have key : ∀ q : Int, (mostI a b c = q ∨ mostI a b c = -q) → mostI a b c * mostI a b c = q * q := by
    intro q h
    rcases h with h | h <;> rw [h] <;> grind
  have hq : mostI a b c * mostI a b c < (lenU x y z + 1) * (lenU x y z + 1) := by
    rcases hh with h | h | h | h | h | h
    · rw [key a (.inl h)]; omega
    · rw [key a (.inr h)]; omega
    · rw [key b (.inl h)]; omega
    · rw [key b (.inr h)]; omega
    · rw [key c (.inl h)]; omega
    · rw [key c (.inr h)]; omega
  have := sq_lt h0 (by omega) hq
  omega

section
variable {tx ty tz fx fy fz : Int}

/-- A direction's part along a vector, by the size of the vector. -/
theorem unit_part {B C M S : Int} (hok : okU tx ty tz = true) (hm : mostI tx ty tz ≤ 524288) (hS : sz fx + sz fy + sz fz ≤ S) (hT : tx * fx + ty * fy + tz * fz ≤ B)
    (hB : 0 ≤ B) (hC : 0 ≤ C) (hM : M ≤ mostI tx ty tz) (hMC : 16384 * B ≤ M * C) :
    unitC tx ty tz tx * fx + unitC tx ty tz ty * fy + unitC tx ty tz tz * fz ≤ C + S := by
  have hm1 : 1 ≤ mostI tx ty tz := by have := okU_r hok; have := most_nonneg tx ty tz; omega
  obtain ⟨K, K1, K2, K3⟩ := nrm_up hm1 hm
  have hl := len_most hok
  rw [K3] at hl
  obtain ⟨_, l1, l2, l3, l4⟩ := len_spec hok
  have u : ∀ q, unitC tx ty tz q = (K * q * 16384).tdiv (lenU tx ty tz) := fun q => by unfold unitC; rw [if_pos hok, K2]
  rw [u, u, u]
  generalize lenU tx ty tz = l at *
  have st : ∀ q f : Int, l * ((K * q * 16384).tdiv l * f) ≤ 16384 * (K * (q * f)) + l * sz f := by
    intro q f
    have h := tdiv_facts (A := K * q * 16384) (l := l) (by omega)
    have h2 := mul_sz (e := l * (K * q * 16384).tdiv l - K * q * 16384) (f := f) (l := l) (by omega)
    have e : (l * (K * q * 16384).tdiv l - K * q * 16384) * f = l * ((K * q * 16384).tdiv l * f) - 16384 * (K * (q * f)) := by clear h h2; grind
    omega
  have sx := st tx fx; have sy := st ty fy; have sz' := st tz fz
  generalize (K * tx * 16384).tdiv l * fx = A at *
  generalize (K * ty * 16384).tdiv l * fy = A2 at *
  generalize (K * tz * 16384).tdiv l * fz = A3 at *
  have e1 : l * A + l * A2 + l * A3 = l * (A + A2 + A3) := by rw [Int.mul_add, Int.mul_add]
  have e2 : K * (tx * fx) + K * (ty * fy) + K * (tz * fz) = K * (tx * fx + ty * fy + tz * fz) := by rw [Int.mul_add, Int.mul_add]
  have e3 : l * sz fx + l * sz fy + l * sz fz = l * (sz fx + sz fy + sz fz) := by rw [Int.mul_add, Int.mul_add]
  have e4 : l * (sz fx + sz fy + sz fz) ≤ l * S := Int.mul_le_mul_of_nonneg_left hS (by omega)
  generalize tx * fx + ty * fy + tz * fz = T at *
  have g1 : K * T ≤ K * B := Int.mul_le_mul_of_nonneg_left hT (by omega)
  have g2 : K * (16384 * B) ≤ K * (M * C) := Int.mul_le_mul_of_nonneg_left hMC (by omega)
  have g3 : K * M ≤ K * mostI tx ty tz := Int.mul_le_mul_of_nonneg_left hM (by omega)
  have g4 : K * M * C ≤ l * C := Int.mul_le_mul_of_nonneg_right (by omega) hC
  have g5 : K * (M * C) = K * M * C := by rw [Int.mul_assoc]
  have g6 : K * (16384 * B) = 16384 * (K * B) := by grind
  have fin : l * (A + A2 + A3) ≤ l * (C + S) := by rw [Int.mul_add l C S]; omega
  exact Int.le_of_mul_le_mul_left fin (by omega)

/-- Halved, as often as may be: what is lost. -/
theorem downS_err : ∀ (k : Nat) (q M : Int), ∃ J : Int, 1 ≤ J ∧ -J < J * downS k q M - q ∧ J * downS k q M - q < J
  | 0, q, M => ⟨1, by omega, by simp only [downS]; omega, by simp only [downS]; omega⟩
  | k + 1, q, M => by
    rw [downS]
    split
    · obtain ⟨J, h1, h2, h3⟩ := downS_err k (q.tdiv 2) (M / 2)
      refine ⟨2 * J, by omega, ?_, ?_⟩ <;>
      · have t := tdiv2 q
        have e : 2 * J * downS k (q.tdiv 2) (M / 2) = 2 * (J * downS k (q.tdiv 2) (M / 2)) := by rw [Int.mul_assoc]
        omega
    · exact ⟨1, by omega, by omega, by omega⟩

theorem downS_err3 : ∀ (k : Nat) (M : Int), ∃ J : Int, 1 ≤ J ∧ ∀ q, -J < J * downS k q M - q ∧ J * downS k q M - q < J
  | 0, M => ⟨1, by omega, fun q => by simp only [downS]; omega⟩
  | k + 1, M => by
    by_cases hM : M ≥ 1048576
    · obtain ⟨J, h1, h2⟩ := downS_err3 k (M / 2)
      refine ⟨2 * J, by omega, fun q => ?_⟩
      rw [downS, if_pos hM]
      have t := tdiv2 q
      have h := h2 (q.tdiv 2)
      have e : 2 * J * downS k (q.tdiv 2) (M / 2) = 2 * (J * downS k (q.tdiv 2) (M / 2)) := by rw [Int.mul_assoc]
      omega
    · exact ⟨1, by omega, fun q => by rw [downS, if_neg hM]; omega⟩

/-- What stands upon a vector still does as a direction. -/
theorem unit_orth {S : Int} (hok : okU tx ty tz = true) (hS : sz fx + sz fy + sz fz ≤ S) (hT : tx * fx + ty * fy + tz * fz = 0) :
    32 * (unitC tx ty tz tx * fx + unitC tx ty tz ty * fy + unitC tx ty tz tz * fz) ≤ 33 * S := by
  have hr := okU_r hok
  have hm0 := most_nonneg tx ty tz
  rcases (show mostI tx ty tz ≤ 524288 ∨ 524288 < mostI tx ty tz by omega) with hm | hm
  · have := unit_part (B := 0) (C := 0) (M := 0) hok hm hS (by omega) (by omega) (by omega) (by omega) (by omega)
    have : 0 ≤ S := by have := sz_nn fx; have := sz_nn fy; have := sz_nn fz; omega
    omega
  obtain ⟨J, J1, J2⟩ := downS_err3 45 (mostI (upS 20 tx (mostI tx ty tz)) (upS 20 ty (mostI tx ty tz)) (upS 20 tz (mostI tx ty tz)))
  have up : ∀ q, upS 20 q (mostI tx ty tz) = q := fun q => by rw [upS, if_neg (by omega)]
  have hn : ∀ q, -J < J * nrm tx ty tz q - q ∧ J * nrm tx ty tz q - q < J := by
    intro q
    have := J2 q
    unfold nrm
    rw [up q]
    exact this
  obtain ⟨_, l1, l2, l3, l4⟩ := len_spec hok
  have u : ∀ q, unitC tx ty tz q = (nrm tx ty tz q * 16384).tdiv (lenU tx ty tz) := fun q => by unfold unitC; rw [if_pos hok]
  rw [u, u, u]
  have hx := hn tx; have hy := hn ty; have hz := hn tz
  generalize nrm tx ty tz tx = a at *
  generalize nrm tx ty tz ty = b at *
  generalize nrm tx ty tz tz = c at *
  generalize lenU tx ty tz = l at *
  have st : ∀ n q f : Int, (-J < J * n - q ∧ J * n - q < J) → l * J * ((n * 16384).tdiv l * f) ≤ 16384 * (q * f) + 16384 * (J * sz f) + l * J * sz f := by
    intro n q f hq
    have h := tdiv_facts (A := n * 16384) (l := l) (by omega)
    have h2 := mul_sz (e := l * (n * 16384).tdiv l - n * 16384) (f := f) (l := l) (by omega)
    have h3 := mul_sz (e := J * n - q) (f := f) (l := J) (by omega)
    have h4 : J * ((l * (n * 16384).tdiv l - n * 16384) * f) ≤ J * (l * sz f) := Int.mul_le_mul_of_nonneg_left h2.2 (by omega)
    have e1 : J * ((l * (n * 16384).tdiv l - n * 16384) * f) = l * J * ((n * 16384).tdiv l * f) - 16384 * (J * n * f) := by clear h h2 h3 h4; grind
    have e2 : (J * n - q) * f = J * n * f - q * f := by rw [Int.sub_mul]
    have e3 : J * (l * sz f) = l * J * sz f := by clear h h2 h3 h4 e1; grind
    omega
  have sx := st a tx fx hx; have sy := st b ty fy hy; have sz' := st c tz fz hz
  generalize (a * 16384).tdiv l * fx = A at *
  generalize (b * 16384).tdiv l * fy = A2 at *
  generalize (c * 16384).tdiv l * fz = A3 at *
  have e1 : l * J * A + l * J * A2 + l * J * A3 = l * J * (A + A2 + A3) := by rw [Int.mul_add, Int.mul_add]
  have e3 : l * J * sz fx + l * J * sz fy + l * J * sz fz = l * J * (sz fx + sz fy + sz fz) := by rw [Int.mul_add, Int.mul_add]
  have e5 : J * sz fx + J * sz fy + J * sz fz = J * (sz fx + sz fy + sz fz) := by rw [Int.mul_add, Int.mul_add]
  have lJ : 524288 * J ≤ l * J := Int.mul_le_mul_of_nonneg_right l1 (by omega)
  have s0 : 0 ≤ sz fx + sz fy + sz fz := by have := sz_nn fx; have := sz_nn fy; have := sz_nn fz; omega
  have e6 : 524288 * J * (sz fx + sz fy + sz fz) ≤ l * J * (sz fx + sz fy + sz fz) := Int.mul_le_mul_of_nonneg_right lJ s0
  have e7 : 524288 * J * (sz fx + sz fy + sz fz) = 524288 * (J * (sz fx + sz fy + sz fz)) := by rw [Int.mul_assoc]
  have e8 : l * J * (sz fx + sz fy + sz fz) ≤ l * J * S := Int.mul_le_mul_of_nonneg_left hS (by omega)
  have fin : l * J * (32 * (A + A2 + A3)) ≤ l * J * (33 * S) := by
    have x1 : l * J * (32 * (A + A2 + A3)) = 32 * (l * J * (A + A2 + A3)) := by grind
    have x2 : l * J * (33 * S) = 33 * (l * J * S) := by grind
    omega
  exact Int.le_of_mul_le_mul_left fin (by omega)

end

/-- A direction's direction is within 4 of it. -/
theorem unit_self4 {x y z : Int} (hd : 268369924 ≤ x * x + y * y + z * z ∧ x * x + y * y + z * z < 268468225) :
    okU x y z = true ∧ ∀ q, (-16384 ≤ q ∧ q ≤ 16384) → -4 ≤ unitC x y z q - q ∧ unitC x y z q - q ≤ 4 := by
  obtain ⟨hok, _⟩ := unit_self hd
  have cf := coord_r hd.2
  have hm2 : mostI x y z ≤ 16384 := by unfold mostI; simp only [max_r]; rw [sat_id (by omega), sat_id (by omega), sat_id (by omega)]; omega
  have hm1 : 1 ≤ mostI x y z := by have := okU_r hok; have := most_nonneg x y z; omega
  obtain ⟨K, K1, K2, K3⟩ := nrm_up hm1 (by omega)
  obtain ⟨_, l1, l2, l3, l4⟩ := len_spec hok
  refine ⟨hok, fun q hq => ?_⟩
  have u : unitC x y z q = (K * q * 16384).tdiv (lenU x y z) := by unfold unitC; rw [if_pos hok, K2]
  rw [u]
  rw [K2, K2, K2] at l3 l4
  generalize lenU x y z = l at *
  have e : K * x * (K * x) + K * y * (K * y) + K * z * (K * z) = K * K * (x * x + y * y + z * z) := by clear hd l3 l4 cf; grind
  rw [e] at l3 l4
  have hKK : 0 ≤ K * K := Int.mul_nonneg (by omega) (by omega)
  have up : l < K * 16385 := by
    refine sq_lt (by omega) (by omega) ?_
    have h1 : K * K * (x * x + y * y + z * z) ≤ K * K * 268468224 := Int.mul_le_mul_of_nonneg_left (by omega) hKK
    have h2 : 1 ≤ K * K := by have := mul_mono (a := 1) (b := K) (c := 1) (d := K) (by omega) K1 (by omega) K1; omega
    have e2 : K * 16385 * (K * 16385) = K * K * 268468225 := by grind
    omega
  have lo : K * 16382 < l + 1 := by
    refine sq_lt (by omega) (by omega) ?_
    have h1 : K * K * 268369924 ≤ K * K * (x * x + y * y + z * z) := Int.mul_le_mul_of_nonneg_left hd.1 hKK
    have e2 : K * 16382 * (K * 16382) = K * K * 268369924 := by grind
    omega
  have h := tdiv_facts (A := K * q * 16384) (l := l) (by omega)
  have h2 := mul_abs (x := K * 16384 - l) (y := q) (m := 2 * K) (k := 16384) (by omega) hq
  have e3 : (K * 16384 - l) * q = K * q * 16384 - l * q := by clear h h2; grind
  have e4 : l * ((K * q * 16384).tdiv l - q) = l * (K * q * 16384).tdiv l - l * q := by rw [Int.mul_sub]
  generalize (K * q * 16384).tdiv l = p at *
  have f1 : l * (p - q) ≤ l * 4 := by omega
  have f2 : l * (-4) ≤ l * (p - q) := by omega
  have := Int.le_of_mul_le_mul_left f1 (by omega)
  have := Int.le_of_mul_le_mul_left f2 (by omega)
  omega

/-! ### mirrored -/

section
variable {dx dy dz fx fy fz D : Int}

/-- One coordinate that is mirrored. -/
theorem mir_coord {d f D m : Int} (hm : m = d - f * (2 * (-D)) / 268435456) : 268435456 * m - 268435456 * d - 2 * (D * f) ≥ 0 ∧ 268435456 * m - 268435456 * d - 2 * (D * f) < 268435456 := by
  have h1 := Int.mul_ediv_add_emod (f * (2 * (-D))) 268435456
  have h2 := Int.emod_nonneg (f * (2 * (-D))) (show (268435456 : Int) ≠ 0 by omega)
  have h3 := Int.emod_lt_of_pos (f * (2 * (-D))) (show (0 : Int) < 268435456 by omega)
  have e : f * (2 * (-D)) = -(2 * (D * f)) := by grind
  rw [e] at h1 h2 h3 hm
  omega

/-- What is mirrored is no short one, and hardly against the surface. -/
theorem mir_core (hd : 268369924 ≤ dx * dx + dy * dy + dz * dz ∧ dx * dx + dy * dy + dz * dz < 268468225) (hf : 268369924 ≤ fx * fx + fy * fy + fz * fz ∧ fx * fx + fy * fy + fz * fz < 268468225)
    (hD : D = -(dx * fx + dy * fy + dz * fz)) (h0 : 0 ≤ D) {mx my mz : Int} (hx : mx = dx - fx * (2 * (-D)) / 268435456) (hy : my = dy - fy * (2 * (-D)) / 268435456) (hz : mz = dz - fz * (2 * (-D)) / 268435456) :
    okU mx my mz = true ∧ 1000 ≤ mostI mx my mz ∧ mostI mx my mz ≤ 524288 ∧ -28379 ≤ mx * fx + my * fy + mz * fz := by
  have px := mir_coord hx; have py := mir_coord hy; have pz := mir_coord hz
  have cd := coord_r hd.2; have cf := coord_r hf.2
  obtain ⟨_, hDl⟩ := cos_facts hd hf hD h0
  have hh : hold (D / 16384) 0 16384 ≤ 16384 := by unfold hold; omega
  have s1 := one_norm hf.2
  -- bounds of the coordinates
  have bD : ∀ f : Int, (-16384 ≤ f ∧ f ≤ 16384) → -(268468224 * 16384) ≤ D * f ∧ D * f ≤ 268468224 * 16384 := fun f h => mul_abs (x := D) (m := 268468224) (by omega) h
  have b1 := bD fx cf.1; have b2 := bD fy cf.2.1; have b3 := bD fz cf.2.2
  have rx : -49200 ≤ mx ∧ mx ≤ 49200 := by omega
  have ry : -49200 ≤ my ∧ my ≤ 49200 := by omega
  have rz : -49200 ≤ mz ∧ mz ≤ 49200 := by omega
  have top : mostI mx my mz ≤ 524288 := by unfold mostI; simp only [max_r]; rw [sat_id (by omega), sat_id (by omega), sat_id (by omega)]; omega
  -- along the surface's vector
  have st : ∀ m d f : Int, (268435456 * m - 268435456 * d - 2 * (D * f) ≥ 0 ∧ 268435456 * m - 268435456 * d - 2 * (D * f) < 268435456) → 268435456 * (m * f) ≥ 268435456 * (d * f) + 2 * (D * (f * f)) - 268435456 * sz f := by
    intro m d f h
    have := mul_sz (e := 268435456 * m - 268435456 * d - 2 * (D * f)) (f := f) (l := 268435456) (by omega)
    have e : (268435456 * m - 268435456 * d - 2 * (D * f)) * f = 268435456 * (m * f) - 268435456 * (d * f) - 2 * (D * (f * f)) := by clear h; grind
    omega
  have sx := st mx dx fx px; have sy := st my dy fy py; have sz' := st mz dz fz pz
  have e1 : D * (fx * fx) + D * (fy * fy) + D * (fz * fz) = D * (fx * fx + fy * fy + fz * fz) := by rw [Int.mul_add, Int.mul_add]
  have e2 : D * 268369924 ≤ D * (fx * fx + fy * fy + fz * fz) := Int.mul_le_mul_of_nonneg_left hf.1 h0
  have dot : mx * fx + my * fy + mz * fz ≥ -28379 ∧ 268435456 * (mx * fx + my * fy + mz * fz) ≥ 268304392 * D - 268435456 * 28379 := by omega
  have most : 1000 ≤ mostI mx my mz := by
    rcases (show mostI mx my mz ≤ 999 ∨ 1000 ≤ mostI mx my mz by omega) with h | h
    · exfalso
      obtain ⟨g1, g2, g3, _⟩ := most_spec (x := mx) (y := my) (z := mz) (by omega)
      rcases (show D ≤ 67108864 ∨ 67108864 < D by omega) with hs | hs
      · have bS : ∀ f : Int, (-16384 ≤ f ∧ f ≤ 16384) → -(67108864 * 16384) ≤ D * f ∧ D * f ≤ 67108864 * 16384 := fun f h => mul_abs (x := D) (m := 67108864) (by omega) h
        have c1 := bS fx cf.1; have c2 := bS fy cf.2.1; have c3 := bS fz cf.2.2
        have q1 := sq_le (a := dx) (b := 9300) (by omega) (by omega)
        have q2 := sq_le (a := dy) (b := 9300) (by omega) (by omega)
        have q3 := sq_le (a := dz) (b := 9300) (by omega) (by omega)
        omega
      · have k1 := mul_sz (e := mx) (f := fx) (l := 999) (by omega)
        have k2 := mul_sz (e := my) (f := fy) (l := 999) (by omega)
        have k3 := mul_sz (e := mz) (f := fz) (l := 999) (by omega)
        omega
    · exact h
  exact ⟨by unfold okU; simp; omega, most, top, dot.1⟩

/-- The mirrored direction stays on its side, or hardly beside it. -/
theorem mir_side (hd : 268369924 ≤ dx * dx + dy * dy + dz * dz ∧ dx * dx + dy * dy + dz * dz < 268468225) (hf : 268369924 ≤ fx * fx + fy * fy + fz * fz ∧ fx * fx + fy * fy + fz * fz < 268468225)
    (hD : D = -(dx * fx + dy * fy + dz * fz)) (h0 : 0 ≤ D) {mx my mz : Int} (hx : mx = dx - fx * (2 * (-D)) / 268435456) (hy : my = dy - fy * (2 * (-D)) / 268435456) (hz : mz = dz - fz * (2 * (-D)) / 268435456) :
    okU mx my mz = true ∧ -1048576 ≤ unitC mx my mz mx * fx + unitC mx my mz my * fy + unitC mx my mz mz * fz := by
  obtain ⟨h1, h2, h3, h4⟩ := mir_core hd hf hD h0 hx hy hz
  have s1 := one_norm hf.2
  have neg : ∀ q, sz (-q) = sz q := fun q => by unfold sz; omega
  have := unit_part (fx := -fx) (fy := -fy) (fz := -fz) (B := 28379) (C := 464962) (M := 1000) (S := 28379) h1 h3 (by rw [neg, neg, neg]; exact s1) (by rw [Int.mul_neg, Int.mul_neg, Int.mul_neg]; omega) (by omega) (by omega) h2 (by omega)
  rw [Int.mul_neg, Int.mul_neg, Int.mul_neg] at this
  exact ⟨h1, by omega⟩

end

/-! ### anywhere on the side -/

theorem sum_sq3 {p q r k : Int} (h : 3 * (p * p + q * q + r * r) < (k + 1) * (k + 1)) (hk : 0 ≤ k) : sz p + sz q + sz r ≤ k := by
  have a := sz_sq p; have b := sz_sq q; have c := sz_sq r
  have x := sz_nn p; have y := sz_nn q; have z := sz_nn r
  generalize sz p = u at *
  generalize sz q = v at *
  generalize sz r = w at *
  have e : (u + v + w) * (u + v + w) + (u - v) * (u - v) + (u - w) * (u - w) + (v - w) * (v - w) = 3 * (u * u + v * v + w * w) := by clear a b c h; grind
  have := sq_nonneg (u - v); have := sq_nonneg (u - w); have := sq_nonneg (v - w)
  have : u + v + w < k + 1 := sq_lt (by omega) (by omega) (by omega)
  omega

section
variable {fx fy fz nx ny nz ux uy uz vx vy vz x y z : Int}

theorem half_core (hf : 268369924 ≤ fx * fx + fy * fy + fz * fz ∧ fx * fx + fy * fy + fz * fz < 268468225)
    (hn : 268369924 ≤ nx * nx + ny * ny + nz * nz ∧ nx * nx + ny * ny + nz * nz < 268468225) (hu : 268369924 ≤ ux * ux + uy * uy + uz * uz ∧ ux * ux + uy * uy + uz * uz < 268468225)
    (hv : 268369924 ≤ vx * vx + vy * vy + vz * vz ∧ vx * vx + vy * vy + vz * vz < 268468225) (c1 : -4 ≤ nx - fx ∧ nx - fx ≤ 4) (c2 : -4 ≤ ny - fy ∧ ny - fy ≤ 4) (c3 : -4 ≤ nz - fz ∧ nz - fz ≤ 4)
    (o1 : -29266 ≤ ux * nx + uy * ny + uz * nz ∧ ux * nx + uy * ny + uz * nz ≤ 29266) (o2 : -29266 ≤ vx * nx + vy * ny + vz * nz ∧ vx * nx + vy * ny + vz * nz ≤ 29266)
    (o3 : -29266 ≤ vx * ux + vy * uy + vz * uz ∧ vx * ux + vy * uy + vz * uz ≤ 29266) (hx : -16384 ≤ x ∧ x ≤ 16384) (hy : -16384 ≤ y ∧ y ≤ 16384) (hz : 0 ≤ z ∧ z ≤ 16384)
    (hw : 134150000 ≤ x * x + y * y + z * z) {ox oy oz : Int} (ex : ox = outC ux vx nx x y z) (ey : oy = outC uy vy ny x y z) (ez : oz = outC uz vz nz x y z) :
    okU ox oy oz = true ∧ 6600 ≤ mostI ox oy oz ∧ mostI ox oy oz ≤ 524288 ∧ -283700 ≤ ox * fx + oy * fy + oz * fz := by
  unfold outC at ex ey ez
  have dv : ∀ {o p : Int}, o = p / 16384 → 0 ≤ p - 16384 * o ∧ p - 16384 * o < 16384 := fun h => by omega
  have px := dv ex; have py := dv ey; have pz := dv ez
  clear ex ey ez dv
  have N2 : (x * ux + y * vx + z * nx) * (x * ux + y * vx + z * nx) + (x * uy + y * vy + z * ny) * (x * uy + y * vy + z * ny) + (x * uz + y * vz + z * nz) * (x * uz + y * vz + z * nz) =
      (x * x) * (ux * ux + uy * uy + uz * uz) + (y * y) * (vx * vx + vy * vy + vz * vz) + (z * z) * (nx * nx + ny * ny + nz * nz) +
      2 * ((x * y) * (vx * ux + vy * uy + vz * uz) + (x * z) * (ux * nx + uy * ny + uz * nz) + (y * z) * (vx * nx + vy * ny + vz * nz)) := by
    clear hf hn hu hv o1 o2 o3 hw px py pz; grind
  have N1 : nx * (x * ux + y * vx + z * nx) + ny * (x * uy + y * vy + z * ny) + nz * (x * uz + y * vz + z * nz) =
      x * (ux * nx + uy * ny + uz * nz) + y * (vx * nx + vy * ny + vz * nz) + z * (nx * nx + ny * ny + nz * nz) := by
    clear hf hn hu hv o1 o2 o3 hw px py pz N2; grind
  have s1 := one_norm hn.2
  generalize x * ux + y * vx + z * nx = p1 at *
  generalize x * uy + y * vy + z * ny = p2 at *
  generalize x * uz + y * vz + z * nz = p3 at *
  generalize ux * nx + uy * ny + uz * nz = q1 at *
  generalize vx * nx + vy * ny + vz * nz = q2 at *
  generalize vx * ux + vy * uy + vz * uz = q3 at *
  generalize ux * ux + uy * uy + uz * uz = U2 at *
  generalize vx * vx + vy * vy + vz * vz = V2 at *
  generalize hN : nx * nx + ny * ny + nz * nz = M2 at *
  have xx := sq_nonneg x; have yy := sq_nonneg y; have zz := sq_nonneg z
  have lx := sq_le hx.1 hx.2; have ly := sq_le hy.1 hy.2; have lz := sq_le (a := z) (b := 16384) (by omega) hz.2
  have a1 : (x * x) * 268369924 ≤ (x * x) * U2 := Int.mul_le_mul_of_nonneg_left hu.1 xx
  have a2 : (y * y) * 268369924 ≤ (y * y) * V2 := Int.mul_le_mul_of_nonneg_left hv.1 yy
  have a3 : (z * z) * 268369924 ≤ (z * z) * M2 := Int.mul_le_mul_of_nonneg_left hn.1 zz
  have b1 : (x * x) * U2 ≤ (x * x) * 268468224 := Int.mul_le_mul_of_nonneg_left (by omega) xx
  have b2 : (y * y) * V2 ≤ (y * y) * 268468224 := Int.mul_le_mul_of_nonneg_left (by omega) yy
  have b3 : (z * z) * M2 ≤ (z * z) * 268468224 := Int.mul_le_mul_of_nonneg_left (by omega) zz
  have m1 := mul_abs hx hy
  have m2 := mul_abs hx (show -16384 ≤ z ∧ z ≤ 16384 by omega)
  have m3 := mul_abs hy (show -16384 ≤ z ∧ z ≤ 16384 by omega)
  have k1 := mul_abs (x := x * y) (m := 268435456) (by omega) o3
  have k2 := mul_abs (x := x * z) (m := 268435456) (by omega) o1
  have k3 := mul_abs (x := y * z) (m := 268435456) (by omega) o2
  have g1 := mul_abs hx o1
  have g2 := mul_abs hy o2
  have g3 : 0 ≤ z * M2 := Int.mul_nonneg hz.1 (by omega)
  have P2 : p1 * p1 + p2 * p2 + p3 * p3 ≤ 216300000000000000 ∧ 35954000000000000 ≤ p1 * p1 + p2 * p2 + p3 * p3 := by omega
  have one := sum_sq3 (p := p1) (q := p2) (r := p3) (k := 805600000) (by omega) (by omega)
  have so : sz ox + sz oy + sz oz ≤ 49180 := by
    have hs : ∀ {o p : Int}, (0 ≤ p - 16384 * o ∧ p - 16384 * o < 16384) → 16384 * sz o ≤ sz p + 16384 := fun h => by unfold sz; omega
    have h1 := hs px; have h2 := hs py; have h3 := hs pz
    omega
  have nP : nx * p1 + ny * p2 + nz * p3 ≥ -958988288 := by omega
  have st : ∀ {n o p : Int}, (0 ≤ p - 16384 * o ∧ p - 16384 * o < 16384) → 16384 * (o * n) ≥ n * p - 16384 * sz n := by
    intro n o p h
    have := mul_sz (e := p - 16384 * o) (f := n) (l := 16384) (by omega)
    have e : (p - 16384 * o) * n = n * p - 16384 * (o * n) := by clear h; grind
    omega
  have sx := st (n := nx) px; have sy := st (n := ny) py; have sz3 := st (n := nz) pz
  have nO : ox * nx + oy * ny + oz * nz ≥ -86912 := by omega
  have df : ∀ {o n f : Int}, (-4 ≤ n - f ∧ n - f ≤ 4) → o * f ≥ o * n - 4 * sz o := by
    intro o n f h
    have := mul_sz (e := n - f) (f := o) (l := 4) h
    have e : (n - f) * o = o * n - o * f := by grind
    omega
  have d1 := df (o := ox) c1; have d2 := df (o := oy) c2; have d3 := df (o := oz) c3
  have bo : (-49180 ≤ ox ∧ ox ≤ 49180) ∧ (-49180 ≤ oy ∧ oy ≤ 49180) ∧ (-49180 ≤ oz ∧ oz ≤ 49180) := by unfold sz at so; omega
  have top : mostI ox oy oz ≤ 524288 := by unfold mostI; simp only [max_r]; rw [sat_id (by omega), sat_id (by omega), sat_id (by omega)]; omega
  have most : 6600 ≤ mostI ox oy oz := by
    rcases (show mostI ox oy oz ≤ 6599 ∨ 6600 ≤ mostI ox oy oz by omega) with h | h
    · exfalso
      obtain ⟨g1, g2, g3, _⟩ := most_spec (x := ox) (y := oy) (z := oz) (by omega)
      have z1 := sq_le (a := p1) (b := 108134400) (by omega) (by omega)
      have z2 := sq_le (a := p2) (b := 108134400) (by omega) (by omega)
      have z3 := sq_le (a := p3) (b := 108134400) (by omega) (by omega)
      omega
    · exact h
  refine ⟨by unfold okU; simp; omega, most, top, by omega⟩

theorem half_side (hf : 268369924 ≤ fx * fx + fy * fy + fz * fz ∧ fx * fx + fy * fy + fz * fz < 268468225) {ox oy oz : Int}
    (h : okU ox oy oz = true ∧ 6600 ≤ mostI ox oy oz ∧ mostI ox oy oz ≤ 524288 ∧ -283700 ≤ ox * fx + oy * fy + oz * fz) :
    -1048576 ≤ unitC ox oy oz ox * fx + unitC ox oy oz oy * fy + unitC ox oy oz oz * fz := by
  obtain ⟨h1, h2, h3, h4⟩ := h
  have s1 := one_norm hf.2
  have neg : ∀ q, sz (-q) = sz q := fun q => by unfold sz; omega
  have := unit_part (fx := -fx) (fy := -fy) (fz := -fz) (B := 283700) (C := 704300) (M := 6600) (S := 28379) h1 h3 (by rw [neg, neg, neg]; exact s1) (by rw [Int.mul_neg, Int.mul_neg, Int.mul_neg]; omega) (by omega) (by omega) h2 (by omega)
  rw [Int.mul_neg, Int.mul_neg, Int.mul_neg] at this
  omega

end

end Go.Sky
