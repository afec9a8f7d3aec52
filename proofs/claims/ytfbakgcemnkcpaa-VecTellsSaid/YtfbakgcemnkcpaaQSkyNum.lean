/- Numbers: what the lowest layers give. -/
import Derived.Test.YtfbakgcemnkcpaaQSkyM
import Derived.Laws.Bits64
set_option linter.unusedSimpArgs false
set_option linter.unusedVariables false
namespace Go.Sky

/-- A number held between the least and the greatest int. -/
def sat (n : Int) : Int := if n < -9223372036854775808 then -9223372036854775808 else if n > 9223372036854775807 then 9223372036854775807 else n

theorem inR_i64 {n : Int} : InR .i64 n ↔ -9223372036854775808 ≤ n ∧ n ≤ 9223372036854775807 := by
  unfold InR
  simp only [IntKind.min, IntKind.max, IntKind.bits, IntKind.signed, if_true]
  constructor <;> intro h <;> (constructor <;> omega)

theorem inR_u64 {n : Int} : InR .u64 n ↔ 0 ≤ n ∧ n ≤ 18446744073709551615 := by
  unfold InR
  simp only [IntKind.min, IntKind.max, IntKind.bits, IntKind.signed]
  constructor <;> intro h <;> simp at * <;> omega

theorem wrap_i64 (n : Int) : IntKind.i64.wrap n = (n + 9223372036854775808) % 18446744073709551616 - 9223372036854775808 := by
  simp only [IntKind.wrap, IntKind.bits, IntKind.signed, Bool.true_and]
  split <;> simp at * <;> omega

theorem wrap_u64 (n : Int) : IntKind.u64.wrap n = n % 18446744073709551616 := by simp [IntKind.wrap, IntKind.bits, IntKind.signed]

theorem wrap_i64_id {n : Int} (h : -9223372036854775808 ≤ n ∧ n ≤ 9223372036854775807) : IntKind.i64.wrap n = n := by rw [wrap_i64]; omega
theorem wrap_u64_id {n : Int} (h : 0 ≤ n ∧ n ≤ 18446744073709551615) : IntKind.u64.wrap n = n := by rw [wrap_u64]; omega

theorem sat_id {n : Int} (h : -9223372036854775808 ≤ n ∧ n ≤ 9223372036854775807) : sat n = n := by unfold sat; omega
theorem sat_r (n : Int) : -9223372036854775808 ≤ sat n ∧ sat n ≤ 9223372036854775807 := by unfold sat; omega

theorem max_r (x y : Int) : mm true x y = if y > x then y else x := by simp [mm]
theorem min_r (x y : Int) : mm false x y = if y < x then y else x := by simp [mm]

theorem toInt_neg (b : BitVec 64) : (b.toInt < 0) ↔ b.msb = true := by
  rw [BitVec.toInt_eq_msb_cond]
  cases h : b.msb
  · simp
  · simp; omega

theorem ofInt_neg (x : Int) (hx : InR .i64 x) : (BitVec.ofInt 64 x).msb = decide (x < 0) := by
  rw [inR_i64] at hx
  have h := toInt_neg (BitVec.ofInt 64 x)
  rw [BitVec.toInt_ofInt, Int.bmod_def] at h
  by_cases hx0 : x < 0
  · simp only [hx0, decide_true]; apply h.1; omega
  · simp only [hx0, decide_false]
    cases hm : (BitVec.ofInt 64 x).msb
    · rfl
    · have := h.2 hm; omega

theorem wrap_toNat (b : BitVec 64) : IntKind.i64.wrap (b.toNat : Int) = b.toInt := by
  rw [wrap_i64, BitVec.toInt_eq_toNat_bmod, Int.bmod_def]
  have := b.isLt
  omega

theorem toInt_r (b : BitVec 64) : InR .i64 b.toInt := by
  rw [inR_i64]
  have h1 := b.toInt_lt
  have h2 := b.le_toInt
  simp at h1 h2
  omega

theorem bits_xor (x y : Int) : Go.bits .xor .i64 x y = (BitVec.ofInt 64 x ^^^ BitVec.ofInt 64 y).toInt := wrap_toNat _
theorem bits_and (x y : Int) : Go.bits .and .i64 x y = (BitVec.ofInt 64 x &&& BitVec.ofInt 64 y).toInt := wrap_toNat _

/-- The sign of 'x ^ y'. -/
theorem xor_neg {x y : Int} (hx : InR .i64 x) (hy : InR .i64 y) : (Go.bits .xor .i64 x y < 0) ↔ ((x < 0) ↔ ¬ (y < 0)) := by
  rw [bits_xor, toInt_neg, BitVec.msb_xor, ofInt_neg x hx, ofInt_neg y hy]
  by_cases h1 : x < 0 <;> by_cases h2 : y < 0 <;> simp [h1, h2]
theorem xor_r (x y : Int) : InR .i64 (Go.bits .xor .i64 x y) := by rw [bits_xor]; exact toInt_r _
/-- The sign of 'x & y'. -/
theorem and_neg {x y : Int} (hx : InR .i64 x) (hy : InR .i64 y) : (Go.bits .and .i64 x y < 0) ↔ ((x < 0) ∧ (y < 0)) := by
  rw [bits_and, toInt_neg, BitVec.msb_and, ofInt_neg x hx, ofInt_neg y hy]
  by_cases h1 : x < 0 <;> by_cases h2 : y < 0 <;> simp [h1, h2]

theorem size_mul (a b : Int) : (if a < 0 then -a else a) * (if b < 0 then -b else b) = if (a < 0 ↔ ¬ (b < 0)) then - (a * b) else a * b := by
  by_cases h1 : a < 0 <;> by_cases h2 : b < 0 <;> simp [h1, h2, Int.neg_mul, Int.mul_neg]

theorem mul_sign (a b : Int) : ((a < 0 ↔ ¬ (b < 0)) → a * b ≤ 0) ∧ (¬ (a < 0 ↔ ¬ (b < 0)) → 0 ≤ a * b) := by
  constructor <;> intro h
  · by_cases h1 : a < 0
    · have : 0 ≤ b := by simp [h1] at h; omega
      exact Int.mul_nonpos_of_nonpos_of_nonneg (by omega) this
    · have : b < 0 := by simp [h1] at h; omega
      exact Int.mul_nonpos_of_nonneg_of_nonpos (by omega) (by omega)
  · by_cases h1 : a < 0
    · have : b < 0 := by simp [h1] at h; omega
      exact Int.mul_nonneg_of_nonpos_of_nonpos (by omega) (by omega)
    · have : 0 ≤ b := by simp [h1] at h; omega
      exact Int.mul_nonneg (by omega) (by omega)

/-- How great a number is. -/
def sz (n : Int) : Int := if n < 0 then -n else n

theorem times_law {a b : Int} (P : Int) (hP : P = sz a * sz b) (s : Prop) (hs : s ↔ (a < 0 ↔ ¬ (b < 0))) : (s → a * b = -P ∧ 0 ≤ P) ∧ (¬ s → a * b = P ∧ 0 ≤ P) := by
  have h := size_mul a b
  have hm := mul_sign a b
  unfold sz at hP
  rw [hs]
  constructor <;> intro g
  · have := hm.1 g
    rw [if_pos g] at h; omega
  · have := hm.2 g
    rw [if_neg g] at h; omega

end Go.Sky
