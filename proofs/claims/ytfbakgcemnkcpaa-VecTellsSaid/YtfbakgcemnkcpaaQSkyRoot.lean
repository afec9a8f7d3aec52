/- Square roots, rounded down. -/
import Derived.Test.YtfbakgcemnkcpaaQSkyO
import Derived.Lib.ItoaNum
set_option linter.unusedSimpArgs false
set_option linter.unusedVariables false
namespace Go.Sky

/-- Bit by bit. -/
def isqGo : Nat → Int → Int → Int
  | 0, _, r => r
  | i + 1, n, r => if (r + 2 ^ i) * (r + 2 ^ i) ≤ n then isqGo i n (r + 2 ^ i) else isqGo i n r

def isq (n : Int) : Int := isqGo 64 n 0

theorem isqGo_spec : ∀ (i : Nat) (n r : Int), 0 ≤ r → r * r ≤ n → n < (r + 2 ^ i) * (r + 2 ^ i) → r ≤ isqGo i n r ∧ isqGo i n r < r + 2 ^ i ∧ isqGo i n r * isqGo i n r ≤ n ∧ n < (isqGo i n r + 1) * (isqGo i n r + 1)
  | 0, n, r, h0, h1, h2 => by simp only [isqGo]; simp at h2; exact ⟨Int.le_refl _, by simp; omega, h1, h2⟩
  | i + 1, n, r, h0, h1, h2 => by
    have hp : (0 : Int) < 2 ^ i := Int.pow_pos (by decide)
    have e : (2 : Int) ^ (i + 1) = 2 ^ i + 2 ^ i := by rw [Int.pow_succ]; omega
    rw [e] at h2 ⊢
    simp only [isqGo]
    split
    · rename_i h
      obtain ⟨g1, g2, g3, g4⟩ := isqGo_spec i n (r + 2 ^ i) (by omega) h (by rw [show r + 2 ^ i + 2 ^ i = r + (2 ^ i + 2 ^ i) by omega]; exact h2)
      exact ⟨by omega, by omega, g3, g4⟩
    · rename_i h
      obtain ⟨g1, g2, g3, g4⟩ := isqGo_spec i n r h0 h1 (by omega)
      exact ⟨g1, by omega, g3, g4⟩

theorem sq_lt {a b : Int} (ha : 0 ≤ a) (hb : 0 ≤ b) (h : a * a < b * b) : a < b := by
  rcases (show a < b ∨ b ≤ a by omega) with h1 | h1
  · exact h1
  · have := Int.mul_le_mul h1 h1 hb ha; omega

theorem root_unique {n s t : Int} (hs : 0 ≤ s) (ht : 0 ≤ t) (h1 : s * s ≤ n) (h2 : n < (s + 1) * (s + 1)) (h3 : t * t ≤ n) (h4 : n < (t + 1) * (t + 1)) : s = t := by
  have a := sq_lt (a := s) (b := t + 1) hs (by omega) (by omega)
  have b := sq_lt (a := t) (b := s + 1) ht (by omega) (by omega)
  omega

theorem isq_spec {n : Int} (h0 : 0 ≤ n) (h1 : n < 340282366920938463463374607431768211456) : 0 ≤ isq n ∧ isq n < 18446744073709551616 ∧ isq n * isq n ≤ n ∧ n < (isq n + 1) * (isq n + 1) := by
  have := isqGo_spec 64 n 0 (by omega) (by omega) (by simpa using h1)
  unfold isq
  simp at this
  omega

theorem isq_eq {n s : Int} (h0 : 0 ≤ n) (h1 : n < 340282366920938463463374607431768211456) (hs : 0 ≤ s) (h2 : s * s ≤ n) (h3 : n < (s + 1) * (s + 1)) : isq n = s := by
  obtain ⟨a, b, c, d⟩ := isq_spec h0 h1
  exact root_unique a hs c d h2 h3

/-- Small ones. -/
theorem isq_32 {n : Int} (h0 : 0 ≤ n) (h1 : n < 18446744073709551616) : isq n < 4294967296 := by
  obtain ⟨a, b, c, d⟩ := isq_spec h0 (by omega)
  exact sq_lt a (by omega) (by omega)

/-- One step of Newton's. -/
theorem newton {n s r : Int} (hs : 0 ≤ s) (h1 : s * s ≤ n) (h2 : n < (s + 1) * (s + 1)) (hr : 0 < r) (hsr : s ≤ r) : s ≤ (r + n / r) / 2 ∧ ((r + n / r) / 2 ≥ r → r = s) := by
  have hq := Int.mul_ediv_add_emod n r
  have hm := Int.emod_nonneg n (show r ≠ 0 by omega)
  have hm2 := Int.emod_lt_of_pos n hr
  generalize n / r = q at hq ⊢
  generalize n % r = m at hq hm hm2
  constructor
  · -- n < r (q + 1), so (r + q + 1)² ≥ 4 r (q + 1) > 4 n ≥ (2 s)²
    have hq0 : 0 ≤ q := by
      rcases (show q < 0 ∨ 0 ≤ q by omega) with h | h
      · have : r * q ≤ r * (-1) := Int.mul_le_mul_of_nonneg_left (by omega) (by omega)
        have : 0 ≤ s * s := Int.mul_nonneg hs hs
        omega
      · exact h
    have h3 : (2 * s) * (2 * s) < (r + q + 1) * (r + q + 1) := by
      have e : (r + q + 1) * (r + q + 1) = (r - q - 1) * (r - q - 1) + 4 * (r * q + r) := by grind
      have e2 : (2 * s) * (2 * s) = 4 * (s * s) := by grind
      have h4 : 0 ≤ (r - q - 1) * (r - q - 1) := by
        rcases (show (r - q - 1) < 0 ∨ 0 ≤ (r - q - 1) by omega) with h | h
        · exact Int.mul_nonneg_of_nonpos_of_nonpos (by omega) (by omega)
        · exact Int.mul_nonneg h h
      omega
    have := sq_lt (by omega) (by omega) h3
    omega
  · intro h
    have h5 : r ≤ q := by omega
    have h6 : r * r ≤ r * q := Int.mul_le_mul_of_nonneg_left h5 (by omega)
    have := sq_lt (a := r) (b := s + 1) (by omega) (by omega) (by omega)
    omega

theorem div_small {n s r : Int} (hs : 0 ≤ s) (h2 : n < (s + 1) * (s + 1)) (hr : 0 < r) (hsr : s ≤ r) (h1 : 1 ≤ s) : n / r ≤ s + 2 := by
  have h3 : n < r * (s + 3) := by
    have a : s * (s + 3) ≤ r * (s + 3) := Int.mul_le_mul_of_nonneg_right hsr (by omega)
    have e : (s + 1) * (s + 1) = s * (s + 3) - s + 1 := by grind
    omega
  have := Int.ediv_lt_of_lt_mul hr (by rw [Int.mul_comm]; exact h3)
  omega

theorem root_start {n : Int} (h0 : 0 < n) (h1 : n ≤ 18446744073709551615) :
    ∃ r, IntKind.u64.wrap (1 * 2 ^ min (IntKind.i64.wrap ((IntKind.i64.wrap (((Lib.bitLen n.toNat : Nat) : Int) + 1)).tdiv 2)).toNat 64) = r ∧ isq n ≤ r ∧ 0 < r ∧ r ≤ 4294967296 ∧
      ¬ (IntKind.i64.wrap ((IntKind.i64.wrap (((Lib.bitLen n.toNat : Nat) : Int) + 1)).tdiv 2) < 0) := by
  have hb := Go.Proofs.Any.bitLen_le64 n (by omega) h1
  have g1 : n.toNat < 2 ^ Lib.bitLen n.toNat := (Lib.bitLenAux_bounds 64 n.toNat (by omega) (by omega)).2.2
  obtain ⟨s0, s1, s2, s3⟩ := isq_spec (n := n) (by omega) (by omega)
  generalize Lib.bitLen n.toNat = b at hb g1 ⊢
  have e0 : IntKind.i64.wrap ((b : Int) + 1) = b + 1 := wrap_i64_id (by omega)
  have e1 : ((b : Int) + 1).tdiv 2 = ((b + 1) / 2 : Nat) := by rw [Int.tdiv_eq_ediv_of_nonneg (by omega)]; omega
  have e2 : IntKind.i64.wrap (((b + 1) / 2 : Nat) : Int) = ((b + 1) / 2 : Nat) := wrap_i64_id (by omega)
  rw [e0, e1, e2]
  have e3 : min (((b + 1) / 2 : Nat) : Int).toNat 64 = (b + 1) / 2 := by omega
  rw [e3, Int.one_mul]
  have hk : (b + 1) / 2 ≤ 32 := by omega
  have hb2 : b ≤ (b + 1) / 2 + (b + 1) / 2 := by omega
  generalize (b + 1) / 2 = k at hk hb2 ⊢
  have p0 : (0 : Int) < 2 ^ k := Int.pow_pos (by decide)
  have p1 : (2 : Int) ^ k ≤ 2 ^ 32 := by
    have := Nat.pow_le_pow_right (n := 2) (by decide) hk
    exact_mod_cast this
  have p2 : n < 2 ^ k * 2 ^ k := by
    have a : (2 : Nat) ^ b ≤ 2 ^ (k + k) := Nat.pow_le_pow_right (by decide) hb2
    have c : n.toNat < 2 ^ k * 2 ^ k := by rw [← Nat.pow_add]; omega
    have d : ((2 ^ k * 2 ^ k : Nat) : Int) = 2 ^ k * 2 ^ k := by push_cast; rfl
    rw [← d]; omega
  refine ⟨2 ^ k, wrap_u64_id (by omega), ?_, p0, by omega, by omega⟩
  have := sq_lt s0 (by omega) (show isq n * isq n < 2 ^ k * 2 ^ k by omega)
  omega

end Go.Sky
