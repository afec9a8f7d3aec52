/- Parts of products, bit by bit. -/
import Derived.Test.YtfbakgcemnkcpaaQSkyRef
set_option linter.unusedSimpArgs false
set_option linter.unusedVariables false
namespace Go.Sky

def partGo : Nat → Int → Int → Int → Int
  | 0, _, _, q => q
  | i + 1, V, c, q => if (q + 2 ^ i) * c ≤ V then partGo i V c (q + 2 ^ i) else partGo i V c q

theorem partGo_spec : ∀ (i : Nat) (V c q : Int), 0 < c → q * c ≤ V → V < (q + 2 ^ i) * c → partGo i V c q = V / c
  | 0, V, c, q, h0, h1, h2 => by
    simp only [partGo]
    simp only [Int.pow_zero] at h2
    have a := Int.le_ediv_of_mul_le h0 h1
    have b := Int.ediv_lt_of_lt_mul h0 h2
    omega
  | i + 1, V, c, q, h0, h1, h2 => by
    have e : (2 : Int) ^ (i + 1) = 2 ^ i + 2 ^ i := by rw [Int.pow_succ]; omega
    rw [e] at h2
    simp only [partGo]
    split
    · rename_i h
      exact partGo_spec i V c (q + 2 ^ i) h0 h (by rw [show q + 2 ^ i + 2 ^ i = q + (2 ^ i + 2 ^ i) by omega]; exact h2)
    · rename_i h
      exact partGo_spec i V c q h0 h1 (by omega)

def partQ (V c : Int) : Int := if V / 18446744073709551616 < c then V / c else 0

theorem towS_2 {x : Int} (h : -4611686018427387904 ≤ x ∧ x ≤ 4611686018427387904) : towS x 2 = x.tdiv 2 := by
  have a := tdiv2 x
  unfold towS
  split
  · rw [wrap_i64_id (n := 0 - x) (by omega), if_pos (by omega), wrap_i64_id (by omega)]; omega
  · rw [if_pos (by omega)]; omega

theorem towS_tdiv {x l : Int} (h : -4611686018427387904 ≤ x ∧ x ≤ 4611686018427387904) (hl : 1 ≤ l) : towS x l = x.tdiv l := by
  unfold towS
  by_cases hx : x < 0
  · have e : x.tdiv l = -((-x) / l) := by
      have e1 : (-(-x)).tdiv l = - ((-x).tdiv l) := Int.neg_tdiv _ _
      rw [Int.neg_neg] at e1
      rw [e1, Int.tdiv_eq_ediv_of_nonneg (show 0 ≤ -x by omega)]
    have d0 : 0 ≤ (-x) / l := Int.ediv_nonneg (by omega) (by omega)
    have d1 : (-x) / l ≤ -x := Int.ediv_le_self _ (by omega)
    rw [if_pos hx, if_pos hl, Int.zero_sub, Int.zero_sub, wrap_i64_id (n := -x) (by omega), wrap_i64_id (by omega), e]
  · rw [if_neg hx, if_pos hl, Int.tdiv_eq_ediv_of_nonneg (by omega)]

end Go.Sky
