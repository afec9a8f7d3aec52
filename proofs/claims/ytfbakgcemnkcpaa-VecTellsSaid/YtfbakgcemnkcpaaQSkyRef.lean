/- The document's answers: what is reckoned. -/
import Derived.Test.YtfbakgcemnkcpaaQSkyWide
import Derived.Test.YtfbakgcemnkcpaaQSkyUnitL
set_option linter.unusedSimpArgs false
set_option linter.unusedVariables false
namespace Go.Sky

theorem ediv_of {a b q r : Int} (e : a = b * q + r) (h0 : 0 ≤ r) (h1 : r < b) : a / b = q := by
  rw [e, Int.add_comm, Int.add_mul_ediv_left _ _ (by omega), Int.ediv_eq_zero_of_lt h0 h1]; omega

/-- Toward 0, as the document's answer reckons it. -/
def towS (a b : Int) : Int := if a < 0 then IntKind.i64.wrap (0 - if 1 ≤ b then IntKind.i64.wrap (0 - a) / b else 0) else if 1 ≤ b then a / b else 0

theorem wrap_add3b {p q r : Int} (hp : -1099511627776 ≤ p ∧ p ≤ 1099511627776) (hq : -1099511627776 ≤ q ∧ q ≤ 1099511627776) (hr : -1099511627776 ≤ r ∧ r ≤ 1099511627776) :
    IntKind.i64.wrap (IntKind.i64.wrap (IntKind.i64.wrap p + IntKind.i64.wrap q) + IntKind.i64.wrap r) = p + q + r := by
  simp only [wrap_i64]; omega

theorem wrap_add3b' {p q r : Int} (hp : -2305843009213693952 ≤ p ∧ p ≤ 2305843009213693952) (hq : -2305843009213693952 ≤ q ∧ q ≤ 2305843009213693952) (hr : -2305843009213693952 ≤ r ∧ r ≤ 2305843009213693952) :
    IntKind.i64.wrap (IntKind.i64.wrap (IntKind.i64.wrap p + IntKind.i64.wrap q) + IntKind.i64.wrap r) = p + q + r := by
  simp only [wrap_i64]; omega

theorem mul_32 {x y : Int} (hx : 0 ≤ x ∧ x ≤ 4294967295) (hy : 0 ≤ y ∧ y ≤ 4294967295) : 0 ≤ x * y ∧ x * y ≤ 18446744065119617025 :=
  ⟨Int.mul_nonneg hx.1 hy.1, Int.le_trans (Int.mul_le_mul hx.2 hy.2 hy.1 (by omega)) (by decide)⟩

end Go.Sky
