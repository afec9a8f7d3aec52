/- Vectors: what the layers of places and directions give. -/
import Derived.Test.YtfbakgcemnkcpaaQSkyX
set_option linter.unusedSimpArgs false
set_option linter.unusedVariables false
namespace Go.Sky

/-- Is a vector near? -/
def nearB (x y z : Int) : Bool := decide ((-1048576 ≤ x ∧ x ≤ 1048576) ∧ (-1048576 ≤ y ∧ y ≤ 1048576) ∧ (-1048576 ≤ z ∧ z ≤ 1048576))

theorem near_r {x y z : Int} (h : nearB x y z = true) : (-1048576 ≤ x ∧ x ≤ 1048576) ∧ (-1048576 ≤ y ∧ y ≤ 1048576) ∧ (-1048576 ≤ z ∧ z ≤ 1048576) := of_decide_eq_true h

theorem near_rot (x y z : Int) : nearB x y z = nearB z x y := by
  unfold nearB; rw [decide_eq_decide]; omega
theorem near_rot2 (x y z : Int) : nearB x y z = nearB y z x := by
  unfold nearB; rw [decide_eq_decide]; omega

def v3 (x y z : Int) : AV := .agg [i6 x, i6 y, i6 z]

def dotI (ax ay az bx b_y bz : Int) : Int := ax * bx + ay * b_y + az * bz
def dotN (ax ay az bx b_y bz : Int) : Int := if nearB ax ay az = true ∧ nearB bx b_y bz = true then dotI ax ay az bx b_y bz else 0

/-- A coordinate of a cross product: 'a c' and 'b d' the other two, 'e f' those of its own place. -/
def crN (a b c d e f : Int) : Int := if nearB e a b = true ∧ nearB f c d = true then a * d - b * c else 0

def volN (ax ay az bx b_y bz cx cy cz : Int) : Int :=
  if nearB ax ay az = true ∧ nearB bx b_y bz = true ∧ nearB cx cy cz = true then dotI ax ay az (b_y * cz - bz * cy) (bz * cx - bx * cz) (bx * cy - b_y * cx) else 0

theorem mul_near {x y : Int} (hx : -1048576 ≤ x ∧ x ≤ 1048576) (hy : -1048576 ≤ y ∧ y ≤ 1048576) : -1099511627776 ≤ x * y ∧ x * y ≤ 1099511627776 := by
  have h := Int.natAbs_mul x y
  have h2 : x.natAbs * y.natAbs ≤ 1048576 * 1048576 := Nat.mul_le_mul (by omega) (by omega)
  omega

theorem mul_near2 {x y z : Int} (hx : -1048576 ≤ x ∧ x ≤ 1048576) (hy : -1099511627776 ≤ y ∧ y ≤ 1099511627776) (hz : -1099511627776 ≤ z ∧ z ≤ 1099511627776) : -2305843009213693952 ≤ x * (y - z) ∧ x * (y - z) ≤ 2305843009213693952 := by
  have h := Int.natAbs_mul x (y - z)
  have h2 : x.natAbs * (y - z).natAbs ≤ 1048576 * 2199023255552 := Nat.mul_le_mul (by omega) (by omega)
  omega

theorem wrap_add3 {p q r : Int} (hp : -1099511627776 ≤ p ∧ p ≤ 1099511627776) (hq : -1099511627776 ≤ q ∧ q ≤ 1099511627776) (hr : -1099511627776 ≤ r ∧ r ≤ 1099511627776) :
    IntKind.i64.wrap (IntKind.i64.wrap (IntKind.i64.wrap (IntKind.i64.wrap p) + IntKind.i64.wrap q) + IntKind.i64.wrap r) = p + q + r := by
  simp only [wrap_i64]; omega

theorem wrap_add3' {p q r : Int} (hp : -2305843009213693952 ≤ p ∧ p ≤ 2305843009213693952) (hq : -2305843009213693952 ≤ q ∧ q ≤ 2305843009213693952) (hr : -2305843009213693952 ≤ r ∧ r ≤ 2305843009213693952) :
    IntKind.i64.wrap (IntKind.i64.wrap (IntKind.i64.wrap (IntKind.i64.wrap p) + IntKind.i64.wrap q) + IntKind.i64.wrap r) = p + q + r := by
  simp only [wrap_i64]; omega

theorem wrap_sub2 {p q : Int} (hp : -1099511627776 ≤ p ∧ p ≤ 1099511627776) (hq : -1099511627776 ≤ q ∧ q ≤ 1099511627776) :
    IntKind.i64.wrap (IntKind.i64.wrap p - IntKind.i64.wrap q) = p - q := by
  simp only [wrap_i64]; omega

end Go.Sky
