/- Numbers of 128 bits, and parts: what is reckoned. -/
import Derived.Test.YtfbakgcemnkcpaaQSkyDivL
set_option linter.unusedSimpArgs false
set_option linter.unusedVariables false
namespace Go.Sky

def w2 (hi lo : Int) : AV := .agg [i6 hi, u6 lo]
def ovOk (v d : Int) : Bool := decide (1 ≤ d ∧ -9223372036854775808 ≤ v / d ∧ v / d ≤ 9223372036854775807)
def ovQ (v d : Int) : Int := if ovOk v d = true then v / d else 0
/-- A part of a number, rounded down, held. -/
def atF (v n d : Int) : Int := if 1 ≤ d then sat (v * n / d) else 0

theorem not_u64 {x : Int} (h : 0 ≤ x ∧ x ≤ 18446744073709551615) : Go.bits .xor .u64 18446744073709551615 x = 18446744073709551615 - x := by
  show IntKind.u64.wrap ((BitVec.ofInt 64 18446744073709551615 ^^^ BitVec.ofInt 64 x).toNat : Int) = _
  have e : (BitVec.ofInt 64 18446744073709551615) = BitVec.allOnes 64 := by decide
  rw [e, BitVec.allOnes_xor, BitVec.toNat_not, BitVec.toNat_ofInt]
  rw [wrap_u64]
  omega

theorem not_i64 {x : Int} (h : -9223372036854775808 ≤ x ∧ x ≤ 9223372036854775807) : Go.bits .xor .i64 (-1) x = -1 - x := by
  show IntKind.i64.wrap ((BitVec.ofInt 64 (-1) ^^^ BitVec.ofInt 64 x).toNat : Int) = _
  have e : (BitVec.ofInt 64 (-1)) = BitVec.allOnes 64 := by decide
  rw [e, BitVec.allOnes_xor, BitVec.toNat_not, BitVec.toNat_ofInt]
  rw [wrap_i64]
  omega

theorem mul_r {x y : Int} (hx : -9223372036854775808 ≤ x ∧ x ≤ 9223372036854775807) (hy : -9223372036854775808 ≤ y ∧ y ≤ 9223372036854775807) :
    -85070591730234615865843651857942052864 ≤ x * y ∧ x * y ≤ 85070591730234615865843651857942052864 := by
  have h := Int.natAbs_mul x y
  have h2 : x.natAbs * y.natAbs ≤ 9223372036854775808 * 9223372036854775808 := Nat.mul_le_mul (by omega) (by omega)
  omega

theorem ediv_not (V : Int) {d : Int} (hd : 0 < d) : (-V - 1) / d = -(V / d) - 1 := by
  have e := Int.mul_ediv_add_emod V d
  have m0 := Int.emod_nonneg V (show d ≠ 0 by omega)
  have m1 := Int.emod_lt_of_pos V hd
  have : -V - 1 = (d - 1 - V % d) + d * (-(V / d) - 1) := by
    rw [Int.mul_sub, Int.mul_neg, Int.mul_one]; omega
  rw [this, Int.add_mul_ediv_left _ _ (by omega), Int.ediv_eq_zero_of_lt (by omega) (by omega)]
  omega

end Go.Sky
