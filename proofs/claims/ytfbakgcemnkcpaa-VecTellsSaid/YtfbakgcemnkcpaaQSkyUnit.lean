/- Directions: what is reckoned. -/
import Derived.Test.YtfbakgcemnkcpaaQSkyRoot
import Derived.Test.YtfbakgcemnkcpaaQSkyVecL
set_option linter.unusedSimpArgs false
set_option linter.unusedVariables false
namespace Go.Sky

/-- How far the farthest coordinate is from 0. -/
def mostI (x y z : Int) : Int := mm true (mm true (mm true (mm true (mm true (mm true 0 x) (sat (x * -1))) y) (sat (y * -1))) z) (sat (z * -1))

/-- Doubled, as long as 'm' is small. -/
def upS : Nat → Int → Int → Int
  | 0, x, _ => x
  | k + 1, x, m => if m < 524288 then upS k (2 * x) (2 * m) else x

/-- Halved, as long as 'M' is great. -/
def downS : Nat → Int → Int → Int
  | 0, x, _ => x
  | k + 1, x, M => if M ≥ 1048576 then downS k (x.tdiv 2) (M / 2) else x

/-- A coordinate of the evened vector. -/
def nrm (x y z c : Int) : Int :=
  downS 45 (upS 20 c (mostI x y z)) (mostI (upS 20 x (mostI x y z)) (upS 20 y (mostI x y z)) (upS 20 z (mostI x y z)))

def okU (x y z : Int) : Bool := !(mostI x y z == 0 || decide (mostI x y z > 4611686018427387904))

def lenU (x y z : Int) : Int := isq (dotI (nrm x y z x) (nrm x y z y) (nrm x y z z) (nrm x y z x) (nrm x y z y) (nrm x y z z))

def unitC (x y z c : Int) : Int := if okU x y z = true then (nrm x y z c * 16384).tdiv (lenU x y z) else 0

theorem dotN_self (x y z : Int) : 0 ≤ dotN x y z x y z ∧ dotN x y z x y z ≤ 3298534883328 := by
  unfold dotN
  split
  · rename_i h
    have h1 := near_r h.1
    have p := mul_near h1.1 h1.1; have q := mul_near h1.2.1 h1.2.1; have r := mul_near h1.2.2 h1.2.2
    have sq : ∀ n : Int, 0 ≤ n * n := fun n => by
      rcases (show n < 0 ∨ 0 ≤ n by omega) with h | h
      · exact Int.mul_nonneg_of_nonpos_of_nonpos (by omega) (by omega)
      · exact Int.mul_nonneg h h
    have a := sq x; have b := sq y; have c := sq z
    unfold dotI; omega
  · omega

theorem most_spec {x y z : Int} (h : mostI x y z ≤ 4611686018427387904) : (-mostI x y z ≤ x ∧ x ≤ mostI x y z) ∧ (-mostI x y z ≤ y ∧ y ≤ mostI x y z) ∧ (-mostI x y z ≤ z ∧ z ≤ mostI x y z) ∧
    (mostI x y z = x ∨ mostI x y z = -x ∨ mostI x y z = y ∨ mostI x y z = -y ∨ mostI x y z = z ∨ mostI x y z = -z) := by
  unfold mostI at *
  simp only [max_r, sat] at *
  omega

theorem most_unique {x y z M : Int} (hM : M ≤ 4611686018427387904) (hx : -M ≤ x ∧ x ≤ M) (hy : -M ≤ y ∧ y ≤ M) (hz : -M ≤ z ∧ z ≤ M) (h : M = x ∨ M = -x ∨ M = y ∨ M = -y ∨ M = z ∨ M = -z) : mostI x y z = M := by
  unfold mostI
  simp only [max_r, sat]
  omega

theorem most_half {x y z : Int} (h : mostI x y z ≤ 4611686018427387904) : mostI (x.tdiv 2) (y.tdiv 2) (z.tdiv 2) = mostI x y z / 2 := by
  obtain ⟨hx, hy, hz, hm⟩ := most_spec h
  generalize mostI x y z = M at *
  have a := tdiv2 x; have b := tdiv2 y; have c := tdiv2 z
  generalize x.tdiv 2 = x' at *
  generalize y.tdiv 2 = y' at *
  generalize z.tdiv 2 = z' at *
  apply most_unique <;> omega

theorem tdiv2_wrap {x : Int} (h : -4611686018427387904 ≤ x ∧ x ≤ 4611686018427387904) : IntKind.i64.wrap (x.tdiv 2) = x.tdiv 2 := by
  have a := tdiv2 x
  exact wrap_i64_id (by omega)

end Go.Sky
