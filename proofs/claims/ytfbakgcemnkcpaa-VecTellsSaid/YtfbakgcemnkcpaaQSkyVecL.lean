/- The plain law of volumes. -/
import Derived.Test.YtfbakgcemnkcpaaQSkyVec
set_option linter.unusedSimpArgs false
set_option linter.unusedVariables false
namespace Go.Sky

theorem volN_eq {ax ay az bx b_y bz cx cy cz : Int} (ha : nearB ax ay az = true) (hb : nearB bx b_y bz = true) (hc : nearB cx cy cz = true) :
    volN ax ay az bx b_y bz cx cy cz = ax * (b_y * cz - bz * cy) + ay * (bz * cx - bx * cz) + az * (bx * cy - b_y * cx) := by
  unfold volN dotI; rw [if_pos ⟨ha, hb, hc⟩]

theorem dotN_eq {ax ay az bx b_y bz : Int} (ha : nearB ax ay az = true) (hb : nearB bx b_y bz = true) : dotN ax ay az bx b_y bz = ax * bx + ay * b_y + az * bz := by
  unfold dotN dotI; rw [if_pos ⟨ha, hb⟩]

theorem crN_eq {a b c d e f : Int} (ha : nearB e a b = true) (hb : nearB f c d = true) : crN a b c d e f = a * d - b * c := by
  unfold crN; rw [if_pos ⟨ha, hb⟩]

theorem dotN_r {ax ay az bx b_y bz : Int} (ha : nearB ax ay az = true) (hb : nearB bx b_y bz = true) : -3298534883328 ≤ dotN ax ay az bx b_y bz ∧ dotN ax ay az bx b_y bz ≤ 3298534883328 := by
  rw [dotN_eq ha hb]
  have h1 := near_r ha; have h2 := near_r hb
  have p := mul_near h1.1 h2.1; have q := mul_near h1.2.1 h2.2.1; have r := mul_near h1.2.2 h2.2.2
  omega

theorem volN_r {ax ay az bx b_y bz cx cy cz : Int} (ha : nearB ax ay az = true) (hb : nearB bx b_y bz = true) (hc : nearB cx cy cz = true) :
    -6917529027641081856 ≤ volN ax ay az bx b_y bz cx cy cz ∧ volN ax ay az bx b_y bz cx cy cz ≤ 6917529027641081856 := by
  rw [volN_eq ha hb hc]
  have h1 := near_r ha; have h2 := near_r hb; have h3 := near_r hc
  have p := mul_near2 h1.1 (mul_near h2.2.1 h3.2.2) (mul_near h2.2.2 h3.2.1)
  have q := mul_near2 h1.2.1 (mul_near h2.2.2 h3.1) (mul_near h2.1 h3.2.2)
  have r := mul_near2 h1.2.2 (mul_near h2.1 h3.2.1) (mul_near h2.2.1 h3.1)
  omega

theorem tdiv2 (x : Int) : (0 ≤ x → 0 ≤ x.tdiv 2 ∧ 2 * x.tdiv 2 ≤ x ∧ x ≤ 2 * x.tdiv 2 + 1) ∧ (x < 0 → x.tdiv 2 ≤ 0 ∧ 2 * x.tdiv 2 - 1 ≤ x ∧ x ≤ 2 * x.tdiv 2) := by
  have h := Int.mul_tdiv_add_tmod x 2
  constructor <;> intro hx
  · have h1 := Int.tmod_nonneg 2 hx
    have h2 := Int.tmod_lt_of_pos x (show (0:Int) < 2 by omega)
    omega
  · have h2 := Int.lt_tmod_of_pos x (show (0:Int) < 2 by omega)
    have h3 : (-(-x)).tmod 2 = - ((-x).tmod 2) := Int.neg_tmod _ _
    rw [Int.neg_neg] at h3
    have h4 := Int.tmod_nonneg 2 (show 0 ≤ -x by omega)
    omega

theorem half_k {x : Int} (h : -1048576 ≤ x ∧ x ≤ 1048576) : sat (IntKind.i64.wrap (x.tdiv 2) + IntKind.i64.wrap (x.tdiv 2)) = 2 * x.tdiv 2 := by
  have := tdiv2 x
  generalize x.tdiv 2 = q at this ⊢
  rw [wrap_i64_id (by omega)]
  unfold sat; omega
theorem half_o {x k : Int} (h : -1048576 ≤ x ∧ x ≤ 1048576) (hk : -1048576 ≤ k ∧ k ≤ 1048576) : sat (x + sat (k * -1)) = x - k := by
  unfold sat; omega
theorem half_s {x k : Int} (h : -1048576 ≤ x ∧ x ≤ 1048576) (hk : -1048576 ≤ k ∧ k ≤ 1048576) : sat (k + (x - k)) = x := by
  unfold sat; omega

theorem cr_neg {a b c d e f : Int} (h1 : nearB e a b = true) (h2 : nearB f c d = true) : crN a b c d e f = sat (0 + sat (crN c d a b f e * -1)) := by
  rw [crN_eq h1 h2, crN_eq h2 h1]
  have r1 := near_r h1; have r2 := near_r h2
  have p := mul_near r1.2.1 r2.2.2
  have q := mul_near r1.2.2 r2.2.1
  rw [Int.mul_comm c b, Int.mul_comm d a]
  unfold sat; omega

/-- What the law of volumes asks. -/
theorem volume_law {ax ay az bx b_y bz cx cy cz : Int} (ha : nearB ax ay az = true) (hb : nearB bx b_y bz = true) (hc : nearB cx cy cz = true) :
    volN ax ay az ax ay az bx b_y bz = 0 ∧ volN ax ay az bx b_y bz ax ay az = 0 ∧
    volN bx b_y bz ax ay az cx cy cz = IntKind.i64.wrap (0 - volN ax ay az bx b_y bz cx cy cz) ∧
    volN bx b_y bz cx cy cz ax ay az = volN ax ay az bx b_y bz cx cy cz ∧
    volN cx cy cz bx b_y bz ax ay az = IntKind.i64.wrap (0 - volN ax ay az bx b_y bz cx cy cz) ∧
    dotN ax ay az bx b_y bz = dotN bx b_y bz ax ay az := by
  have r := volN_r ha hb hc
  rw [wrap_i64_id (by omega)]
  clear r
  rw [volN_eq ha ha hb, volN_eq ha hb ha, volN_eq hb ha hc, volN_eq hb hc ha, volN_eq hc hb ha, volN_eq ha hb hc, dotN_eq ha hb, dotN_eq hb ha]
  clear ha hb hc
  refine ⟨?_, ?_, ?_, ?_, ?_, ?_⟩ <;> grind

theorem volume_sum {ax ay az bx b_y bz cx cy cz kx ky kz : Int} (ha : nearB ax ay az = true) (hb : nearB bx b_y bz = true) (hc : nearB cx cy cz = true)
    (hk : nearB kx ky kz = true) (ho : nearB (ax - kx) (ay - ky) (az - kz) = true) :
    IntKind.i64.wrap (volN kx ky kz bx b_y bz cx cy cz + volN (ax - kx) (ay - ky) (az - kz) bx b_y bz cx cy cz) = volN ax ay az bx b_y bz cx cy cz ∧
    IntKind.i64.wrap (dotN kx ky kz bx b_y bz + dotN (ax - kx) (ay - ky) (az - kz) bx b_y bz) = dotN ax ay az bx b_y bz := by
  have r := volN_r ha hb hc
  have s := dotN_r ha hb
  have e1 : volN kx ky kz bx b_y bz cx cy cz + volN (ax - kx) (ay - ky) (az - kz) bx b_y bz cx cy cz = volN ax ay az bx b_y bz cx cy cz := by
    rw [volN_eq hk hb hc, volN_eq ho hb hc, volN_eq ha hb hc]
    clear ha hb hc hk ho r s
    grind
  have e2 : dotN kx ky kz bx b_y bz + dotN (ax - kx) (ay - ky) (az - kz) bx b_y bz = dotN ax ay az bx b_y bz := by
    rw [dotN_eq hk hb, dotN_eq ho hb, dotN_eq ha hb]
    clear ha hb hc hk ho r s e1
    grind
  rw [e1, e2]
  exact ⟨wrap_i64_id (by omega), wrap_i64_id (by omega)⟩

end Go.Sky
