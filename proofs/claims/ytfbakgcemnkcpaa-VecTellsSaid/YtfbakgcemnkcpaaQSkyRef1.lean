/- Trees of functions, and what they come to. -/
import Derived.Test.YtfbakgcemnkcpaaQSkyO
import Derived.Test.YtfbakgcemnkcpaaQSkyRef
set_option linter.unusedSimpArgs false
set_option linter.unusedVariables false
namespace Go.Sky
set_option maxRecDepth 100000

/-! skylightref01.Plus -/
def tr_skylightref01_Plus (a : Int) (b : Int) : Tr AV := Tr.node (decide (a ≥ 0)) (Tr.node (decide (b > IntKind.i64.wrap (9223372036854775807 - a))) (Tr.leaf (AV.int IntKind.i64 false 9223372036854775807)) (Tr.node (decide (a < 0)) (Tr.node (decide (b < IntKind.i64.wrap (-9223372036854775808 - a))) (Tr.leaf (AV.int IntKind.i64 false (-9223372036854775808))) (Tr.leaf (AV.int IntKind.i64 false (IntKind.i64.wrap (a + b))))) (Tr.leaf (AV.int IntKind.i64 false (IntKind.i64.wrap (a + b)))))) (Tr.node (decide (a < 0)) (Tr.node (decide (b < IntKind.i64.wrap (-9223372036854775808 - a))) (Tr.leaf (AV.int IntKind.i64 false (-9223372036854775808))) (Tr.leaf (AV.int IntKind.i64 false (IntKind.i64.wrap (a + b))))) (Tr.leaf (AV.int IntKind.i64 false (IntKind.i64.wrap (a + b)))))
theorem run_skylightref01_Plus (a : Int) (b : Int) (h_a : InR .i64 a) (h_b : InR .i64 b) : (tr_skylightref01_Plus a b).run = some (i6 (sat (a + b))) := by
  unfold tr_skylightref01_Plus
  have ha := inR_i64.1 h_a
  have hb := inR_i64.1 h_b
  simp only [Tr.run, i6, decide_eq_true_eq, wrap_i64, sat]
  (repeat' split) <;> first | rfl | (congr 2; omega)

/-! skylightref01.Size -/
def tr_skylightref01_Size (n : Int) : Tr AV := Tr.node (decide (n < 0)) (Tr.leaf (AV.int IntKind.u64 false (IntKind.u64.wrap (IntKind.u64.wrap (IntKind.i64.wrap (0 - IntKind.i64.wrap (n + 1))) + 1)))) (Tr.leaf (AV.int IntKind.u64 false (IntKind.u64.wrap n)))
theorem run_skylightref01_Size (n : Int) (h_n : InR .i64 n) : (tr_skylightref01_Size n).run = some (u6 (sz n)) := by
  unfold tr_skylightref01_Size
  have h := inR_i64.1 h_n
  simp only [Tr.run, u6, decide_eq_true_eq, wrap_i64, wrap_u64, sz]
  (repeat' split) <;> first | rfl | (congr 2; omega)

/-! skylightref01.Mul -/
def tr_skylightref01_Mul (a : Int) (b : Int) : Tr AV := Tr.leaf (AV.tuple [AV.int IntKind.u64 false (IntKind.u64.wrap (IntKind.u64.wrap (IntKind.u64.wrap (IntKind.u64.wrap (a.fdiv 4294967296 * b.fdiv 4294967296) + (IntKind.u64.wrap (a.fdiv 4294967296 * bits BinOp.and IntKind.u64 b 4294967295)).fdiv 4294967296) + (IntKind.u64.wrap (bits BinOp.and IntKind.u64 a 4294967295 * b.fdiv 4294967296)).fdiv 4294967296) + (IntKind.u64.wrap (IntKind.u64.wrap ((IntKind.u64.wrap (bits BinOp.and IntKind.u64 a 4294967295 * bits BinOp.and IntKind.u64 b 4294967295)).fdiv 4294967296 + bits BinOp.and IntKind.u64 (IntKind.u64.wrap (a.fdiv 4294967296 * bits BinOp.and IntKind.u64 b 4294967295)) 4294967295) + bits BinOp.and IntKind.u64 (IntKind.u64.wrap (bits BinOp.and IntKind.u64 a 4294967295 * b.fdiv 4294967296)) 4294967295)).fdiv 4294967296)), AV.int IntKind.u64 false (bits BinOp.or IntKind.u64 (IntKind.u64.wrap (IntKind.u64.wrap (IntKind.u64.wrap ((IntKind.u64.wrap (bits BinOp.and IntKind.u64 a 4294967295 * bits BinOp.and IntKind.u64 b 4294967295)).fdiv 4294967296 + bits BinOp.and IntKind.u64 (IntKind.u64.wrap (a.fdiv 4294967296 * bits BinOp.and IntKind.u64 b 4294967295)) 4294967295) + bits BinOp.and IntKind.u64 (IntKind.u64.wrap (bits BinOp.and IntKind.u64 a 4294967295 * b.fdiv 4294967296)) 4294967295) * 4294967296)) (bits BinOp.and IntKind.u64 (IntKind.u64.wrap (bits BinOp.and IntKind.u64 a 4294967295 * bits BinOp.and IntKind.u64 b 4294967295)) 4294967295))])
theorem run_skylightref01_Mul (a : Int) (b : Int) (h_a : InR .u64 a) (h_b : InR .u64 b) : (tr_skylightref01_Mul a b).run = some (.tuple [u6 (a*b/18446744073709551616), u6 (a*b%18446744073709551616)]) := by
  unfold tr_skylightref01_Mul
  have ha := inR_u64.1 h_a
  have hb := inR_u64.1 h_b
  have fd : ∀ x : Int, x.fdiv 4294967296 = x / 4294967296 := fun x => Int.fdiv_eq_ediv_of_nonneg _ (by decide)
  simp only [fd, bits_mask ha, bits_mask hb, u6]
  have e : a * b = a / 4294967296 * (b / 4294967296) * 18446744073709551616 + (a / 4294967296 * (b % 4294967296) + a % 4294967296 * (b / 4294967296)) * 4294967296 + a % 4294967296 * (b % 4294967296) := by
    have ea : a = a / 4294967296 * 4294967296 + a % 4294967296 := by omega
    have eb : b = b / 4294967296 * 4294967296 + b % 4294967296 := by omega
    generalize a / 4294967296 = a1 at *
    generalize a % 4294967296 = a0 at *
    generalize b / 4294967296 = b1 at *
    generalize b % 4294967296 = b0 at *
    rw [ea, eb]; clear ea eb ha hb h_a h_b; grind
  rw [e]
  obtain ⟨s0, s1⟩ := mul_32 (x := a / 4294967296) (y := b / 4294967296) (by omega) (by omega)
  obtain ⟨q0, q1⟩ := mul_32 (x := a / 4294967296) (y := b % 4294967296) (by omega) (by omega)
  obtain ⟨r0, r1⟩ := mul_32 (x := a % 4294967296) (y := b / 4294967296) (by omega) (by omega)
  obtain ⟨p0, p1⟩ := mul_32 (x := a % 4294967296) (y := b % 4294967296) (by omega) (by omega)
  generalize a / 4294967296 * (b / 4294967296) = s at *
  generalize a / 4294967296 * (b % 4294967296) = q at *
  generalize a % 4294967296 * (b / 4294967296) = r at *
  generalize a % 4294967296 * (b % 4294967296) = p at *
  rw [wrap_u64_id (n := p) (by omega), wrap_u64_id (n := q) (by omega), wrap_u64_id (n := r) (by omega), wrap_u64_id (n := s) (by omega)]
  rw [bits_mask (x := p) (by omega), bits_mask (x := q) (by omega), bits_mask (x := r) (by omega)]
  rw [wrap_u64_id (n := p / 4294967296 + q % 4294967296) (by omega), wrap_u64_id (n := p / 4294967296 + q % 4294967296 + r % 4294967296) (by omega)]
  rw [wrap_u64_id (n := s + q / 4294967296) (by omega), wrap_u64_id (n := s + q / 4294967296 + r / 4294967296) (by omega)]
  rw [show IntKind.u64.wrap ((p / 4294967296 + q % 4294967296 + r % 4294967296) * 4294967296) = (p / 4294967296 + q % 4294967296 + r % 4294967296) % 4294967296 * 2 ^ 32 by rw [wrap_u64]; omega]
  rw [bits_or (s := 32) (by omega) (by omega) (by omega), wrap_u64_id (by omega)]
  simp only [Tr.run]
  congr 3
  · congr 1; omega
  · congr 2; omega

/-! skylightref01.Times -/
def tr_skylightref01_Times (a : Int) (b : Int) : Tr AV := Tr.node (!decide (a < 0) == decide (b < 0)) (Tr.node (decide (sz a * sz b / (18446744073709551616 : Int) > 0)) (Tr.leaf (AV.int IntKind.i64 false (-9223372036854775808))) (Tr.node (decide (sz a * sz b % (18446744073709551616 : Int) > 9223372036854775807)) (Tr.leaf (AV.int IntKind.i64 false (-9223372036854775808))) (Tr.leaf (AV.int IntKind.i64 false (IntKind.i64.wrap (0 - IntKind.i64.wrap (sz a * sz b % 18446744073709551616))))))) (Tr.node (decide (sz a * sz b / (18446744073709551616 : Int) > 0)) (Tr.leaf (AV.int IntKind.i64 false 9223372036854775807)) (Tr.node (decide (sz a * sz b % (18446744073709551616 : Int) > 9223372036854775807)) (Tr.leaf (AV.int IntKind.i64 false 9223372036854775807)) (Tr.leaf (AV.int IntKind.i64 false (IntKind.i64.wrap (sz a * sz b % 18446744073709551616))))))
theorem run_skylightref01_Times (a : Int) (b : Int) (h_a : InR .i64 a) (h_b : InR .i64 b) : (tr_skylightref01_Times a b).run = some (i6 (sat (a * b))) := by
  unfold tr_skylightref01_Times
  obtain ⟨h1, h2⟩ := times_law (sz a * sz b) rfl (!(decide (a < 0) == decide (b < 0)) = true) (by by_cases c1 : a < 0 <;> by_cases c2 : b < 0 <;> simp [c1, c2])
  generalize sz a * sz b = P at h1 h2 ⊢
  generalize a * b = p at h1 h2 ⊢
  cases hs : (!(decide (a < 0) == decide (b < 0)))
  · obtain ⟨h3, h4⟩ := h2 (by simp [hs])
    refine (run_f rfl).trans ?_
    simp only [Tr.run, i6, decide_eq_true_eq, wrap_i64, sat]
    (repeat' split) <;> first | rfl | (congr 2; omega)
  · obtain ⟨h3, h4⟩ := h1 (by simp [hs])
    refine (run_t rfl).trans ?_
    simp only [Tr.run, i6, decide_eq_true_eq, wrap_i64, sat]
    (repeat' split) <;> first | rfl | (congr 2; omega)

/-! skylightref01.Div -/
def tr_skylightref01_Div (a : Int) (b : Int) : Tr AV := Tr.node (decide (b < 1)) (Tr.leaf (AV.int IntKind.i64 false 0)) (Tr.node (decide (b = 0)) Tr.bad (Tr.node (decide (a < 0)) (Tr.node (decide (b = 0)) Tr.bad (Tr.node (a.tmod b != 0) (Tr.leaf (AV.int IntKind.i64 false (IntKind.i64.wrap (IntKind.i64.wrap (a.tdiv b) - 1)))) (Tr.leaf (AV.int IntKind.i64 false (IntKind.i64.wrap (a.tdiv b)))))) (Tr.leaf (AV.int IntKind.i64 false (IntKind.i64.wrap (a.tdiv b))))))
theorem run_skylightref01_Div (a : Int) (b : Int) (h_a : InR .i64 a) (h_b : InR .i64 b) : (tr_skylightref01_Div a b).run = some (i6 (if 1 ≤ b then a / b else 0)) := by
  unfold tr_skylightref01_Div
  have ha := inR_i64.1 h_a
  have hb := inR_i64.1 h_b
  by_cases c0 : b < 1
  · rw [if_neg (by omega)]; exact run_t (decide_eq_true c0)
  · rw [if_pos (by omega)]
    have f := tdiv_facts (A := a) (l := b) (by omega)
    have e := Int.mul_tdiv_add_tmod a b
    refine (run_f (decide_eq_false c0)).trans ((run_f (decide_eq_false (by omega))).trans ?_)
    by_cases c1 : a < 0
    · have f2 := f.2 c1
      have q0 : a.tdiv b ≤ 0 := by
        rcases (show a.tdiv b ≤ 0 ∨ 0 < a.tdiv b by omega) with h | h
        · exact h
        · have := Int.mul_pos (show 0 < b by omega) h; omega
      have q1 : a ≤ a.tdiv b := by
        have : b * a.tdiv b ≤ 1 * a.tdiv b := Int.mul_le_mul_of_nonpos_right (by omega) q0
        omega
      refine (run_t (decide_eq_true c1)).trans ((run_f (decide_eq_false (by omega))).trans ?_)
      by_cases c2 : a.tmod b = 0
      · refine (run_f (by simp [c2])).trans ?_
        rw [wrap_i64_id (by omega), show a / b = a.tdiv b from ediv_of (r := 0) (by omega) (by omega) (by omega)]; rfl
      · refine (run_t (by simpa using c2)).trans ?_
        rw [wrap_i64_id (n := a.tdiv b) (by omega), show a / b = a.tdiv b - 1 from ediv_of (r := b + a.tmod b) (by rw [Int.mul_sub, Int.mul_one]; omega) (by omega) (by omega)]
        have q2 : -9223372036854775808 < a.tdiv b := by
          rcases (show b = 1 ∨ 2 ≤ b by omega) with h | h
          · subst h; simp at c2
          · have : b * a.tdiv b ≤ 2 * a.tdiv b := Int.mul_le_mul_of_nonpos_right h q0
            omega
        rw [wrap_i64_id (by omega)]; rfl
    · refine (run_f (decide_eq_false c1)).trans ?_
      have d0 : 0 ≤ a / b := Int.ediv_nonneg (by omega) (by omega)
      have d1 : a / b ≤ a := Int.ediv_le_self _ (by omega)
      rw [Int.tdiv_eq_ediv_of_nonneg (by omega), wrap_i64_id (by omega)]; rfl

/-! skylightref03.Right -/
def tr_skylightref03_Right (f_n : Int) (f_d : Int) : Tr AV := Tr.leaf (AV.bool false (decide (f_d ≥ 1)))
theorem run_skylightref03_Right (f_n : Int) (f_d : Int) (h_f_n : InR .i64 f_n) (h_f_d : InR .i64 f_d) : (tr_skylightref03_Right f_n f_d).run = some (bb (decide (f_d ≥ 1))) := by
  unfold tr_skylightref03_Right
  rfl

/-! skylightref06.Add -/
def tr_skylightref06_Add (a_x : Int) (a_y : Int) (a_z : Int) (b_x : Int) (b_y : Int) (b_z : Int) : Tr AV := Tr.leaf (AV.agg [AV.int IntKind.i64 false (sat (a_x + b_x)), AV.int IntKind.i64 false (sat (a_y + b_y)), AV.int IntKind.i64 false (sat (a_z + b_z))])
theorem run_skylightref06_Add (a_x : Int) (a_y : Int) (a_z : Int) (b_x : Int) (b_y : Int) (b_z : Int) (h_a_x : InR .i64 a_x) (h_a_y : InR .i64 a_y) (h_a_z : InR .i64 a_z) (h_b_x : InR .i64 b_x) (h_b_y : InR .i64 b_y) (h_b_z : InR .i64 b_z) : (tr_skylightref06_Add a_x a_y a_z b_x b_y b_z).run = some (v3 (sat (a_x + b_x)) (sat (a_y + b_y)) (sat (a_z + b_z))) := by
  unfold tr_skylightref06_Add
  rfl

/-! skylightref06.Sub -/
def tr_skylightref06_Sub (a_x : Int) (a_y : Int) (a_z : Int) (b_x : Int) (b_y : Int) (b_z : Int) : Tr AV := Tr.leaf (AV.agg [AV.int IntKind.i64 false (sat (a_x + sat (b_x * -1))), AV.int IntKind.i64 false (sat (a_y + sat (b_y * -1))), AV.int IntKind.i64 false (sat (a_z + sat (b_z * -1)))])
theorem run_skylightref06_Sub (a_x : Int) (a_y : Int) (a_z : Int) (b_x : Int) (b_y : Int) (b_z : Int) (h_a_x : InR .i64 a_x) (h_a_y : InR .i64 a_y) (h_a_z : InR .i64 a_z) (h_b_x : InR .i64 b_x) (h_b_y : InR .i64 b_y) (h_b_z : InR .i64 b_z) : (tr_skylightref06_Sub a_x a_y a_z b_x b_y b_z).run = some (v3 (sat (a_x + sat (b_x * -1))) (sat (a_y + sat (b_y * -1))) (sat (a_z + sat (b_z * -1)))) := by
  unfold tr_skylightref06_Sub
  rfl

/-! skylightref06.Dot -/
def tr_skylightref06_Dot (a_x : Int) (a_y : Int) (a_z : Int) (b_x : Int) (b_y : Int) (b_z : Int) : Tr AV := Tr.node (!nearB a_x a_y a_z) (Tr.leaf (AV.int IntKind.i64 false 0)) (Tr.node (!nearB b_x b_y b_z) (Tr.leaf (AV.int IntKind.i64 false 0)) (Tr.leaf (AV.int IntKind.i64 false (IntKind.i64.wrap (IntKind.i64.wrap (IntKind.i64.wrap (a_x * b_x) + IntKind.i64.wrap (a_y * b_y)) + IntKind.i64.wrap (a_z * b_z))))))
theorem run_skylightref06_Dot (a_x : Int) (a_y : Int) (a_z : Int) (b_x : Int) (b_y : Int) (b_z : Int) (h_a_x : InR .i64 a_x) (h_a_y : InR .i64 a_y) (h_a_z : InR .i64 a_z) (h_b_x : InR .i64 b_x) (h_b_y : InR .i64 b_y) (h_b_z : InR .i64 b_z) : (tr_skylightref06_Dot a_x a_y a_z b_x b_y b_z).run = some (i6 (dotN a_x a_y a_z b_x b_y b_z)) := by
  unfold tr_skylightref06_Dot
  simp only [Tr.run, i6, dotN, Bool.not_eq_true']
  cases ha : nearB a_x a_y a_z <;> cases hb : nearB b_x b_y b_z <;> simp
  have h1 := near_r ha; have h2 := near_r hb
  rw [wrap_add3b (mul_near (by omega) (by omega)) (mul_near (by omega) (by omega)) (mul_near (by omega) (by omega))]
  rfl

/-! skylightref06.Cross -/
def tr_skylightref06_Cross (a_x : Int) (a_y : Int) (a_z : Int) (b_x : Int) (b_y : Int) (b_z : Int) : Tr AV := Tr.node (!nearB a_x a_y a_z) (Tr.leaf (AV.agg [AV.int IntKind.i64 false 0, AV.int IntKind.i64 false 0, AV.int IntKind.i64 false 0])) (Tr.node (!nearB b_x b_y b_z) (Tr.leaf (AV.agg [AV.int IntKind.i64 false 0, AV.int IntKind.i64 false 0, AV.int IntKind.i64 false 0])) (Tr.leaf (AV.agg [AV.int IntKind.i64 false (IntKind.i64.wrap (IntKind.i64.wrap (a_y * b_z) - IntKind.i64.wrap (a_z * b_y))), AV.int IntKind.i64 false (IntKind.i64.wrap (IntKind.i64.wrap (a_z * b_x) - IntKind.i64.wrap (a_x * b_z))), AV.int IntKind.i64 false (IntKind.i64.wrap (IntKind.i64.wrap (a_x * b_y) - IntKind.i64.wrap (a_y * b_x)))])))
theorem run_skylightref06_Cross (a_x : Int) (a_y : Int) (a_z : Int) (b_x : Int) (b_y : Int) (b_z : Int) (h_a_x : InR .i64 a_x) (h_a_y : InR .i64 a_y) (h_a_z : InR .i64 a_z) (h_b_x : InR .i64 b_x) (h_b_y : InR .i64 b_y) (h_b_z : InR .i64 b_z) : (tr_skylightref06_Cross a_x a_y a_z b_x b_y b_z).run = some (v3 (crN a_y a_z b_y b_z a_x b_x) (crN a_z a_x b_z b_x a_y b_y) (crN a_x a_y b_x b_y a_z b_z)) := by
  unfold tr_skylightref06_Cross
  simp only [Tr.run, v3, crN, near_rot a_y, near_rot2 a_z a_x, near_rot2 b_z b_x, near_rot b_y, i6, Bool.not_eq_true']
  cases ha : nearB a_x a_y a_z <;> cases hb : nearB b_x b_y b_z <;> simp
  have h1 := near_r ha; have h2 := near_r hb
  refine ⟨?_, ?_, ?_⟩ <;> exact wrap_sub2 (mul_near (by omega) (by omega)) (mul_near (by omega) (by omega))

/-! skylightref06.Volume -/
def tr_skylightref06_Volume (a_x : Int) (a_y : Int) (a_z : Int) (b_x : Int) (b_y : Int) (b_z : Int) (c_x : Int) (c_y : Int) (c_z : Int) : Tr AV := Tr.node (!nearB a_x a_y a_z) (Tr.leaf (AV.int IntKind.i64 false 0)) (Tr.node (!nearB b_x b_y b_z) (Tr.leaf (AV.int IntKind.i64 false 0)) (Tr.node (!nearB c_x c_y c_z) (Tr.leaf (AV.int IntKind.i64 false 0)) (Tr.leaf (AV.int IntKind.i64 false (IntKind.i64.wrap (IntKind.i64.wrap (IntKind.i64.wrap (a_x * IntKind.i64.wrap (IntKind.i64.wrap (b_y * c_z) - IntKind.i64.wrap (b_z * c_y))) + IntKind.i64.wrap (a_y * IntKind.i64.wrap (IntKind.i64.wrap (b_z * c_x) - IntKind.i64.wrap (b_x * c_z)))) + IntKind.i64.wrap (a_z * IntKind.i64.wrap (IntKind.i64.wrap (b_x * c_y) - IntKind.i64.wrap (b_y * c_x)))))))))
theorem run_skylightref06_Volume (a_x : Int) (a_y : Int) (a_z : Int) (b_x : Int) (b_y : Int) (b_z : Int) (c_x : Int) (c_y : Int) (c_z : Int) (h_a_x : InR .i64 a_x) (h_a_y : InR .i64 a_y) (h_a_z : InR .i64 a_z) (h_b_x : InR .i64 b_x) (h_b_y : InR .i64 b_y) (h_b_z : InR .i64 b_z) (h_c_x : InR .i64 c_x) (h_c_y : InR .i64 c_y) (h_c_z : InR .i64 c_z) : (tr_skylightref06_Volume a_x a_y a_z b_x b_y b_z c_x c_y c_z).run = some (i6 (volN a_x a_y a_z b_x b_y b_z c_x c_y c_z)) := by
  unfold tr_skylightref06_Volume
  simp only [Tr.run, i6, volN, crN, near_rot b_y, near_rot2 b_z b_x, near_rot2 c_z c_x, near_rot c_y, Bool.not_eq_true']
  cases ha : nearB a_x a_y a_z <;> cases hb : nearB b_x b_y b_z <;> cases hc : nearB c_x c_y c_z <;> simp
  have h1 := near_r ha; have h2 := near_r hb; have h3 := near_r hc
  rw [wrap_sub2 (mul_near (x := b_y) (y := c_z) (by omega) (by omega)) (mul_near (by omega) (by omega)), wrap_sub2 (mul_near (x := b_z) (y := c_x) (by omega) (by omega)) (mul_near (by omega) (by omega)), wrap_sub2 (mul_near (x := b_x) (y := c_y) (by omega) (by omega)) (mul_near (by omega) (by omega)), wrap_add3b' (mul_near2 (by omega) (mul_near (by omega) (by omega)) (mul_near (by omega) (by omega))) (mul_near2 (by omega) (mul_near (by omega) (by omega)) (mul_near (by omega) (by omega))) (mul_near2 (by omega) (mul_near (by omega) (by omega)) (mul_near (by omega) (by omega)))]
  rfl

/-! skylightref06.Len -/
def tr_skylightref06_Len (v_x : Int) (v_y : Int) (v_z : Int) : Tr AV := Tr.leaf (AV.int IntKind.i64 false (isq (IntKind.u64.wrap (dotN v_x v_y v_z v_x v_y v_z))))
theorem run_skylightref06_Len (v_x : Int) (v_y : Int) (v_z : Int) (h_v_x : InR .i64 v_x) (h_v_y : InR .i64 v_y) (h_v_z : InR .i64 v_z) : (tr_skylightref06_Len v_x v_y v_z).run = some (i6 (isq (dotN v_x v_y v_z v_x v_y v_z))) := by
  unfold tr_skylightref06_Len
  simp only [Tr.run, i6]
  have h := dotN_self v_x v_y v_z
  rw [wrap_u64_id (by omega)]

/-! skylightref06.toward -/
def tr_skylightref06_toward (a : Int) (b : Int) : Tr AV := Tr.node (decide (a < 0)) (Tr.leaf (AV.int IntKind.i64 false (IntKind.i64.wrap (0 - if 1 ≤ b then IntKind.i64.wrap (0 - a) / b else 0)))) (Tr.leaf (AV.int IntKind.i64 false (if 1 ≤ b then a / b else 0)))
theorem run_skylightref06_toward (a : Int) (b : Int) (h_a : InR .i64 a) (h_b : InR .i64 b) : (tr_skylightref06_toward a b).run = some (i6 (towS a b)) := by
  unfold tr_skylightref06_toward
  have ha := inR_i64.1 h_a
  simp only [Tr.run, i6, decide_eq_true_eq, towS]
  (repeat' split) <;> first | rfl | (exfalso; omega)

/-! vec.Scale -/
def tr_vec_Scale (v_x : Int) (v_y : Int) (v_z : Int) (f_n : Int) (f_d : Int) : Tr AV := Tr.leaf (AV.agg [AV.int IntKind.i64 false (atF v_x f_n f_d), AV.int IntKind.i64 false (atF v_y f_n f_d), AV.int IntKind.i64 false (atF v_z f_n f_d)])
theorem run_vec_Scale (v_x : Int) (v_y : Int) (v_z : Int) (f_n : Int) (f_d : Int) (h_v_x : InR .i64 v_x) (h_v_y : InR .i64 v_y) (h_v_z : InR .i64 v_z) (h_f_n : InR .i64 f_n) (h_f_d : InR .i64 f_d) : (tr_vec_Scale v_x v_y v_z f_n f_d).run = some (v3 (atF v_x f_n f_d) (atF v_y f_n f_d) (atF v_z f_n f_d)) := by
  unfold tr_vec_Scale
  rfl

/-! vec.Along -/
def tr_vec_Along (r_o_x : Int) (r_o_y : Int) (r_o_z : Int) (r_d_x : Int) (r_d_y : Int) (r_d_z : Int) (f_n : Int) (f_d : Int) : Tr AV := Tr.leaf (AV.agg [AV.int IntKind.i64 false (sat (r_o_x + atF r_d_x f_n f_d)), AV.int IntKind.i64 false (sat (r_o_y + atF r_d_y f_n f_d)), AV.int IntKind.i64 false (sat (r_o_z + atF r_d_z f_n f_d))])
theorem run_vec_Along (r_o_x : Int) (r_o_y : Int) (r_o_z : Int) (r_d_x : Int) (r_d_y : Int) (r_d_z : Int) (f_n : Int) (f_d : Int) (h_r_o_x : InR .i64 r_o_x) (h_r_o_y : InR .i64 r_o_y) (h_r_o_z : InR .i64 r_o_z) (h_r_d_x : InR .i64 r_d_x) (h_r_d_y : InR .i64 r_d_y) (h_r_d_z : InR .i64 r_d_z) (h_f_n : InR .i64 f_n) (h_f_d : InR .i64 f_d) : (tr_vec_Along r_o_x r_o_y r_o_z r_d_x r_d_y r_d_z f_n f_d).run = some (v3 (sat (r_o_x + atF r_d_x f_n f_d)) (sat (r_o_y + atF r_d_y f_n f_d)) (sat (r_o_z + atF r_d_z f_n f_d))) := by
  unfold tr_vec_Along
  rfl

end Go.Sky
