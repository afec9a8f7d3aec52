/- Trees of functions, and what they come to. -/
import Derived.Test.YtfbakgcemnkcpaaQSkyO
import Derived.Test.YtfbakgcemnkcpaaQSkyPart
set_option linter.unusedSimpArgs false
set_option linter.unusedVariables false
namespace Go.Sky
set_option maxRecDepth 100000

/-! skylightref03.At -/
def tr_skylightref03_At (v : Int) (f_n : Int) (f_d : Int) : Tr AV := Tr.node (!decide (f_d ≥ 1)) (Tr.leaf (AV.int IntKind.i64 false 0)) (Tr.node (!decide (v < 0) == decide (f_n < 0)) (Tr.node (decide (IntKind.u64.wrap (sz v * sz f_n / 18446744073709551616 + sz v * sz f_n % 18446744073709551616) > 0)) (Tr.node (!decide (sz v * sz f_n / 18446744073709551616 < IntKind.u64.wrap f_d)) (Tr.leaf (AV.int IntKind.i64 false (-9223372036854775808))) (Tr.node (decide (partQ (sz v * sz f_n) (IntKind.u64.wrap f_d) > 9223372036854775807)) (Tr.leaf (AV.int IntKind.i64 false (-9223372036854775808))) (Tr.node (partQ (sz v * sz f_n) (IntKind.u64.wrap f_d) * IntKind.u64.wrap f_d / 18446744073709551616 != sz v * sz f_n / 18446744073709551616) (Tr.leaf (AV.int IntKind.i64 false (IntKind.i64.wrap (IntKind.i64.wrap (0 - IntKind.i64.wrap (partQ (sz v * sz f_n) (IntKind.u64.wrap f_d))) - 1)))) (Tr.node (partQ (sz v * sz f_n) (IntKind.u64.wrap f_d) * IntKind.u64.wrap f_d % 18446744073709551616 != sz v * sz f_n % 18446744073709551616) (Tr.leaf (AV.int IntKind.i64 false (IntKind.i64.wrap (IntKind.i64.wrap (0 - IntKind.i64.wrap (partQ (sz v * sz f_n) (IntKind.u64.wrap f_d))) - 1)))) (Tr.leaf (AV.int IntKind.i64 false (IntKind.i64.wrap (0 - IntKind.i64.wrap (partQ (sz v * sz f_n) (IntKind.u64.wrap f_d)))))))))) (Tr.node (decide (sz v * sz f_n / (18446744073709551616 : Int) > 0)) (Tr.node (!decide (sz v * sz f_n / 18446744073709551616 < IntKind.u64.wrap f_d)) (Tr.node (!decide (v < 0) == decide (f_n < 0)) (Tr.leaf (AV.int IntKind.i64 false (-9223372036854775808))) (Tr.leaf (AV.int IntKind.i64 false 9223372036854775807))) (Tr.node (decide (partQ (sz v * sz f_n) (IntKind.u64.wrap f_d) > 9223372036854775807)) (Tr.node (!decide (v < 0) == decide (f_n < 0)) (Tr.leaf (AV.int IntKind.i64 false (-9223372036854775808))) (Tr.leaf (AV.int IntKind.i64 false 9223372036854775807))) (Tr.node (!!decide (v < 0) == decide (f_n < 0)) (Tr.leaf (AV.int IntKind.i64 false (IntKind.i64.wrap (partQ (sz v * sz f_n) (IntKind.u64.wrap f_d))))) (Tr.node (partQ (sz v * sz f_n) (IntKind.u64.wrap f_d) * IntKind.u64.wrap f_d / 18446744073709551616 != sz v * sz f_n / 18446744073709551616) (Tr.leaf (AV.int IntKind.i64 false (IntKind.i64.wrap (IntKind.i64.wrap (0 - IntKind.i64.wrap (partQ (sz v * sz f_n) (IntKind.u64.wrap f_d))) - 1)))) (Tr.node (partQ (sz v * sz f_n) (IntKind.u64.wrap f_d) * IntKind.u64.wrap f_d % 18446744073709551616 != sz v * sz f_n % 18446744073709551616) (Tr.leaf (AV.int IntKind.i64 false (IntKind.i64.wrap (IntKind.i64.wrap (0 - IntKind.i64.wrap (partQ (sz v * sz f_n) (IntKind.u64.wrap f_d))) - 1)))) (Tr.leaf (AV.int IntKind.i64 false (IntKind.i64.wrap (0 - IntKind.i64.wrap (partQ (sz v * sz f_n) (IntKind.u64.wrap f_d))))))))))) (Tr.node (!decide (sz v * sz f_n / 18446744073709551616 < IntKind.u64.wrap f_d)) (Tr.leaf (AV.int IntKind.i64 false 9223372036854775807)) (Tr.node (decide (partQ (sz v * sz f_n) (IntKind.u64.wrap f_d) > 9223372036854775807)) (Tr.leaf (AV.int IntKind.i64 false 9223372036854775807)) (Tr.leaf (AV.int IntKind.i64 false (IntKind.i64.wrap (partQ (sz v * sz f_n) (IntKind.u64.wrap f_d))))))))) (Tr.node (decide (sz v * sz f_n / (18446744073709551616 : Int) > 0)) (Tr.node (!decide (sz v * sz f_n / 18446744073709551616 < IntKind.u64.wrap f_d)) (Tr.node (!decide (v < 0) == decide (f_n < 0)) (Tr.leaf (AV.int IntKind.i64 false (-9223372036854775808))) (Tr.leaf (AV.int IntKind.i64 false 9223372036854775807))) (Tr.node (decide (partQ (sz v * sz f_n) (IntKind.u64.wrap f_d) > 9223372036854775807)) (Tr.node (!decide (v < 0) == decide (f_n < 0)) (Tr.leaf (AV.int IntKind.i64 false (-9223372036854775808))) (Tr.leaf (AV.int IntKind.i64 false 9223372036854775807))) (Tr.node (!!decide (v < 0) == decide (f_n < 0)) (Tr.leaf (AV.int IntKind.i64 false (IntKind.i64.wrap (partQ (sz v * sz f_n) (IntKind.u64.wrap f_d))))) (Tr.node (partQ (sz v * sz f_n) (IntKind.u64.wrap f_d) * IntKind.u64.wrap f_d / 18446744073709551616 != sz v * sz f_n / 18446744073709551616) (Tr.leaf (AV.int IntKind.i64 false (IntKind.i64.wrap (IntKind.i64.wrap (0 - IntKind.i64.wrap (partQ (sz v * sz f_n) (IntKind.u64.wrap f_d))) - 1)))) (Tr.node (partQ (sz v * sz f_n) (IntKind.u64.wrap f_d) * IntKind.u64.wrap f_d % 18446744073709551616 != sz v * sz f_n % 18446744073709551616) (Tr.leaf (AV.int IntKind.i64 false (IntKind.i64.wrap (IntKind.i64.wrap (0 - IntKind.i64.wrap (partQ (sz v * sz f_n) (IntKind.u64.wrap f_d))) - 1)))) (Tr.leaf (AV.int IntKind.i64 false (IntKind.i64.wrap (0 - IntKind.i64.wrap (partQ (sz v * sz f_n) (IntKind.u64.wrap f_d))))))))))) (Tr.node (!decide (sz v * sz f_n / 18446744073709551616 < IntKind.u64.wrap f_d)) (Tr.leaf (AV.int IntKind.i64 false 9223372036854775807)) (Tr.node (decide (partQ (sz v * sz f_n) (IntKind.u64.wrap f_d) > 9223372036854775807)) (Tr.leaf (AV.int IntKind.i64 false 9223372036854775807)) (Tr.leaf (AV.int IntKind.i64 false (IntKind.i64.wrap (partQ (sz v * sz f_n) (IntKind.u64.wrap f_d)))))))))
theorem run_skylightref03_At (v : Int) (f_n : Int) (f_d : Int) (h_v : InR .i64 v) (h_f_n : InR .i64 f_n) (h_f_d : InR .i64 f_d) : (tr_skylightref03_At v f_n f_d).run = some (i6 (atF v f_n f_d)) := by
  unfold tr_skylightref03_At
  have hv := inR_i64.1 h_v
  have hn := inR_i64.1 h_f_n
  have hd := inR_i64.1 h_f_d
  unfold atF
  by_cases d0 : f_d ≥ 1
  rotate_left
  · rw [if_neg (by omega)]; exact run_t (by simpa using d0)
  rw [if_pos (by omega), show IntKind.u64.wrap f_d = f_d from wrap_u64_id (by omega)]
  refine (run_f (by simpa using d0)).trans ?_
  have hM := mul_r hv hn
  obtain ⟨h1, h2⟩ := times_law (a := v) (b := f_n) (sz v * sz f_n) rfl ((decide (v < 0) == decide (f_n < 0)) = false) (by by_cases c1 : v < 0 <;> by_cases c2 : f_n < 0 <;> simp [c1, c2])
  generalize sz v * sz f_n = P at *
  generalize v * f_n = p at *
  have q0 : 0 ≤ P → 0 ≤ P / f_d := fun h => Int.ediv_nonneg h (by omega)
  have q1 := Int.mul_ediv_add_emod P f_d
  have q2 := Int.emod_nonneg P (show f_d ≠ 0 by omega)
  have q3 := Int.emod_lt_of_pos P (show 0 < f_d by omega)
  have q4 : ¬ (P / 18446744073709551616 < f_d) → 18446744073709551616 ≤ P / f_d := fun h => Int.le_ediv_of_mul_le (by omega) (by omega)
  have q5 : p = -P → (P / f_d * f_d = P → p / f_d = -(P / f_d)) ∧ (P / f_d * f_d ≠ P → p / f_d = -(P / f_d) - 1) := by
    intro hp
    rw [Int.mul_comm] at q1
    refine ⟨fun h => ?_, fun h => ?_⟩
    · rw [hp]; exact ediv_of (r := 0) (by rw [Int.mul_neg, Int.mul_comm]; omega) (by omega) (by omega)
    · rw [hp]; exact ediv_of (r := f_d - P % f_d) (by rw [Int.mul_sub, Int.mul_neg, Int.mul_comm f_d (P / f_d)]; omega) (by omega) (by omega)
  rw [Int.mul_comm] at q1
  have hP0 : 0 ≤ P := by
    by_cases hs : (decide (v < 0) == decide (f_n < 0)) = false
    · exact (h1 hs).2
    · exact (h2 hs).2
  have q10 : 0 ≤ P / 18446744073709551616 := by omega
  have q11 : ¬ (P / 18446744073709551616 > 0) → (P / 18446744073709551616 + P % 18446744073709551616) % 18446744073709551616 = P := by omega
  have q8 : P = 0 → P / f_d = 0 := fun h => by rw [h]; exact Int.zero_ediv _
  have q9 : P = 0 → P / f_d * f_d = 0 := fun h => by rw [q8 h]; exact Int.zero_mul _
  cases hx : (decide (v < 0) == decide (f_n < 0))
  · obtain ⟨h3, h4⟩ := h1 hx
    obtain ⟨q6, q7⟩ := q5 h3
    generalize p / f_d = pd at *
    clear hx h1 h2
    refine (run_t rfl).trans ?_
    simp only [Tr.run, i6, Bool.not_false, Bool.not_true, if_true, if_false, Bool.false_eq_true, decide_eq_true_eq, bne_iff_ne, ne_eq, Bool.not_eq_true', decide_eq_false_iff_not, wrap_u64, wrap_i64, sat]
    simp only [partQ]
    (repeat' split) <;> first | rfl | (exfalso; omega) | (congr 2; omega)
  · obtain ⟨h3, h4⟩ := h2 (by simp [hx])
    subst h3
    clear hx h1 h2 q5
    refine (run_f rfl).trans ?_
    simp only [Tr.run, i6, Bool.not_false, Bool.not_true, if_true, if_false, Bool.false_eq_true, decide_eq_true_eq, bne_iff_ne, ne_eq, Bool.not_eq_true', decide_eq_false_iff_not, wrap_u64, wrap_i64, sat]
    simp only [partQ]
    (repeat' split) <;> first | rfl | (exfalso; omega) | (congr 2; omega)

/-! skylightref06.within -/
def tr_skylightref06_within (v_x : Int) (v_y : Int) (v_z : Int) (n : Int) : Tr AV := Tr.node (decide (v_x ≥ IntKind.i64.wrap (0 - n))) (Tr.node (decide (v_x ≤ n)) (Tr.node (decide (v_y ≥ IntKind.i64.wrap (0 - n))) (Tr.node (decide (v_y ≤ n)) (Tr.node (decide (v_z ≥ IntKind.i64.wrap (0 - n))) (Tr.leaf (AV.bool false (decide (v_z ≤ n)))) (Tr.leaf (AV.bool false false))) (Tr.leaf (AV.bool false false))) (Tr.leaf (AV.bool false false))) (Tr.leaf (AV.bool false false))) (Tr.leaf (AV.bool false false))
theorem run_skylightref06_within (v_x : Int) (v_y : Int) (v_z : Int) (n : Int) (h_v_x : InR .i64 v_x) (h_v_y : InR .i64 v_y) (h_v_z : InR .i64 v_z) (h_n : InR .i64 n) (hpre : -9223372036854775808 < n) : (tr_skylightref06_within v_x v_y v_z n).run = some (bb (decide ((-n ≤ v_x ∧ v_x ≤ n) ∧ (-n ≤ v_y ∧ v_y ≤ n) ∧ (-n ≤ v_z ∧ v_z ≤ n)))) := by
  unfold tr_skylightref06_within
  have hn := inR_i64.1 h_n
  simp only [Tr.run, bb, decide_eq_true_eq, wrap_i64]
  (repeat' split) <;> congr 2 <;> first | (symm; rw [decide_eq_false_iff_not]; omega) | (rw [decide_eq_decide]; omega)

/-! skylightref06.Scale -/
def tr_skylightref06_Scale (v_x : Int) (v_y : Int) (v_z : Int) (f_n : Int) (f_d : Int) : Tr AV := Tr.leaf (AV.agg [AV.int IntKind.i64 false (atF v_x f_n f_d), AV.int IntKind.i64 false (atF v_y f_n f_d), AV.int IntKind.i64 false (atF v_z f_n f_d)])
theorem run_skylightref06_Scale (v_x : Int) (v_y : Int) (v_z : Int) (f_n : Int) (f_d : Int) (h_v_x : InR .i64 v_x) (h_v_y : InR .i64 v_y) (h_v_z : InR .i64 v_z) (h_f_n : InR .i64 f_n) (h_f_d : InR .i64 f_d) : (tr_skylightref06_Scale v_x v_y v_z f_n f_d).run = some (v3 (atF v_x f_n f_d) (atF v_y f_n f_d) (atF v_z f_n f_d)) := by
  unfold tr_skylightref06_Scale
  rfl

/-! skylightref06.Along -/
def tr_skylightref06_Along (r_o_x : Int) (r_o_y : Int) (r_o_z : Int) (r_d_x : Int) (r_d_y : Int) (r_d_z : Int) (f_n : Int) (f_d : Int) : Tr AV := Tr.leaf (AV.agg [AV.int IntKind.i64 false (sat (r_o_x + atF r_d_x f_n f_d)), AV.int IntKind.i64 false (sat (r_o_y + atF r_d_y f_n f_d)), AV.int IntKind.i64 false (sat (r_o_z + atF r_d_z f_n f_d))])
theorem run_skylightref06_Along (r_o_x : Int) (r_o_y : Int) (r_o_z : Int) (r_d_x : Int) (r_d_y : Int) (r_d_z : Int) (f_n : Int) (f_d : Int) (h_r_o_x : InR .i64 r_o_x) (h_r_o_y : InR .i64 r_o_y) (h_r_o_z : InR .i64 r_o_z) (h_r_d_x : InR .i64 r_d_x) (h_r_d_y : InR .i64 r_d_y) (h_r_d_z : InR .i64 r_d_z) (h_f_n : InR .i64 f_n) (h_f_d : InR .i64 f_d) : (tr_skylightref06_Along r_o_x r_o_y r_o_z r_d_x r_d_y r_d_z f_n f_d).run = some (v3 (sat (r_o_x + atF r_d_x f_n f_d)) (sat (r_o_y + atF r_d_y f_n f_d)) (sat (r_o_z + atF r_d_z f_n f_d))) := by
  unfold tr_skylightref06_Along
  rfl

end Go.Sky
