/- Trees of functions, and what they come to. -/
import Derived.Test.YtfbakgcemnkcpaaQSkyO
import Derived.Test.YtfbakgcemnkcpaaQSkyVec
set_option linter.unusedSimpArgs false
set_option linter.unusedVariables false
namespace Go.Sky
set_option maxRecDepth 100000

/-! vec.Near -/
def tr_vec_Near (v_x : Int) (v_y : Int) (v_z : Int) : Tr AV := Tr.leaf (AV.bool false (decide (mm true (mm true (mm true (mm true (mm true (mm true 0 v_x) (sat (v_x * -1))) v_y) (sat (v_y * -1))) v_z) (sat (v_z * -1)) ≤ 1048576)))
theorem run_vec_Near (v_x : Int) (v_y : Int) (v_z : Int) (h_v_x : InR .i64 v_x) (h_v_y : InR .i64 v_y) (h_v_z : InR .i64 v_z) : (tr_vec_Near v_x v_y v_z).run = some (bb (nearB v_x v_y v_z)) := by
  unfold tr_vec_Near
  have hx := inR_i64.1 h_v_x
  have hy := inR_i64.1 h_v_y
  have hz := inR_i64.1 h_v_z
  simp only [Tr.run, bb, nearB, max_r, sat]
  congr 2
  rw [decide_eq_decide]
  omega

/-! vec.Add -/
def tr_vec_Add (a_x : Int) (a_y : Int) (a_z : Int) (b_x : Int) (b_y : Int) (b_z : Int) : Tr AV := Tr.leaf (AV.agg [AV.int IntKind.i64 false (sat (a_x + b_x)), AV.int IntKind.i64 false (sat (a_y + b_y)), AV.int IntKind.i64 false (sat (a_z + b_z))])
theorem run_vec_Add (a_x : Int) (a_y : Int) (a_z : Int) (b_x : Int) (b_y : Int) (b_z : Int) (h_a_x : InR .i64 a_x) (h_a_y : InR .i64 a_y) (h_a_z : InR .i64 a_z) (h_b_x : InR .i64 b_x) (h_b_y : InR .i64 b_y) (h_b_z : InR .i64 b_z) : (tr_vec_Add a_x a_y a_z b_x b_y b_z).run = some (v3 (sat (a_x + b_x)) (sat (a_y + b_y)) (sat (a_z + b_z))) := by
  unfold tr_vec_Add
  rfl

/-! vec.Sub -/
def tr_vec_Sub (a_x : Int) (a_y : Int) (a_z : Int) (b_x : Int) (b_y : Int) (b_z : Int) : Tr AV := Tr.leaf (AV.agg [AV.int IntKind.i64 false (sat (a_x + sat (b_x * -1))), AV.int IntKind.i64 false (sat (a_y + sat (b_y * -1))), AV.int IntKind.i64 false (sat (a_z + sat (b_z * -1)))])
theorem run_vec_Sub (a_x : Int) (a_y : Int) (a_z : Int) (b_x : Int) (b_y : Int) (b_z : Int) (h_a_x : InR .i64 a_x) (h_a_y : InR .i64 a_y) (h_a_z : InR .i64 a_z) (h_b_x : InR .i64 b_x) (h_b_y : InR .i64 b_y) (h_b_z : InR .i64 b_z) : (tr_vec_Sub a_x a_y a_z b_x b_y b_z).run = some (v3 (sat (a_x + sat (b_x * -1))) (sat (a_y + sat (b_y * -1))) (sat (a_z + sat (b_z * -1)))) := by
  unfold tr_vec_Sub
  rfl

/-! vec.Dot -/
def tr_vec_Dot (a_x : Int) (a_y : Int) (a_z : Int) (b_x : Int) (b_y : Int) (b_z : Int) : Tr AV := Tr.node (!nearB a_x a_y a_z) (Tr.leaf (AV.int IntKind.i64 false 0)) (Tr.node (!nearB b_x b_y b_z) (Tr.leaf (AV.int IntKind.i64 false 0)) (Tr.leaf (AV.int IntKind.i64 false (IntKind.i64.wrap (IntKind.i64.wrap (IntKind.i64.wrap (0 + IntKind.i64.wrap (a_x * b_x)) + IntKind.i64.wrap (a_y * b_y)) + IntKind.i64.wrap (a_z * b_z))))))
theorem run_vec_Dot (a_x : Int) (a_y : Int) (a_z : Int) (b_x : Int) (b_y : Int) (b_z : Int) (h_a_x : InR .i64 a_x) (h_a_y : InR .i64 a_y) (h_a_z : InR .i64 a_z) (h_b_x : InR .i64 b_x) (h_b_y : InR .i64 b_y) (h_b_z : InR .i64 b_z) : (tr_vec_Dot a_x a_y a_z b_x b_y b_z).run = some (i6 (dotN a_x a_y a_z b_x b_y b_z)) := by
  unfold tr_vec_Dot
  simp only [Tr.run, i6, dotN, Bool.not_eq_true']
  cases ha : nearB a_x a_y a_z <;> cases hb : nearB b_x b_y b_z <;> simp
  have h1 := near_r ha; have h2 := near_r hb
  rw [wrap_add3 (mul_near (by omega) (by omega)) (mul_near (by omega) (by omega)) (mul_near (by omega) (by omega))]
  rfl

/-! vec.Cross -/
def tr_vec_Cross (a_x : Int) (a_y : Int) (a_z : Int) (b_x : Int) (b_y : Int) (b_z : Int) : Tr AV := Tr.node (!nearB a_x a_y a_z) (Tr.leaf (AV.agg [AV.int IntKind.i64 false 0, AV.int IntKind.i64 false 0, AV.int IntKind.i64 false 0])) (Tr.node (!nearB b_x b_y b_z) (Tr.leaf (AV.agg [AV.int IntKind.i64 false 0, AV.int IntKind.i64 false 0, AV.int IntKind.i64 false 0])) (Tr.leaf (AV.agg [AV.int IntKind.i64 false (IntKind.i64.wrap (IntKind.i64.wrap (a_y * b_z) - IntKind.i64.wrap (a_z * b_y))), AV.int IntKind.i64 false (IntKind.i64.wrap (IntKind.i64.wrap (a_z * b_x) - IntKind.i64.wrap (a_x * b_z))), AV.int IntKind.i64 false (IntKind.i64.wrap (IntKind.i64.wrap (a_x * b_y) - IntKind.i64.wrap (a_y * b_x)))])))
theorem run_vec_Cross (a_x : Int) (a_y : Int) (a_z : Int) (b_x : Int) (b_y : Int) (b_z : Int) (h_a_x : InR .i64 a_x) (h_a_y : InR .i64 a_y) (h_a_z : InR .i64 a_z) (h_b_x : InR .i64 b_x) (h_b_y : InR .i64 b_y) (h_b_z : InR .i64 b_z) : (tr_vec_Cross a_x a_y a_z b_x b_y b_z).run = some (v3 (crN a_y a_z b_y b_z a_x b_x) (crN a_z a_x b_z b_x a_y b_y) (crN a_x a_y b_x b_y a_z b_z)) := by
  unfold tr_vec_Cross
  simp only [Tr.run, v3, crN, near_rot a_y, near_rot2 a_z a_x, near_rot2 b_z b_x, near_rot b_y, i6, Bool.not_eq_true']
  cases ha : nearB a_x a_y a_z <;> cases hb : nearB b_x b_y b_z <;> simp
  have h1 := near_r ha; have h2 := near_r hb
  refine ⟨?_, ?_, ?_⟩ <;> exact wrap_sub2 (mul_near (by omega) (by omega)) (mul_near (by omega) (by omega))

/-! vec.Volume -/
def tr_vec_Volume (a_x : Int) (a_y : Int) (a_z : Int) (b_x : Int) (b_y : Int) (b_z : Int) (c_x : Int) (c_y : Int) (c_z : Int) : Tr AV := Tr.node (!nearB a_x a_y a_z) (Tr.leaf (AV.int IntKind.i64 false 0)) (Tr.node (!nearB b_x b_y b_z) (Tr.leaf (AV.int IntKind.i64 false 0)) (Tr.node (!nearB c_x c_y c_z) (Tr.leaf (AV.int IntKind.i64 false 0)) (Tr.leaf (AV.int IntKind.i64 false (IntKind.i64.wrap (IntKind.i64.wrap (IntKind.i64.wrap (0 + IntKind.i64.wrap (a_x * crN b_y b_z c_y c_z b_x c_x)) + IntKind.i64.wrap (a_y * crN b_z b_x c_z c_x b_y c_y)) + IntKind.i64.wrap (a_z * crN b_x b_y c_x c_y b_z c_z)))))))
theorem run_vec_Volume (a_x : Int) (a_y : Int) (a_z : Int) (b_x : Int) (b_y : Int) (b_z : Int) (c_x : Int) (c_y : Int) (c_z : Int) (h_a_x : InR .i64 a_x) (h_a_y : InR .i64 a_y) (h_a_z : InR .i64 a_z) (h_b_x : InR .i64 b_x) (h_b_y : InR .i64 b_y) (h_b_z : InR .i64 b_z) (h_c_x : InR .i64 c_x) (h_c_y : InR .i64 c_y) (h_c_z : InR .i64 c_z) : (tr_vec_Volume a_x a_y a_z b_x b_y b_z c_x c_y c_z).run = some (i6 (volN a_x a_y a_z b_x b_y b_z c_x c_y c_z)) := by
  unfold tr_vec_Volume
  simp only [Tr.run, i6, volN, crN, near_rot b_y, near_rot2 b_z b_x, near_rot2 c_z c_x, near_rot c_y, Bool.not_eq_true']
  cases ha : nearB a_x a_y a_z <;> cases hb : nearB b_x b_y b_z <;> cases hc : nearB c_x c_y c_z <;> simp
  have h1 := near_r ha; have h2 := near_r hb; have h3 := near_r hc
  rw [wrap_add3' (mul_near2 (by omega) (mul_near (by omega) (by omega)) (mul_near (by omega) (by omega))) (mul_near2 (by omega) (mul_near (by omega) (by omega)) (mul_near (by omega) (by omega))) (mul_near2 (by omega) (mul_near (by omega) (by omega)) (mul_near (by omega) (by omega)))]
  rfl

/-! skylightref06.Near -/
def tr_skylightref06_Near (v_x : Int) (v_y : Int) (v_z : Int) : Tr AV := Tr.node (decide (v_x ≥ -1048576)) (Tr.node (decide (v_x ≤ 1048576)) (Tr.node (decide (v_y ≥ -1048576)) (Tr.node (decide (v_y ≤ 1048576)) (Tr.node (decide (v_z ≥ -1048576)) (Tr.leaf (AV.bool false (decide (v_z ≤ 1048576)))) (Tr.leaf (AV.bool false false))) (Tr.leaf (AV.bool false false))) (Tr.leaf (AV.bool false false))) (Tr.leaf (AV.bool false false))) (Tr.leaf (AV.bool false false))
theorem run_skylightref06_Near (v_x : Int) (v_y : Int) (v_z : Int) (h_v_x : InR .i64 v_x) (h_v_y : InR .i64 v_y) (h_v_z : InR .i64 v_z) : (tr_skylightref06_Near v_x v_y v_z).run = some (bb (nearB v_x v_y v_z)) := by
  unfold tr_skylightref06_Near
  simp only [Tr.run, bb, nearB, decide_eq_true_eq]
  (repeat' split) <;> congr 2 <;> first | (symm; rw [decide_eq_false_iff_not]; omega) | (rw [decide_eq_decide]; omega)

end Go.Sky
