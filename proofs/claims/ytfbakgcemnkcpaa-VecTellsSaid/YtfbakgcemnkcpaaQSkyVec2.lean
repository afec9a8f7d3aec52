/- Trees of functions, and what they come to. -/
import Derived.Test.YtfbakgcemnkcpaaQSkyO
import Derived.Test.YtfbakgcemnkcpaaQSkyVecL
set_option linter.unusedSimpArgs false
set_option linter.unusedVariables false
namespace Go.Sky
set_option maxRecDepth 100000

/-! skylightlaw06.awake -/
def tr_skylightlaw06_awake  : Tr AV := Tr.leaf (AV.bool false true)
theorem run_skylightlaw06_awake   : (tr_skylightlaw06_awake ).run = some (bb true) := by
  unfold tr_skylightlaw06_awake
  rfl

/-! skylightlaw06.VecVolume -/
def tr_skylightlaw06_VecVolume (a_x : Int) (a_y : Int) (a_z : Int) (b_x : Int) (b_y : Int) (b_z : Int) (c_x : Int) (c_y : Int) (c_z : Int) : Tr AV := Tr.node (!nearB a_x a_y a_z) (Tr.leaf (AV.bool false true)) (Tr.node (!nearB b_x b_y b_z) (Tr.leaf (AV.bool false true)) (Tr.node (!nearB c_x c_y c_z) (Tr.leaf (AV.bool false true)) (Tr.node (volN a_x a_y a_z a_x a_y a_z b_x b_y b_z != 0) (Tr.leaf (AV.bool false false)) (Tr.node (volN a_x a_y a_z b_x b_y b_z a_x a_y a_z != 0) (Tr.leaf (AV.bool false false)) (Tr.node (volN b_x b_y b_z a_x a_y a_z c_x c_y c_z != IntKind.i64.wrap (0 - volN a_x a_y a_z b_x b_y b_z c_x c_y c_z)) (Tr.leaf (AV.bool false false)) (Tr.node (volN b_x b_y b_z c_x c_y c_z a_x a_y a_z != volN a_x a_y a_z b_x b_y b_z c_x c_y c_z) (Tr.leaf (AV.bool false false)) (Tr.node (volN c_x c_y c_z b_x b_y b_z a_x a_y a_z != IntKind.i64.wrap (0 - volN a_x a_y a_z b_x b_y b_z c_x c_y c_z)) (Tr.leaf (AV.bool false false)) (Tr.node (sat (sat (IntKind.i64.wrap (a_x.tdiv 2) + IntKind.i64.wrap (a_x.tdiv 2)) + sat (a_x + sat (sat (IntKind.i64.wrap (a_x.tdiv 2) + IntKind.i64.wrap (a_x.tdiv 2)) * -1))) == a_x && (sat (sat (IntKind.i64.wrap (a_y.tdiv 2) + IntKind.i64.wrap (a_y.tdiv 2)) + sat (a_y + sat (sat (IntKind.i64.wrap (a_y.tdiv 2) + IntKind.i64.wrap (a_y.tdiv 2)) * -1))) == a_y && (sat (sat (IntKind.i64.wrap (a_z.tdiv 2) + IntKind.i64.wrap (a_z.tdiv 2)) + sat (a_z + sat (sat (IntKind.i64.wrap (a_z.tdiv 2) + IntKind.i64.wrap (a_z.tdiv 2)) * -1))) == a_z && true))) (Tr.node (IntKind.i64.wrap (volN (sat (IntKind.i64.wrap (a_x.tdiv 2) + IntKind.i64.wrap (a_x.tdiv 2))) (sat (IntKind.i64.wrap (a_y.tdiv 2) + IntKind.i64.wrap (a_y.tdiv 2))) (sat (IntKind.i64.wrap (a_z.tdiv 2) + IntKind.i64.wrap (a_z.tdiv 2))) b_x b_y b_z c_x c_y c_z + volN (sat (a_x + sat (sat (IntKind.i64.wrap (a_x.tdiv 2) + IntKind.i64.wrap (a_x.tdiv 2)) * -1))) (sat (a_y + sat (sat (IntKind.i64.wrap (a_y.tdiv 2) + IntKind.i64.wrap (a_y.tdiv 2)) * -1))) (sat (a_z + sat (sat (IntKind.i64.wrap (a_z.tdiv 2) + IntKind.i64.wrap (a_z.tdiv 2)) * -1))) b_x b_y b_z c_x c_y c_z) == volN a_x a_y a_z b_x b_y b_z c_x c_y c_z) (Tr.node (dotN a_x a_y a_z b_x b_y b_z == dotN b_x b_y b_z a_x a_y a_z) (Tr.node (IntKind.i64.wrap (dotN (sat (IntKind.i64.wrap (a_x.tdiv 2) + IntKind.i64.wrap (a_x.tdiv 2))) (sat (IntKind.i64.wrap (a_y.tdiv 2) + IntKind.i64.wrap (a_y.tdiv 2))) (sat (IntKind.i64.wrap (a_z.tdiv 2) + IntKind.i64.wrap (a_z.tdiv 2))) b_x b_y b_z + dotN (sat (a_x + sat (sat (IntKind.i64.wrap (a_x.tdiv 2) + IntKind.i64.wrap (a_x.tdiv 2)) * -1))) (sat (a_y + sat (sat (IntKind.i64.wrap (a_y.tdiv 2) + IntKind.i64.wrap (a_y.tdiv 2)) * -1))) (sat (a_z + sat (sat (IntKind.i64.wrap (a_z.tdiv 2) + IntKind.i64.wrap (a_z.tdiv 2)) * -1))) b_x b_y b_z) == dotN a_x a_y a_z b_x b_y b_z) (Tr.node (IntKind.i64.wrap (dotN (sat (IntKind.i64.wrap (a_x.tdiv 2) + IntKind.i64.wrap (a_x.tdiv 2))) (sat (IntKind.i64.wrap (a_y.tdiv 2) + IntKind.i64.wrap (a_y.tdiv 2))) (sat (IntKind.i64.wrap (a_z.tdiv 2) + IntKind.i64.wrap (a_z.tdiv 2))) b_x b_y b_z + dotN (sat (a_x + sat (sat (IntKind.i64.wrap (a_x.tdiv 2) + IntKind.i64.wrap (a_x.tdiv 2)) * -1))) (sat (a_y + sat (sat (IntKind.i64.wrap (a_y.tdiv 2) + IntKind.i64.wrap (a_y.tdiv 2)) * -1))) (sat (a_z + sat (sat (IntKind.i64.wrap (a_z.tdiv 2) + IntKind.i64.wrap (a_z.tdiv 2)) * -1))) b_x b_y b_z) == dotN a_x a_y a_z b_x b_y b_z) (Tr.node (crN a_y a_z b_y b_z a_x b_x == sat (0 + sat (crN b_y b_z a_y a_z b_x a_x * -1)) && (crN a_z a_x b_z b_x a_y b_y == sat (0 + sat (crN b_z b_x a_z a_x b_y a_y * -1)) && (crN a_x a_y b_x b_y a_z b_z == sat (0 + sat (crN b_x b_y a_x a_y b_z a_z * -1)) && true))) (Tr.leaf (AV.bool false true)) (Tr.leaf (AV.bool false false))) (Tr.leaf (AV.bool false false))) (Tr.node (IntKind.i64.wrap (dotN (sat (IntKind.i64.wrap (a_x.tdiv 2) + IntKind.i64.wrap (a_x.tdiv 2))) (sat (IntKind.i64.wrap (a_y.tdiv 2) + IntKind.i64.wrap (a_y.tdiv 2))) (sat (IntKind.i64.wrap (a_z.tdiv 2) + IntKind.i64.wrap (a_z.tdiv 2))) b_x b_y b_z + dotN (sat (a_x + sat (sat (IntKind.i64.wrap (a_x.tdiv 2) + IntKind.i64.wrap (a_x.tdiv 2)) * -1))) (sat (a_y + sat (sat (IntKind.i64.wrap (a_y.tdiv 2) + IntKind.i64.wrap (a_y.tdiv 2)) * -1))) (sat (a_z + sat (sat (IntKind.i64.wrap (a_z.tdiv 2) + IntKind.i64.wrap (a_z.tdiv 2)) * -1))) b_x b_y b_z) == dotN a_x a_y a_z b_x b_y b_z) Tr.bad (Tr.leaf (AV.bool false false)))) (Tr.leaf (AV.bool false false))) (Tr.leaf (AV.bool false false))) (Tr.leaf (AV.bool false false))))))))))
theorem run_skylightlaw06_VecVolume (a_x : Int) (a_y : Int) (a_z : Int) (b_x : Int) (b_y : Int) (b_z : Int) (c_x : Int) (c_y : Int) (c_z : Int) (h_a_x : InR .i64 a_x) (h_a_y : InR .i64 a_y) (h_a_z : InR .i64 a_z) (h_b_x : InR .i64 b_x) (h_b_y : InR .i64 b_y) (h_b_z : InR .i64 b_z) (h_c_x : InR .i64 c_x) (h_c_y : InR .i64 c_y) (h_c_z : InR .i64 c_z) : (tr_skylightlaw06_VecVolume a_x a_y a_z b_x b_y b_z c_x c_y c_z).run = some (bb true) := by
  unfold tr_skylightlaw06_VecVolume
  simp only [Tr.run, bb]
  by_cases ha : nearB a_x a_y a_z = true
  rotate_left
  · simp [ha]
  by_cases hb : nearB b_x b_y b_z = true
  rotate_left
  · simp [ha, hb]
  by_cases hc : nearB c_x c_y c_z = true
  rotate_left
  · simp [ha, hb, hc]
  have ra := near_r ha
  simp only [half_k ra.1, half_k ra.2.1, half_k ra.2.2]
  have qx := tdiv2 a_x
  have qy := tdiv2 a_y
  have qz := tdiv2 a_z
  generalize a_x.tdiv 2 = kx at qx ⊢
  generalize a_y.tdiv 2 = ky at qy ⊢
  generalize a_z.tdiv 2 = kz at qz ⊢
  have rx : -1048576 ≤ 2 * kx ∧ 2 * kx ≤ 1048576 := by omega
  have ry : -1048576 ≤ 2 * ky ∧ 2 * ky ≤ 1048576 := by omega
  have rz : -1048576 ≤ 2 * kz ∧ 2 * kz ≤ 1048576 := by omega
  simp only [half_o ra.1 rx, half_o ra.2.1 ry, half_o ra.2.2 rz, half_s ra.1 rx, half_s ra.2.1 ry, half_s ra.2.2 rz]
  have hk : nearB (2 * kx) (2 * ky) (2 * kz) = true := decide_eq_true ⟨rx, ry, rz⟩
  have ho : nearB (a_x - 2 * kx) (a_y - 2 * ky) (a_z - 2 * kz) = true := by
    apply decide_eq_true; clear rx ry rz hk; omega
  obtain ⟨e1, e2, e3, e4, e5, e6⟩ := volume_law ha hb hc
  obtain ⟨e7, e8⟩ := volume_sum ha hb hc hk ho
  have f1 := cr_neg (a := a_y) (b := a_z) (c := b_y) (d := b_z) (e := a_x) (f := b_x) ha hb
  have f2 := cr_neg (a := a_z) (b := a_x) (c := b_z) (d := b_x) (e := a_y) (f := b_y) (near_rot2 a_x a_y a_z ▸ ha) (near_rot2 b_x b_y b_z ▸ hb)
  have f3 := cr_neg (a := a_x) (b := a_y) (c := b_x) (d := b_y) (e := a_z) (f := b_z) (near_rot a_x a_y a_z ▸ ha) (near_rot b_x b_y b_z ▸ hb)
  rw [← f1, ← f2, ← f3, e1, e2, e3, e4, e5, e6, e7, e8]
  simp [ha, hb, hc, e6]

end Go.Sky
