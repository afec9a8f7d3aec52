/- Trees of functions, and what they come to. -/
import Derived.Test.YtfbakgcemnkcpaaQ8ef77d35
set_option linter.unusedSimpArgs false
set_option linter.unusedVariables false
namespace Go.Sky
set_option maxRecDepth 100000

/-! tri.Flat -/
def tr_tri_Flat (a_x : Int) (a_y : Int) (a_z : Int) (b_x : Int) (b_y : Int) (b_z : Int) (c_x : Int) (c_y : Int) (c_z : Int) : Tr AV := Tr.node (!placeB a_x a_y a_z) (Tr.leaf (AV.bool false true)) (Tr.node (!placeB b_x b_y b_z) (Tr.leaf (AV.bool false true)) (Tr.node (!placeB c_x c_y c_z) (Tr.leaf (AV.bool false true)) (Tr.leaf (AV.bool false (crN (sat (b_y + sat (a_y * -1))) (sat (b_z + sat (a_z * -1))) (sat (c_y + sat (a_y * -1))) (sat (c_z + sat (a_z * -1))) (sat (b_x + sat (a_x * -1))) (sat (c_x + sat (a_x * -1))) == 0 && (crN (sat (b_z + sat (a_z * -1))) (sat (b_x + sat (a_x * -1))) (sat (c_z + sat (a_z * -1))) (sat (c_x + sat (a_x * -1))) (sat (b_y + sat (a_y * -1))) (sat (c_y + sat (a_y * -1))) == 0 && (crN (sat (b_x + sat (a_x * -1))) (sat (b_y + sat (a_y * -1))) (sat (c_x + sat (a_x * -1))) (sat (c_y + sat (a_y * -1))) (sat (b_z + sat (a_z * -1))) (sat (c_z + sat (a_z * -1))) == 0 && true)))))))
theorem run_tri_Flat (a_x : Int) (a_y : Int) (a_z : Int) (b_x : Int) (b_y : Int) (b_z : Int) (c_x : Int) (c_y : Int) (c_z : Int) (h_a_x : InR .i64 a_x) (h_a_y : InR .i64 a_y) (h_a_z : InR .i64 a_z) (h_b_x : InR .i64 b_x) (h_b_y : InR .i64 b_y) (h_b_z : InR .i64 b_z) (h_c_x : InR .i64 c_x) (h_c_y : InR .i64 c_y) (h_c_z : InR .i64 c_z) : (tr_tri_Flat a_x a_y a_z b_x b_y b_z c_x c_y c_z).run = some (bb (flatB a_x a_y a_z b_x b_y b_z c_x c_y c_z)) := by
  unfold tr_tri_Flat
  by_cases hp : placeB a_x a_y a_z = true ∧ placeB b_x b_y b_z = true ∧ placeB c_x c_y c_z = true
  rotate_left
  · have hz : placesB a_x a_y a_z b_x b_y b_z c_x c_y c_z = false := places_no hp
    unfold flatB
    rw [hz]
    cases h1 : placeB a_x a_y a_z
    · rfl
    cases h2 : placeB b_x b_y b_z
    · rfl
    cases h3 : placeB c_x c_y c_z
    · rfl
    exact absurd ⟨h1, h2, h3⟩ hp
  obtain ⟨ha, hb, hc⟩ := hp
  have hz : placesB a_x a_y a_z b_x b_y b_z c_x c_y c_z = true := by unfold placesB; rw [ha, hb, hc]; rfl
  
  obtain ⟨⟨e1, e2, e3⟩, ne⟩ := way3 ha hb
  obtain ⟨⟨f1, f2, f3⟩, nf⟩ := way3 ha hc
  obtain ⟨⟨u1, u2, u3⟩, r1, r2, r3⟩ := tri_up ha hb hc
  
  simp only [e1, e2, e3, f1, f2, f3, u1, u2, u3, ha, hb, hc]
  simp only [Tr.run, bb, flatB, hz, Bool.not_true, Bool.false_eq_true, if_false, if_true, Bool.false_or]
  congr 2
  rw [Bool.eq_iff_iff]
  simp

/-! skylightref11.Flat -/
def tr_skylightref11_Flat (a_x : Int) (a_y : Int) (a_z : Int) (b_x : Int) (b_y : Int) (b_z : Int) (c_x : Int) (c_y : Int) (c_z : Int) : Tr AV := Tr.node (placeB a_x a_y a_z) (Tr.node (placeB b_x b_y b_z) (Tr.node (!placeB c_x c_y c_z) (Tr.leaf (AV.bool false true)) (Tr.leaf (AV.bool false (crN (sat (b_y + sat (a_y * -1))) (sat (b_z + sat (a_z * -1))) (sat (c_y + sat (a_y * -1))) (sat (c_z + sat (a_z * -1))) (sat (b_x + sat (a_x * -1))) (sat (c_x + sat (a_x * -1))) == 0 && (crN (sat (b_z + sat (a_z * -1))) (sat (b_x + sat (a_x * -1))) (sat (c_z + sat (a_z * -1))) (sat (c_x + sat (a_x * -1))) (sat (b_y + sat (a_y * -1))) (sat (c_y + sat (a_y * -1))) == 0 && (crN (sat (b_x + sat (a_x * -1))) (sat (b_y + sat (a_y * -1))) (sat (c_x + sat (a_x * -1))) (sat (c_y + sat (a_y * -1))) (sat (b_z + sat (a_z * -1))) (sat (c_z + sat (a_z * -1))) == 0 && true)))))) (Tr.leaf (AV.bool false true))) (Tr.leaf (AV.bool false true))
theorem run_skylightref11_Flat (a_x : Int) (a_y : Int) (a_z : Int) (b_x : Int) (b_y : Int) (b_z : Int) (c_x : Int) (c_y : Int) (c_z : Int) (h_a_x : InR .i64 a_x) (h_a_y : InR .i64 a_y) (h_a_z : InR .i64 a_z) (h_b_x : InR .i64 b_x) (h_b_y : InR .i64 b_y) (h_b_z : InR .i64 b_z) (h_c_x : InR .i64 c_x) (h_c_y : InR .i64 c_y) (h_c_z : InR .i64 c_z) : (tr_skylightref11_Flat a_x a_y a_z b_x b_y b_z c_x c_y c_z).run = some (bb (flatB a_x a_y a_z b_x b_y b_z c_x c_y c_z)) := by
  unfold tr_skylightref11_Flat
  by_cases hp : placeB a_x a_y a_z = true ∧ placeB b_x b_y b_z = true ∧ placeB c_x c_y c_z = true
  rotate_left
  · have hz : placesB a_x a_y a_z b_x b_y b_z c_x c_y c_z = false := places_no hp
    unfold flatB
    rw [hz]
    cases h1 : placeB a_x a_y a_z
    · rfl
    cases h2 : placeB b_x b_y b_z
    · rfl
    cases h3 : placeB c_x c_y c_z
    · rfl
    exact absurd ⟨h1, h2, h3⟩ hp
  obtain ⟨ha, hb, hc⟩ := hp
  have hz : placesB a_x a_y a_z b_x b_y b_z c_x c_y c_z = true := by unfold placesB; rw [ha, hb, hc]; rfl
  
  obtain ⟨⟨e1, e2, e3⟩, ne⟩ := way3 ha hb
  obtain ⟨⟨f1, f2, f3⟩, nf⟩ := way3 ha hc
  obtain ⟨⟨u1, u2, u3⟩, r1, r2, r3⟩ := tri_up ha hb hc
  
  simp only [e1, e2, e3, f1, f2, f3, u1, u2, u3, ha, hb, hc]
  simp only [Tr.run, bb, flatB, hz, Bool.not_true, Bool.false_eq_true, if_false, if_true, Bool.false_or]
  congr 2
  rw [Bool.eq_iff_iff]
  simp

/-! tri.Normal -/
def tr_tri_Normal (a_x : Int) (a_y : Int) (a_z : Int) (b_x : Int) (b_y : Int) (b_z : Int) (c_x : Int) (c_y : Int) (c_z : Int) : Tr AV := Tr.node (!placeB a_x a_y a_z) (Tr.leaf (AV.tuple [AV.agg [AV.int IntKind.i64 false 0, AV.int IntKind.i64 false 0, AV.int IntKind.i64 false 0], AV.bool false false])) (Tr.node (!placeB b_x b_y b_z) (Tr.leaf (AV.tuple [AV.agg [AV.int IntKind.i64 false 0, AV.int IntKind.i64 false 0, AV.int IntKind.i64 false 0], AV.bool false false])) (Tr.node (!placeB c_x c_y c_z) (Tr.leaf (AV.tuple [AV.agg [AV.int IntKind.i64 false 0, AV.int IntKind.i64 false 0, AV.int IntKind.i64 false 0], AV.bool false false])) (Tr.leaf (AV.tuple [AV.agg [AV.int IntKind.i64 false (unitC (crN (sat (b_y + sat (a_y * -1))) (sat (b_z + sat (a_z * -1))) (sat (c_y + sat (a_y * -1))) (sat (c_z + sat (a_z * -1))) (sat (b_x + sat (a_x * -1))) (sat (c_x + sat (a_x * -1)))) (crN (sat (b_z + sat (a_z * -1))) (sat (b_x + sat (a_x * -1))) (sat (c_z + sat (a_z * -1))) (sat (c_x + sat (a_x * -1))) (sat (b_y + sat (a_y * -1))) (sat (c_y + sat (a_y * -1)))) (crN (sat (b_x + sat (a_x * -1))) (sat (b_y + sat (a_y * -1))) (sat (c_x + sat (a_x * -1))) (sat (c_y + sat (a_y * -1))) (sat (b_z + sat (a_z * -1))) (sat (c_z + sat (a_z * -1)))) (crN (sat (b_y + sat (a_y * -1))) (sat (b_z + sat (a_z * -1))) (sat (c_y + sat (a_y * -1))) (sat (c_z + sat (a_z * -1))) (sat (b_x + sat (a_x * -1))) (sat (c_x + sat (a_x * -1))))), AV.int IntKind.i64 false (unitC (crN (sat (b_y + sat (a_y * -1))) (sat (b_z + sat (a_z * -1))) (sat (c_y + sat (a_y * -1))) (sat (c_z + sat (a_z * -1))) (sat (b_x + sat (a_x * -1))) (sat (c_x + sat (a_x * -1)))) (crN (sat (b_z + sat (a_z * -1))) (sat (b_x + sat (a_x * -1))) (sat (c_z + sat (a_z * -1))) (sat (c_x + sat (a_x * -1))) (sat (b_y + sat (a_y * -1))) (sat (c_y + sat (a_y * -1)))) (crN (sat (b_x + sat (a_x * -1))) (sat (b_y + sat (a_y * -1))) (sat (c_x + sat (a_x * -1))) (sat (c_y + sat (a_y * -1))) (sat (b_z + sat (a_z * -1))) (sat (c_z + sat (a_z * -1)))) (crN (sat (b_z + sat (a_z * -1))) (sat (b_x + sat (a_x * -1))) (sat (c_z + sat (a_z * -1))) (sat (c_x + sat (a_x * -1))) (sat (b_y + sat (a_y * -1))) (sat (c_y + sat (a_y * -1))))), AV.int IntKind.i64 false (unitC (crN (sat (b_y + sat (a_y * -1))) (sat (b_z + sat (a_z * -1))) (sat (c_y + sat (a_y * -1))) (sat (c_z + sat (a_z * -1))) (sat (b_x + sat (a_x * -1))) (sat (c_x + sat (a_x * -1)))) (crN (sat (b_z + sat (a_z * -1))) (sat (b_x + sat (a_x * -1))) (sat (c_z + sat (a_z * -1))) (sat (c_x + sat (a_x * -1))) (sat (b_y + sat (a_y * -1))) (sat (c_y + sat (a_y * -1)))) (crN (sat (b_x + sat (a_x * -1))) (sat (b_y + sat (a_y * -1))) (sat (c_x + sat (a_x * -1))) (sat (c_y + sat (a_y * -1))) (sat (b_z + sat (a_z * -1))) (sat (c_z + sat (a_z * -1)))) (crN (sat (b_x + sat (a_x * -1))) (sat (b_y + sat (a_y * -1))) (sat (c_x + sat (a_x * -1))) (sat (c_y + sat (a_y * -1))) (sat (b_z + sat (a_z * -1))) (sat (c_z + sat (a_z * -1)))))], AV.bool false (okU (crN (sat (b_y + sat (a_y * -1))) (sat (b_z + sat (a_z * -1))) (sat (c_y + sat (a_y * -1))) (sat (c_z + sat (a_z * -1))) (sat (b_x + sat (a_x * -1))) (sat (c_x + sat (a_x * -1)))) (crN (sat (b_z + sat (a_z * -1))) (sat (b_x + sat (a_x * -1))) (sat (c_z + sat (a_z * -1))) (sat (c_x + sat (a_x * -1))) (sat (b_y + sat (a_y * -1))) (sat (c_y + sat (a_y * -1)))) (crN (sat (b_x + sat (a_x * -1))) (sat (b_y + sat (a_y * -1))) (sat (c_x + sat (a_x * -1))) (sat (c_y + sat (a_y * -1))) (sat (b_z + sat (a_z * -1))) (sat (c_z + sat (a_z * -1)))))]))))
theorem run_tri_Normal (a_x : Int) (a_y : Int) (a_z : Int) (b_x : Int) (b_y : Int) (b_z : Int) (c_x : Int) (c_y : Int) (c_z : Int) (h_a_x : InR .i64 a_x) (h_a_y : InR .i64 a_y) (h_a_z : InR .i64 a_z) (h_b_x : InR .i64 b_x) (h_b_y : InR .i64 b_y) (h_b_z : InR .i64 b_z) (h_c_x : InR .i64 c_x) (h_c_y : InR .i64 c_y) (h_c_z : InR .i64 c_z) : (tr_tri_Normal a_x a_y a_z b_x b_y b_z c_x c_y c_z).run = some (.tuple [v3 (triU (upC a_y a_z b_y b_z c_y c_z) a_x a_y a_z b_x b_y b_z c_x c_y c_z) (triU (upC a_z a_x b_z b_x c_z c_x) a_x a_y a_z b_x b_y b_z c_x c_y c_z) (triU (upC a_x a_y b_x b_y c_x c_y) a_x a_y a_z b_x b_y b_z c_x c_y c_z), bb (triOk a_x a_y a_z b_x b_y b_z c_x c_y c_z)]) := by
  unfold tr_tri_Normal
  by_cases hp : placeB a_x a_y a_z = true ∧ placeB b_x b_y b_z = true ∧ placeB c_x c_y c_z = true
  rotate_left
  · have hz : placesB a_x a_y a_z b_x b_y b_z c_x c_y c_z = false := places_no hp
    unfold triU triOk
    rw [hz]
    cases h1 : placeB a_x a_y a_z
    · rfl
    cases h2 : placeB b_x b_y b_z
    · rfl
    cases h3 : placeB c_x c_y c_z
    · rfl
    exact absurd ⟨h1, h2, h3⟩ hp
  obtain ⟨ha, hb, hc⟩ := hp
  have hz : placesB a_x a_y a_z b_x b_y b_z c_x c_y c_z = true := by unfold placesB; rw [ha, hb, hc]; rfl
  
  obtain ⟨⟨e1, e2, e3⟩, ne⟩ := way3 ha hb
  obtain ⟨⟨f1, f2, f3⟩, nf⟩ := way3 ha hc
  obtain ⟨⟨u1, u2, u3⟩, r1, r2, r3⟩ := tri_up ha hb hc
  
  simp only [e1, e2, e3, f1, f2, f3, u1, u2, u3, ha, hb, hc]
  unfold triU triOk
  rw [hz]
  rfl

/-! skylightref11.Normal -/
def tr_skylightref11_Normal (a_x : Int) (a_y : Int) (a_z : Int) (b_x : Int) (b_y : Int) (b_z : Int) (c_x : Int) (c_y : Int) (c_z : Int) : Tr AV := Tr.node (flatB a_x a_y a_z b_x b_y b_z c_x c_y c_z) (Tr.leaf (AV.tuple [AV.agg [AV.int IntKind.i64 false 0, AV.int IntKind.i64 false 0, AV.int IntKind.i64 false 0], AV.bool false false])) (Tr.leaf (AV.tuple [AV.agg [AV.int IntKind.i64 false (unitC (crN (sat (b_y + sat (a_y * -1))) (sat (b_z + sat (a_z * -1))) (sat (c_y + sat (a_y * -1))) (sat (c_z + sat (a_z * -1))) (sat (b_x + sat (a_x * -1))) (sat (c_x + sat (a_x * -1)))) (crN (sat (b_z + sat (a_z * -1))) (sat (b_x + sat (a_x * -1))) (sat (c_z + sat (a_z * -1))) (sat (c_x + sat (a_x * -1))) (sat (b_y + sat (a_y * -1))) (sat (c_y + sat (a_y * -1)))) (crN (sat (b_x + sat (a_x * -1))) (sat (b_y + sat (a_y * -1))) (sat (c_x + sat (a_x * -1))) (sat (c_y + sat (a_y * -1))) (sat (b_z + sat (a_z * -1))) (sat (c_z + sat (a_z * -1)))) (crN (sat (b_y + sat (a_y * -1))) (sat (b_z + sat (a_z * -1))) (sat (c_y + sat (a_y * -1))) (sat (c_z + sat (a_z * -1))) (sat (b_x + sat (a_x * -1))) (sat (c_x + sat (a_x * -1))))), AV.int IntKind.i64 false (unitC (crN (sat (b_y + sat (a_y * -1))) (sat (b_z + sat (a_z * -1))) (sat (c_y + sat (a_y * -1))) (sat (c_z + sat (a_z * -1))) (sat (b_x + sat (a_x * -1))) (sat (c_x + sat (a_x * -1)))) (crN (sat (b_z + sat (a_z * -1))) (sat (b_x + sat (a_x * -1))) (sat (c_z + sat (a_z * -1))) (sat (c_x + sat (a_x * -1))) (sat (b_y + sat (a_y * -1))) (sat (c_y + sat (a_y * -1)))) (crN (sat (b_x + sat (a_x * -1))) (sat (b_y + sat (a_y * -1))) (sat (c_x + sat (a_x * -1))) (sat (c_y + sat (a_y * -1))) (sat (b_z + sat (a_z * -1))) (sat (c_z + sat (a_z * -1)))) (crN (sat (b_z + sat (a_z * -1))) (sat (b_x + sat (a_x * -1))) (sat (c_z + sat (a_z * -1))) (sat (c_x + sat (a_x * -1))) (sat (b_y + sat (a_y * -1))) (sat (c_y + sat (a_y * -1))))), AV.int IntKind.i64 false (unitC (crN (sat (b_y + sat (a_y * -1))) (sat (b_z + sat (a_z * -1))) (sat (c_y + sat (a_y * -1))) (sat (c_z + sat (a_z * -1))) (sat (b_x + sat (a_x * -1))) (sat (c_x + sat (a_x * -1)))) (crN (sat (b_z + sat (a_z * -1))) (sat (b_x + sat (a_x * -1))) (sat (c_z + sat (a_z * -1))) (sat (c_x + sat (a_x * -1))) (sat (b_y + sat (a_y * -1))) (sat (c_y + sat (a_y * -1)))) (crN (sat (b_x + sat (a_x * -1))) (sat (b_y + sat (a_y * -1))) (sat (c_x + sat (a_x * -1))) (sat (c_y + sat (a_y * -1))) (sat (b_z + sat (a_z * -1))) (sat (c_z + sat (a_z * -1)))) (crN (sat (b_x + sat (a_x * -1))) (sat (b_y + sat (a_y * -1))) (sat (c_x + sat (a_x * -1))) (sat (c_y + sat (a_y * -1))) (sat (b_z + sat (a_z * -1))) (sat (c_z + sat (a_z * -1)))))], AV.bool false (okU (crN (sat (b_y + sat (a_y * -1))) (sat (b_z + sat (a_z * -1))) (sat (c_y + sat (a_y * -1))) (sat (c_z + sat (a_z * -1))) (sat (b_x + sat (a_x * -1))) (sat (c_x + sat (a_x * -1)))) (crN (sat (b_z + sat (a_z * -1))) (sat (b_x + sat (a_x * -1))) (sat (c_z + sat (a_z * -1))) (sat (c_x + sat (a_x * -1))) (sat (b_y + sat (a_y * -1))) (sat (c_y + sat (a_y * -1)))) (crN (sat (b_x + sat (a_x * -1))) (sat (b_y + sat (a_y * -1))) (sat (c_x + sat (a_x * -1))) (sat (c_y + sat (a_y * -1))) (sat (b_z + sat (a_z * -1))) (sat (c_z + sat (a_z * -1)))))]))
theorem run_skylightref11_Normal (a_x : Int) (a_y : Int) (a_z : Int) (b_x : Int) (b_y : Int) (b_z : Int) (c_x : Int) (c_y : Int) (c_z : Int) (h_a_x : InR .i64 a_x) (h_a_y : InR .i64 a_y) (h_a_z : InR .i64 a_z) (h_b_x : InR .i64 b_x) (h_b_y : InR .i64 b_y) (h_b_z : InR .i64 b_z) (h_c_x : InR .i64 c_x) (h_c_y : InR .i64 c_y) (h_c_z : InR .i64 c_z) : (tr_skylightref11_Normal a_x a_y a_z b_x b_y b_z c_x c_y c_z).run = some (.tuple [v3 (triU (upC a_y a_z b_y b_z c_y c_z) a_x a_y a_z b_x b_y b_z c_x c_y c_z) (triU (upC a_z a_x b_z b_x c_z c_x) a_x a_y a_z b_x b_y b_z c_x c_y c_z) (triU (upC a_x a_y b_x b_y c_x c_y) a_x a_y a_z b_x b_y b_z c_x c_y c_z), bb (triOk a_x a_y a_z b_x b_y b_z c_x c_y c_z)]) := by
  unfold tr_skylightref11_Normal
  by_cases hp : placeB a_x a_y a_z = true ∧ placeB b_x b_y b_z = true ∧ placeB c_x c_y c_z = true
  rotate_left
  · have hz : placesB a_x a_y a_z b_x b_y b_z c_x c_y c_z = false := places_no hp
    unfold triU triOk
    rw [hz]
    have hf : flatB a_x a_y a_z b_x b_y b_z c_x c_y c_z = true := by unfold flatB; rw [hz]; rfl
    rw [hf]; rfl
  obtain ⟨ha, hb, hc⟩ := hp
  have hz : placesB a_x a_y a_z b_x b_y b_z c_x c_y c_z = true := by unfold placesB; rw [ha, hb, hc]; rfl
  
  obtain ⟨⟨e1, e2, e3⟩, ne⟩ := way3 ha hb
  obtain ⟨⟨f1, f2, f3⟩, nf⟩ := way3 ha hc
  obtain ⟨⟨u1, u2, u3⟩, r1, r2, r3⟩ := tri_up ha hb hc
  
  have hfl : flatB a_x a_y a_z b_x b_y b_z c_x c_y c_z = decide (upC a_y a_z b_y b_z c_y c_z = 0 ∧ upC a_z a_x b_z b_x c_z c_x = 0 ∧ upC a_x a_y b_x b_y c_x c_y = 0) := by unfold flatB; rw [hz]; rfl
  rw [hfl]
  simp only [e1, e2, e3, f1, f2, f3, u1, u2, u3]
  by_cases h0 : upC a_y a_z b_y b_z c_y c_z = 0 ∧ upC a_z a_x b_z b_x c_z c_x = 0 ∧ upC a_x a_y b_x b_y c_x c_y = 0
  · rw [decide_eq_true h0]
    unfold triU triOk
    simp only [hz, h0.1, h0.2.1, h0.2.2]
    have z : okU 0 0 0 = false := by decide
    have u0 : ∀ k, unitC 0 0 0 k = 0 := unitC_no z
    simp [Tr.run, v3, i6, bb, u0, z]
  rw [decide_eq_false h0]
  refine (run_f rfl).trans ?_
  
  unfold triU triOk
  rw [hz]
  rfl

/-! tri.Area -/
def c_tri_Area_1 (a_x : Int) (a_y : Int) (a_z : Int) (b_x : Int) (b_y : Int) (b_z : Int) (c_x : Int) (c_y : Int) (c_z : Int) : Int := whi (0 + wv (crN (sat (b_y + sat (a_y * -1))) (sat (b_z + sat (a_z * -1))) (sat (c_y + sat (a_y * -1))) (sat (c_z + sat (a_z * -1))) (sat (b_x + sat (a_x * -1))) (sat (c_x + sat (a_x * -1))) * crN (sat (b_y + sat (a_y * -1))) (sat (b_z + sat (a_z * -1))) (sat (c_y + sat (a_y * -1))) (sat (c_z + sat (a_z * -1))) (sat (b_x + sat (a_x * -1))) (sat (c_x + sat (a_x * -1))) / 18446744073709551616) (crN (sat (b_y + sat (a_y * -1))) (sat (b_z + sat (a_z * -1))) (sat (c_y + sat (a_y * -1))) (sat (c_z + sat (a_z * -1))) (sat (b_x + sat (a_x * -1))) (sat (c_x + sat (a_x * -1))) * crN (sat (b_y + sat (a_y * -1))) (sat (b_z + sat (a_z * -1))) (sat (c_y + sat (a_y * -1))) (sat (c_z + sat (a_z * -1))) (sat (b_x + sat (a_x * -1))) (sat (c_x + sat (a_x * -1))) % 18446744073709551616))
def c_tri_Area_2 (a_x : Int) (a_y : Int) (a_z : Int) (b_x : Int) (b_y : Int) (b_z : Int) (c_x : Int) (c_y : Int) (c_z : Int) : Int := wlo (0 + wv (crN (sat (b_y + sat (a_y * -1))) (sat (b_z + sat (a_z * -1))) (sat (c_y + sat (a_y * -1))) (sat (c_z + sat (a_z * -1))) (sat (b_x + sat (a_x * -1))) (sat (c_x + sat (a_x * -1))) * crN (sat (b_y + sat (a_y * -1))) (sat (b_z + sat (a_z * -1))) (sat (c_y + sat (a_y * -1))) (sat (c_z + sat (a_z * -1))) (sat (b_x + sat (a_x * -1))) (sat (c_x + sat (a_x * -1))) / 18446744073709551616) (crN (sat (b_y + sat (a_y * -1))) (sat (b_z + sat (a_z * -1))) (sat (c_y + sat (a_y * -1))) (sat (c_z + sat (a_z * -1))) (sat (b_x + sat (a_x * -1))) (sat (c_x + sat (a_x * -1))) * crN (sat (b_y + sat (a_y * -1))) (sat (b_z + sat (a_z * -1))) (sat (c_y + sat (a_y * -1))) (sat (c_z + sat (a_z * -1))) (sat (b_x + sat (a_x * -1))) (sat (c_x + sat (a_x * -1))) % 18446744073709551616))
def c_tri_Area_3 (a_x : Int) (a_y : Int) (a_z : Int) (b_x : Int) (b_y : Int) (b_z : Int) (c_x : Int) (c_y : Int) (c_z : Int) : Int := whi (wv (c_tri_Area_1 a_x a_y a_z b_x b_y b_z c_x c_y c_z) (c_tri_Area_2 a_x a_y a_z b_x b_y b_z c_x c_y c_z) + wv (crN (sat (b_z + sat (a_z * -1))) (sat (b_x + sat (a_x * -1))) (sat (c_z + sat (a_z * -1))) (sat (c_x + sat (a_x * -1))) (sat (b_y + sat (a_y * -1))) (sat (c_y + sat (a_y * -1))) * crN (sat (b_z + sat (a_z * -1))) (sat (b_x + sat (a_x * -1))) (sat (c_z + sat (a_z * -1))) (sat (c_x + sat (a_x * -1))) (sat (b_y + sat (a_y * -1))) (sat (c_y + sat (a_y * -1))) / 18446744073709551616) (crN (sat (b_z + sat (a_z * -1))) (sat (b_x + sat (a_x * -1))) (sat (c_z + sat (a_z * -1))) (sat (c_x + sat (a_x * -1))) (sat (b_y + sat (a_y * -1))) (sat (c_y + sat (a_y * -1))) * crN (sat (b_z + sat (a_z * -1))) (sat (b_x + sat (a_x * -1))) (sat (c_z + sat (a_z * -1))) (sat (c_x + sat (a_x * -1))) (sat (b_y + sat (a_y * -1))) (sat (c_y + sat (a_y * -1))) % 18446744073709551616))
def c_tri_Area_4 (a_x : Int) (a_y : Int) (a_z : Int) (b_x : Int) (b_y : Int) (b_z : Int) (c_x : Int) (c_y : Int) (c_z : Int) : Int := wlo (wv (c_tri_Area_1 a_x a_y a_z b_x b_y b_z c_x c_y c_z) (c_tri_Area_2 a_x a_y a_z b_x b_y b_z c_x c_y c_z) + wv (crN (sat (b_z + sat (a_z * -1))) (sat (b_x + sat (a_x * -1))) (sat (c_z + sat (a_z * -1))) (sat (c_x + sat (a_x * -1))) (sat (b_y + sat (a_y * -1))) (sat (c_y + sat (a_y * -1))) * crN (sat (b_z + sat (a_z * -1))) (sat (b_x + sat (a_x * -1))) (sat (c_z + sat (a_z * -1))) (sat (c_x + sat (a_x * -1))) (sat (b_y + sat (a_y * -1))) (sat (c_y + sat (a_y * -1))) / 18446744073709551616) (crN (sat (b_z + sat (a_z * -1))) (sat (b_x + sat (a_x * -1))) (sat (c_z + sat (a_z * -1))) (sat (c_x + sat (a_x * -1))) (sat (b_y + sat (a_y * -1))) (sat (c_y + sat (a_y * -1))) * crN (sat (b_z + sat (a_z * -1))) (sat (b_x + sat (a_x * -1))) (sat (c_z + sat (a_z * -1))) (sat (c_x + sat (a_x * -1))) (sat (b_y + sat (a_y * -1))) (sat (c_y + sat (a_y * -1))) % 18446744073709551616))
def tr_tri_Area (a_x : Int) (a_y : Int) (a_z : Int) (b_x : Int) (b_y : Int) (b_z : Int) (c_x : Int) (c_y : Int) (c_z : Int) : Tr AV := Tr.node (!placeB a_x a_y a_z) (Tr.leaf (AV.int IntKind.i64 false 0)) (Tr.node (!placeB b_x b_y b_z) (Tr.leaf (AV.int IntKind.i64 false 0)) (Tr.node (!placeB c_x c_y c_z) (Tr.leaf (AV.int IntKind.i64 false 0)) (Tr.leaf (AV.int IntKind.i64 false (IntKind.i64.wrap (rootN (whi (wv (c_tri_Area_3 a_x a_y a_z b_x b_y b_z c_x c_y c_z) (c_tri_Area_4 a_x a_y a_z b_x b_y b_z c_x c_y c_z) + wv (crN (sat (b_x + sat (a_x * -1))) (sat (b_y + sat (a_y * -1))) (sat (c_x + sat (a_x * -1))) (sat (c_y + sat (a_y * -1))) (sat (b_z + sat (a_z * -1))) (sat (c_z + sat (a_z * -1))) * crN (sat (b_x + sat (a_x * -1))) (sat (b_y + sat (a_y * -1))) (sat (c_x + sat (a_x * -1))) (sat (c_y + sat (a_y * -1))) (sat (b_z + sat (a_z * -1))) (sat (c_z + sat (a_z * -1))) / 18446744073709551616) (crN (sat (b_x + sat (a_x * -1))) (sat (b_y + sat (a_y * -1))) (sat (c_x + sat (a_x * -1))) (sat (c_y + sat (a_y * -1))) (sat (b_z + sat (a_z * -1))) (sat (c_z + sat (a_z * -1))) * crN (sat (b_x + sat (a_x * -1))) (sat (b_y + sat (a_y * -1))) (sat (c_x + sat (a_x * -1))) (sat (c_y + sat (a_y * -1))) (sat (b_z + sat (a_z * -1))) (sat (c_z + sat (a_z * -1))) % 18446744073709551616))) (wlo (wv (c_tri_Area_3 a_x a_y a_z b_x b_y b_z c_x c_y c_z) (c_tri_Area_4 a_x a_y a_z b_x b_y b_z c_x c_y c_z) + wv (crN (sat (b_x + sat (a_x * -1))) (sat (b_y + sat (a_y * -1))) (sat (c_x + sat (a_x * -1))) (sat (c_y + sat (a_y * -1))) (sat (b_z + sat (a_z * -1))) (sat (c_z + sat (a_z * -1))) * crN (sat (b_x + sat (a_x * -1))) (sat (b_y + sat (a_y * -1))) (sat (c_x + sat (a_x * -1))) (sat (c_y + sat (a_y * -1))) (sat (b_z + sat (a_z * -1))) (sat (c_z + sat (a_z * -1))) / 18446744073709551616) (crN (sat (b_x + sat (a_x * -1))) (sat (b_y + sat (a_y * -1))) (sat (c_x + sat (a_x * -1))) (sat (c_y + sat (a_y * -1))) (sat (b_z + sat (a_z * -1))) (sat (c_z + sat (a_z * -1))) * crN (sat (b_x + sat (a_x * -1))) (sat (b_y + sat (a_y * -1))) (sat (c_x + sat (a_x * -1))) (sat (c_y + sat (a_y * -1))) (sat (b_z + sat (a_z * -1))) (sat (c_z + sat (a_z * -1))) % 18446744073709551616)))))))))
theorem run_tri_Area (a_x : Int) (a_y : Int) (a_z : Int) (b_x : Int) (b_y : Int) (b_z : Int) (c_x : Int) (c_y : Int) (c_z : Int) (h_a_x : InR .i64 a_x) (h_a_y : InR .i64 a_y) (h_a_z : InR .i64 a_z) (h_b_x : InR .i64 b_x) (h_b_y : InR .i64 b_y) (h_b_z : InR .i64 b_z) (h_c_x : InR .i64 c_x) (h_c_y : InR .i64 c_y) (h_c_z : InR .i64 c_z) : (tr_tri_Area a_x a_y a_z b_x b_y b_z c_x c_y c_z).run = some (i6 (areaN a_x a_y a_z b_x b_y b_z c_x c_y c_z)) := by
  unfold tr_tri_Area
  by_cases hp : placeB a_x a_y a_z = true ∧ placeB b_x b_y b_z = true ∧ placeB c_x c_y c_z = true
  rotate_left
  · have hz : placesB a_x a_y a_z b_x b_y b_z c_x c_y c_z = false := places_no hp
    unfold areaN
    rw [hz]
    cases h1 : placeB a_x a_y a_z
    · rfl
    cases h2 : placeB b_x b_y b_z
    · rfl
    cases h3 : placeB c_x c_y c_z
    · rfl
    exact absurd ⟨h1, h2, h3⟩ hp
  obtain ⟨ha, hb, hc⟩ := hp
  have hz : placesB a_x a_y a_z b_x b_y b_z c_x c_y c_z = true := by unfold placesB; rw [ha, hb, hc]; rfl
  
  obtain ⟨⟨e1, e2, e3⟩, ne⟩ := way3 ha hb
  obtain ⟨⟨f1, f2, f3⟩, nf⟩ := way3 ha hc
  obtain ⟨⟨u1, u2, u3⟩, r1, r2, r3⟩ := tri_up ha hb hc
  
  simp only [c_tri_Area_1, c_tri_Area_2, c_tri_Area_3, c_tri_Area_4, e1, e2, e3, f1, f2, f3, u1, u2, u3, ha, hb, hc, wv_split, wv_sg]
  unfold areaN up2 dotI
  rw [hz]
  rw [area_root r1 r2 r3 (by unfold sg; omega)]
  rfl

/-! skylightref11.Area -/
def c_skylightref11_Area_1 (a_x : Int) (a_y : Int) (a_z : Int) (b_x : Int) (b_y : Int) (b_z : Int) (c_x : Int) (c_y : Int) (c_z : Int) : Int := whi (crN (sat (b_y + sat (a_y * -1))) (sat (b_z + sat (a_z * -1))) (sat (c_y + sat (a_y * -1))) (sat (c_z + sat (a_z * -1))) (sat (b_x + sat (a_x * -1))) (sat (c_x + sat (a_x * -1))) * crN (sat (b_y + sat (a_y * -1))) (sat (b_z + sat (a_z * -1))) (sat (c_y + sat (a_y * -1))) (sat (c_z + sat (a_z * -1))) (sat (b_x + sat (a_x * -1))) (sat (c_x + sat (a_x * -1))))
def c_skylightref11_Area_2 (a_x : Int) (a_y : Int) (a_z : Int) (b_x : Int) (b_y : Int) (b_z : Int) (c_x : Int) (c_y : Int) (c_z : Int) : Int := wlo (crN (sat (b_y + sat (a_y * -1))) (sat (b_z + sat (a_z * -1))) (sat (c_y + sat (a_y * -1))) (sat (c_z + sat (a_z * -1))) (sat (b_x + sat (a_x * -1))) (sat (c_x + sat (a_x * -1))) * crN (sat (b_y + sat (a_y * -1))) (sat (b_z + sat (a_z * -1))) (sat (c_y + sat (a_y * -1))) (sat (c_z + sat (a_z * -1))) (sat (b_x + sat (a_x * -1))) (sat (c_x + sat (a_x * -1))))
def c_skylightref11_Area_3 (a_x : Int) (a_y : Int) (a_z : Int) (b_x : Int) (b_y : Int) (b_z : Int) (c_x : Int) (c_y : Int) (c_z : Int) : Int := whi (crN (sat (b_z + sat (a_z * -1))) (sat (b_x + sat (a_x * -1))) (sat (c_z + sat (a_z * -1))) (sat (c_x + sat (a_x * -1))) (sat (b_y + sat (a_y * -1))) (sat (c_y + sat (a_y * -1))) * crN (sat (b_z + sat (a_z * -1))) (sat (b_x + sat (a_x * -1))) (sat (c_z + sat (a_z * -1))) (sat (c_x + sat (a_x * -1))) (sat (b_y + sat (a_y * -1))) (sat (c_y + sat (a_y * -1))))
def c_skylightref11_Area_4 (a_x : Int) (a_y : Int) (a_z : Int) (b_x : Int) (b_y : Int) (b_z : Int) (c_x : Int) (c_y : Int) (c_z : Int) : Int := wlo (crN (sat (b_z + sat (a_z * -1))) (sat (b_x + sat (a_x * -1))) (sat (c_z + sat (a_z * -1))) (sat (c_x + sat (a_x * -1))) (sat (b_y + sat (a_y * -1))) (sat (c_y + sat (a_y * -1))) * crN (sat (b_z + sat (a_z * -1))) (sat (b_x + sat (a_x * -1))) (sat (c_z + sat (a_z * -1))) (sat (c_x + sat (a_x * -1))) (sat (b_y + sat (a_y * -1))) (sat (c_y + sat (a_y * -1))))
def c_skylightref11_Area_5 (a_x : Int) (a_y : Int) (a_z : Int) (b_x : Int) (b_y : Int) (b_z : Int) (c_x : Int) (c_y : Int) (c_z : Int) : Int := whi (crN (sat (b_x + sat (a_x * -1))) (sat (b_y + sat (a_y * -1))) (sat (c_x + sat (a_x * -1))) (sat (c_y + sat (a_y * -1))) (sat (b_z + sat (a_z * -1))) (sat (c_z + sat (a_z * -1))) * crN (sat (b_x + sat (a_x * -1))) (sat (b_y + sat (a_y * -1))) (sat (c_x + sat (a_x * -1))) (sat (c_y + sat (a_y * -1))) (sat (b_z + sat (a_z * -1))) (sat (c_z + sat (a_z * -1))))
def c_skylightref11_Area_6 (a_x : Int) (a_y : Int) (a_z : Int) (b_x : Int) (b_y : Int) (b_z : Int) (c_x : Int) (c_y : Int) (c_z : Int) : Int := wlo (crN (sat (b_x + sat (a_x * -1))) (sat (b_y + sat (a_y * -1))) (sat (c_x + sat (a_x * -1))) (sat (c_y + sat (a_y * -1))) (sat (b_z + sat (a_z * -1))) (sat (c_z + sat (a_z * -1))) * crN (sat (b_x + sat (a_x * -1))) (sat (b_y + sat (a_y * -1))) (sat (c_x + sat (a_x * -1))) (sat (c_y + sat (a_y * -1))) (sat (b_z + sat (a_z * -1))) (sat (c_z + sat (a_z * -1))))
def c_skylightref11_Area_7 (a_x : Int) (a_y : Int) (a_z : Int) (b_x : Int) (b_y : Int) (b_z : Int) (c_x : Int) (c_y : Int) (c_z : Int) : Int := whi (wv (c_skylightref11_Area_3 a_x a_y a_z b_x b_y b_z c_x c_y c_z) (c_skylightref11_Area_4 a_x a_y a_z b_x b_y b_z c_x c_y c_z) + wv (c_skylightref11_Area_5 a_x a_y a_z b_x b_y b_z c_x c_y c_z) (c_skylightref11_Area_6 a_x a_y a_z b_x b_y b_z c_x c_y c_z))
def c_skylightref11_Area_8 (a_x : Int) (a_y : Int) (a_z : Int) (b_x : Int) (b_y : Int) (b_z : Int) (c_x : Int) (c_y : Int) (c_z : Int) : Int := wlo (wv (c_skylightref11_Area_3 a_x a_y a_z b_x b_y b_z c_x c_y c_z) (c_skylightref11_Area_4 a_x a_y a_z b_x b_y b_z c_x c_y c_z) + wv (c_skylightref11_Area_5 a_x a_y a_z b_x b_y b_z c_x c_y c_z) (c_skylightref11_Area_6 a_x a_y a_z b_x b_y b_z c_x c_y c_z))
def tr_skylightref11_Area (a_x : Int) (a_y : Int) (a_z : Int) (b_x : Int) (b_y : Int) (b_z : Int) (c_x : Int) (c_y : Int) (c_z : Int) : Tr AV := Tr.node (flatB a_x a_y a_z b_x b_y b_z c_x c_y c_z) (Tr.leaf (AV.int IntKind.i64 false 0)) (Tr.leaf (AV.int IntKind.i64 false (IntKind.i64.wrap (rootN (whi (wv (c_skylightref11_Area_1 a_x a_y a_z b_x b_y b_z c_x c_y c_z) (c_skylightref11_Area_2 a_x a_y a_z b_x b_y b_z c_x c_y c_z) + wv (c_skylightref11_Area_7 a_x a_y a_z b_x b_y b_z c_x c_y c_z) (c_skylightref11_Area_8 a_x a_y a_z b_x b_y b_z c_x c_y c_z))) (wlo (wv (c_skylightref11_Area_1 a_x a_y a_z b_x b_y b_z c_x c_y c_z) (c_skylightref11_Area_2 a_x a_y a_z b_x b_y b_z c_x c_y c_z) + wv (c_skylightref11_Area_7 a_x a_y a_z b_x b_y b_z c_x c_y c_z) (c_skylightref11_Area_8 a_x a_y a_z b_x b_y b_z c_x c_y c_z)))))))
theorem run_skylightref11_Area (a_x : Int) (a_y : Int) (a_z : Int) (b_x : Int) (b_y : Int) (b_z : Int) (c_x : Int) (c_y : Int) (c_z : Int) (h_a_x : InR .i64 a_x) (h_a_y : InR .i64 a_y) (h_a_z : InR .i64 a_z) (h_b_x : InR .i64 b_x) (h_b_y : InR .i64 b_y) (h_b_z : InR .i64 b_z) (h_c_x : InR .i64 c_x) (h_c_y : InR .i64 c_y) (h_c_z : InR .i64 c_z) : (tr_skylightref11_Area a_x a_y a_z b_x b_y b_z c_x c_y c_z).run = some (i6 (areaN a_x a_y a_z b_x b_y b_z c_x c_y c_z)) := by
  unfold tr_skylightref11_Area
  by_cases hp : placeB a_x a_y a_z = true ∧ placeB b_x b_y b_z = true ∧ placeB c_x c_y c_z = true
  rotate_left
  · have hz : placesB a_x a_y a_z b_x b_y b_z c_x c_y c_z = false := places_no hp
    unfold areaN up2 dotI
    rw [hz]
    have hf : flatB a_x a_y a_z b_x b_y b_z c_x c_y c_z = true := by unfold flatB; rw [hz]; rfl
    rw [hf]; rfl
  obtain ⟨ha, hb, hc⟩ := hp
  have hz : placesB a_x a_y a_z b_x b_y b_z c_x c_y c_z = true := by unfold placesB; rw [ha, hb, hc]; rfl
  
  obtain ⟨⟨e1, e2, e3⟩, ne⟩ := way3 ha hb
  obtain ⟨⟨f1, f2, f3⟩, nf⟩ := way3 ha hc
  obtain ⟨⟨u1, u2, u3⟩, r1, r2, r3⟩ := tri_up ha hb hc
  
  have hfl : flatB a_x a_y a_z b_x b_y b_z c_x c_y c_z = decide (upC a_y a_z b_y b_z c_y c_z = 0 ∧ upC a_z a_x b_z b_x c_z c_x = 0 ∧ upC a_x a_y b_x b_y c_x c_y = 0) := by unfold flatB; rw [hz]; rfl
  rw [hfl]
  simp only [c_skylightref11_Area_1, c_skylightref11_Area_2, c_skylightref11_Area_3, c_skylightref11_Area_4, c_skylightref11_Area_5, c_skylightref11_Area_6, c_skylightref11_Area_7, c_skylightref11_Area_8, wv_sg, e1, e2, e3, f1, f2, f3, u1, u2, u3]
  by_cases h0 : upC a_y a_z b_y b_z c_y c_z = 0 ∧ upC a_z a_x b_z b_x c_z c_x = 0 ∧ upC a_x a_y b_x b_y c_x c_y = 0
  · rw [decide_eq_true h0]
    unfold areaN up2 dotI
    simp only [hz, h0.1, h0.2.1, h0.2.2]
    rfl
  rw [decide_eq_false h0]
  refine (run_f rfl).trans ?_
  
  unfold areaN up2 dotI
  rw [hz]
  rw [area_root r1 r2 r3 (by unfold sg; omega)]
  rfl

/-! tri.Hit -/
def c_tri_Hit_1 (a_x : Int) (a_y : Int) (a_z : Int) (b_x : Int) (b_y : Int) (b_z : Int) (c_x : Int) (c_y : Int) (c_z : Int) (r_d_x : Int) (r_d_y : Int) (r_d_z : Int) : Int := IntKind.i64.wrap (0 - volN (sat (b_x + sat (a_x * -1))) (sat (b_y + sat (a_y * -1))) (sat (b_z + sat (a_z * -1))) (sat (c_x + sat (a_x * -1))) (sat (c_y + sat (a_y * -1))) (sat (c_z + sat (a_z * -1))) r_d_x r_d_y r_d_z)
def c_tri_Hit_2 (a_x : Int) (a_y : Int) (a_z : Int) (b_x : Int) (b_y : Int) (b_z : Int) (c_x : Int) (c_y : Int) (c_z : Int) (r_o_x : Int) (r_o_y : Int) (r_o_z : Int) : Int := IntKind.i64.wrap (0 - volN (sat (b_x + sat (a_x * -1))) (sat (b_y + sat (a_y * -1))) (sat (b_z + sat (a_z * -1))) (sat (c_x + sat (a_x * -1))) (sat (c_y + sat (a_y * -1))) (sat (c_z + sat (a_z * -1))) (sat (r_o_x + sat (a_x * -1))) (sat (r_o_y + sat (a_y * -1))) (sat (r_o_z + sat (a_z * -1))))
def c_tri_Hit_3 (a_x : Int) (a_y : Int) (a_z : Int) (b_x : Int) (b_y : Int) (b_z : Int) (c_x : Int) (c_y : Int) (c_z : Int) (r_o_x : Int) (r_o_y : Int) (r_o_z : Int) : Int := IntKind.i64.wrap (0 - IntKind.i64.wrap (0 - volN (sat (b_x + sat (a_x * -1))) (sat (b_y + sat (a_y * -1))) (sat (b_z + sat (a_z * -1))) (sat (c_x + sat (a_x * -1))) (sat (c_y + sat (a_y * -1))) (sat (c_z + sat (a_z * -1))) (sat (r_o_x + sat (a_x * -1))) (sat (r_o_y + sat (a_y * -1))) (sat (r_o_z + sat (a_z * -1)))))
def tr_tri_Hit (a_x : Int) (a_y : Int) (a_z : Int) (b_x : Int) (b_y : Int) (b_z : Int) (c_x : Int) (c_y : Int) (c_z : Int) (r_o_x : Int) (r_o_y : Int) (r_o_z : Int) (r_d_x : Int) (r_d_y : Int) (r_d_z : Int) (r_f : Int) : Tr AV := Tr.node (!placeB a_x a_y a_z) (Tr.leaf (AV.tuple [AV.agg [AV.int IntKind.i64 false 0, AV.int IntKind.i64 false 0], AV.bool false false])) (Tr.node (!placeB b_x b_y b_z) (Tr.leaf (AV.tuple [AV.agg [AV.int IntKind.i64 false 0, AV.int IntKind.i64 false 0], AV.bool false false])) (Tr.node (!placeB c_x c_y c_z) (Tr.leaf (AV.tuple [AV.agg [AV.int IntKind.i64 false 0, AV.int IntKind.i64 false 0], AV.bool false false])) (Tr.node (!placeB r_o_x r_o_y r_o_z) (Tr.leaf (AV.tuple [AV.agg [AV.int IntKind.i64 false 0, AV.int IntKind.i64 false 0], AV.bool false false])) (Tr.node (!nearB r_d_x r_d_y r_d_z) (Tr.leaf (AV.tuple [AV.agg [AV.int IntKind.i64 false 0, AV.int IntKind.i64 false 0], AV.bool false false])) (Tr.node (decide (volN (sat (b_x + sat (a_x * -1))) (sat (b_y + sat (a_y * -1))) (sat (b_z + sat (a_z * -1))) (sat (c_x + sat (a_x * -1))) (sat (c_y + sat (a_y * -1))) (sat (c_z + sat (a_z * -1))) r_d_x r_d_y r_d_z < 0)) (Tr.node (volN (sat (b_x + sat (a_x * -1))) (sat (b_y + sat (a_y * -1))) (sat (b_z + sat (a_z * -1))) (sat (c_x + sat (a_x * -1))) (sat (c_y + sat (a_y * -1))) (sat (c_z + sat (a_z * -1))) r_d_x r_d_y r_d_z == 0) (Tr.leaf (AV.tuple [AV.agg [AV.int IntKind.i64 false 0, AV.int IntKind.i64 false 0], AV.bool false false])) (Tr.node (mm false (c_tri_Hit_2 a_x a_y a_z b_x b_y b_z c_x c_y c_z r_o_x r_o_y r_o_z) (volN (sat (b_x + sat (a_x * -1))) (sat (b_y + sat (a_y * -1))) (sat (b_z + sat (a_z * -1))) (sat (c_x + sat (a_x * -1))) (sat (c_y + sat (a_y * -1))) (sat (c_z + sat (a_z * -1))) r_d_x r_d_y r_d_z) == -9223372036854775808) (Tr.leaf (AV.tuple [AV.agg [AV.int IntKind.i64 false 0, AV.int IntKind.i64 false 0], AV.bool false false])) (Tr.node (decide (volN (sat (b_x + sat (a_x * -1))) (sat (b_y + sat (a_y * -1))) (sat (b_z + sat (a_z * -1))) (sat (c_x + sat (a_x * -1))) (sat (c_y + sat (a_y * -1))) (sat (c_z + sat (a_z * -1))) r_d_x r_d_y r_d_z < 0)) (Tr.node (decide (IntKind.i64.wrap (0 - volN (sat (r_o_x + sat (a_x * -1))) (sat (r_o_y + sat (a_y * -1))) (sat (r_o_z + sat (a_z * -1))) (sat (c_x + sat (a_x * -1))) (sat (c_y + sat (a_y * -1))) (sat (c_z + sat (a_z * -1))) r_d_x r_d_y r_d_z) < 0)) (Tr.leaf (AV.tuple [AV.agg [AV.int IntKind.i64 false 0, AV.int IntKind.i64 false 0], AV.bool false false])) (Tr.node (decide (IntKind.i64.wrap (0 - volN (sat (b_x + sat (a_x * -1))) (sat (b_y + sat (a_y * -1))) (sat (b_z + sat (a_z * -1))) (sat (r_o_x + sat (a_x * -1))) (sat (r_o_y + sat (a_y * -1))) (sat (r_o_z + sat (a_z * -1))) r_d_x r_d_y r_d_z) < 0)) (Tr.leaf (AV.tuple [AV.agg [AV.int IntKind.i64 false 0, AV.int IntKind.i64 false 0], AV.bool false false])) (Tr.node (decide (IntKind.i64.wrap (0 - volN (sat (r_o_x + sat (a_x * -1))) (sat (r_o_y + sat (a_y * -1))) (sat (r_o_z + sat (a_z * -1))) (sat (c_x + sat (a_x * -1))) (sat (c_y + sat (a_y * -1))) (sat (c_z + sat (a_z * -1))) r_d_x r_d_y r_d_z) > IntKind.i64.wrap (IntKind.i64.wrap (0 - volN (sat (b_x + sat (a_x * -1))) (sat (b_y + sat (a_y * -1))) (sat (b_z + sat (a_z * -1))) (sat (c_x + sat (a_x * -1))) (sat (c_y + sat (a_y * -1))) (sat (c_z + sat (a_z * -1))) r_d_x r_d_y r_d_z) - IntKind.i64.wrap (0 - volN (sat (b_x + sat (a_x * -1))) (sat (b_y + sat (a_y * -1))) (sat (b_z + sat (a_z * -1))) (sat (r_o_x + sat (a_x * -1))) (sat (r_o_y + sat (a_y * -1))) (sat (r_o_z + sat (a_z * -1))) r_d_x r_d_y r_d_z)))) (Tr.leaf (AV.tuple [AV.agg [AV.int IntKind.i64 false 0, AV.int IntKind.i64 false 0], AV.bool false false])) (Tr.node (decide (IntKind.i64.wrap (0 - IntKind.i64.wrap (0 - volN (sat (b_x + sat (a_x * -1))) (sat (b_y + sat (a_y * -1))) (sat (b_z + sat (a_z * -1))) (sat (c_x + sat (a_x * -1))) (sat (c_y + sat (a_y * -1))) (sat (c_z + sat (a_z * -1))) (sat (r_o_x + sat (a_x * -1))) (sat (r_o_y + sat (a_y * -1))) (sat (r_o_z + sat (a_z * -1))))) ≤ 0)) (Tr.leaf (AV.tuple [AV.agg [AV.int IntKind.i64 false 0, AV.int IntKind.i64 false 0], AV.bool false false])) (Tr.leaf (AV.tuple [AV.agg [AV.int IntKind.i64 false (c_tri_Hit_3 a_x a_y a_z b_x b_y b_z c_x c_y c_z r_o_x r_o_y r_o_z), AV.int IntKind.i64 false (c_tri_Hit_1 a_x a_y a_z b_x b_y b_z c_x c_y c_z r_d_x r_d_y r_d_z)], AV.bool false true])))))) (Tr.node (decide (IntKind.i64.wrap (0 - volN (sat (r_o_x + sat (a_x * -1))) (sat (r_o_y + sat (a_y * -1))) (sat (r_o_z + sat (a_z * -1))) (sat (c_x + sat (a_x * -1))) (sat (c_y + sat (a_y * -1))) (sat (c_z + sat (a_z * -1))) r_d_x r_d_y r_d_z) < 0)) (Tr.leaf (AV.tuple [AV.agg [AV.int IntKind.i64 false 0, AV.int IntKind.i64 false 0], AV.bool false false])) (Tr.node (decide (IntKind.i64.wrap (0 - volN (sat (b_x + sat (a_x * -1))) (sat (b_y + sat (a_y * -1))) (sat (b_z + sat (a_z * -1))) (sat (r_o_x + sat (a_x * -1))) (sat (r_o_y + sat (a_y * -1))) (sat (r_o_z + sat (a_z * -1))) r_d_x r_d_y r_d_z) < 0)) (Tr.leaf (AV.tuple [AV.agg [AV.int IntKind.i64 false 0, AV.int IntKind.i64 false 0], AV.bool false false])) (Tr.node (decide (IntKind.i64.wrap (0 - volN (sat (r_o_x + sat (a_x * -1))) (sat (r_o_y + sat (a_y * -1))) (sat (r_o_z + sat (a_z * -1))) (sat (c_x + sat (a_x * -1))) (sat (c_y + sat (a_y * -1))) (sat (c_z + sat (a_z * -1))) r_d_x r_d_y r_d_z) > IntKind.i64.wrap (volN (sat (b_x + sat (a_x * -1))) (sat (b_y + sat (a_y * -1))) (sat (b_z + sat (a_z * -1))) (sat (c_x + sat (a_x * -1))) (sat (c_y + sat (a_y * -1))) (sat (c_z + sat (a_z * -1))) r_d_x r_d_y r_d_z - IntKind.i64.wrap (0 - volN (sat (b_x + sat (a_x * -1))) (sat (b_y + sat (a_y * -1))) (sat (b_z + sat (a_z * -1))) (sat (r_o_x + sat (a_x * -1))) (sat (r_o_y + sat (a_y * -1))) (sat (r_o_z + sat (a_z * -1))) r_d_x r_d_y r_d_z)))) (Tr.leaf (AV.tuple [AV.agg [AV.int IntKind.i64 false 0, AV.int IntKind.i64 false 0], AV.bool false false])) (Tr.node (decide (IntKind.i64.wrap (0 - volN (sat (b_x + sat (a_x * -1))) (sat (b_y + sat (a_y * -1))) (sat (b_z + sat (a_z * -1))) (sat (c_x + sat (a_x * -1))) (sat (c_y + sat (a_y * -1))) (sat (c_z + sat (a_z * -1))) (sat (r_o_x + sat (a_x * -1))) (sat (r_o_y + sat (a_y * -1))) (sat (r_o_z + sat (a_z * -1)))) ≤ 0)) (Tr.leaf (AV.tuple [AV.agg [AV.int IntKind.i64 false 0, AV.int IntKind.i64 false 0], AV.bool false false])) (Tr.leaf (AV.tuple [AV.agg [AV.int IntKind.i64 false (c_tri_Hit_2 a_x a_y a_z b_x b_y b_z c_x c_y c_z r_o_x r_o_y r_o_z), AV.int IntKind.i64 false (volN (sat (b_x + sat (a_x * -1))) (sat (b_y + sat (a_y * -1))) (sat (b_z + sat (a_z * -1))) (sat (c_x + sat (a_x * -1))) (sat (c_y + sat (a_y * -1))) (sat (c_z + sat (a_z * -1))) r_d_x r_d_y r_d_z)], AV.bool false true]))))))))) (Tr.node (volN (sat (b_x + sat (a_x * -1))) (sat (b_y + sat (a_y * -1))) (sat (b_z + sat (a_z * -1))) (sat (c_x + sat (a_x * -1))) (sat (c_y + sat (a_y * -1))) (sat (c_z + sat (a_z * -1))) r_d_x r_d_y r_d_z == 0) (Tr.leaf (AV.tuple [AV.agg [AV.int IntKind.i64 false 0, AV.int IntKind.i64 false 0], AV.bool false false])) (Tr.node (mm false (c_tri_Hit_2 a_x a_y a_z b_x b_y b_z c_x c_y c_z r_o_x r_o_y r_o_z) (volN (sat (b_x + sat (a_x * -1))) (sat (b_y + sat (a_y * -1))) (sat (b_z + sat (a_z * -1))) (sat (c_x + sat (a_x * -1))) (sat (c_y + sat (a_y * -1))) (sat (c_z + sat (a_z * -1))) r_d_x r_d_y r_d_z) == -9223372036854775808) (Tr.leaf (AV.tuple [AV.agg [AV.int IntKind.i64 false 0, AV.int IntKind.i64 false 0], AV.bool false false])) (Tr.node (decide (volN (sat (b_x + sat (a_x * -1))) (sat (b_y + sat (a_y * -1))) (sat (b_z + sat (a_z * -1))) (sat (c_x + sat (a_x * -1))) (sat (c_y + sat (a_y * -1))) (sat (c_z + sat (a_z * -1))) r_d_x r_d_y r_d_z < 0)) (Tr.node (decide (volN (sat (r_o_x + sat (a_x * -1))) (sat (r_o_y + sat (a_y * -1))) (sat (r_o_z + sat (a_z * -1))) (sat (c_x + sat (a_x * -1))) (sat (c_y + sat (a_y * -1))) (sat (c_z + sat (a_z * -1))) r_d_x r_d_y r_d_z < 0)) (Tr.leaf (AV.tuple [AV.agg [AV.int IntKind.i64 false 0, AV.int IntKind.i64 false 0], AV.bool false false])) (Tr.node (decide (volN (sat (b_x + sat (a_x * -1))) (sat (b_y + sat (a_y * -1))) (sat (b_z + sat (a_z * -1))) (sat (r_o_x + sat (a_x * -1))) (sat (r_o_y + sat (a_y * -1))) (sat (r_o_z + sat (a_z * -1))) r_d_x r_d_y r_d_z < 0)) (Tr.leaf (AV.tuple [AV.agg [AV.int IntKind.i64 false 0, AV.int IntKind.i64 false 0], AV.bool false false])) (Tr.node (decide (volN (sat (r_o_x + sat (a_x * -1))) (sat (r_o_y + sat (a_y * -1))) (sat (r_o_z + sat (a_z * -1))) (sat (c_x + sat (a_x * -1))) (sat (c_y + sat (a_y * -1))) (sat (c_z + sat (a_z * -1))) r_d_x r_d_y r_d_z > IntKind.i64.wrap (IntKind.i64.wrap (0 - volN (sat (b_x + sat (a_x * -1))) (sat (b_y + sat (a_y * -1))) (sat (b_z + sat (a_z * -1))) (sat (c_x + sat (a_x * -1))) (sat (c_y + sat (a_y * -1))) (sat (c_z + sat (a_z * -1))) r_d_x r_d_y r_d_z) - volN (sat (b_x + sat (a_x * -1))) (sat (b_y + sat (a_y * -1))) (sat (b_z + sat (a_z * -1))) (sat (r_o_x + sat (a_x * -1))) (sat (r_o_y + sat (a_y * -1))) (sat (r_o_z + sat (a_z * -1))) r_d_x r_d_y r_d_z))) (Tr.leaf (AV.tuple [AV.agg [AV.int IntKind.i64 false 0, AV.int IntKind.i64 false 0], AV.bool false false])) (Tr.node (decide (IntKind.i64.wrap (0 - IntKind.i64.wrap (0 - volN (sat (b_x + sat (a_x * -1))) (sat (b_y + sat (a_y * -1))) (sat (b_z + sat (a_z * -1))) (sat (c_x + sat (a_x * -1))) (sat (c_y + sat (a_y * -1))) (sat (c_z + sat (a_z * -1))) (sat (r_o_x + sat (a_x * -1))) (sat (r_o_y + sat (a_y * -1))) (sat (r_o_z + sat (a_z * -1))))) ≤ 0)) (Tr.leaf (AV.tuple [AV.agg [AV.int IntKind.i64 false 0, AV.int IntKind.i64 false 0], AV.bool false false])) (Tr.leaf (AV.tuple [AV.agg [AV.int IntKind.i64 false (c_tri_Hit_3 a_x a_y a_z b_x b_y b_z c_x c_y c_z r_o_x r_o_y r_o_z), AV.int IntKind.i64 false (c_tri_Hit_1 a_x a_y a_z b_x b_y b_z c_x c_y c_z r_d_x r_d_y r_d_z)], AV.bool false true])))))) (Tr.node (decide (volN (sat (r_o_x + sat (a_x * -1))) (sat (r_o_y + sat (a_y * -1))) (sat (r_o_z + sat (a_z * -1))) (sat (c_x + sat (a_x * -1))) (sat (c_y + sat (a_y * -1))) (sat (c_z + sat (a_z * -1))) r_d_x r_d_y r_d_z < 0)) (Tr.leaf (AV.tuple [AV.agg [AV.int IntKind.i64 false 0, AV.int IntKind.i64 false 0], AV.bool false false])) (Tr.node (decide (volN (sat (b_x + sat (a_x * -1))) (sat (b_y + sat (a_y * -1))) (sat (b_z + sat (a_z * -1))) (sat (r_o_x + sat (a_x * -1))) (sat (r_o_y + sat (a_y * -1))) (sat (r_o_z + sat (a_z * -1))) r_d_x r_d_y r_d_z < 0)) (Tr.leaf (AV.tuple [AV.agg [AV.int IntKind.i64 false 0, AV.int IntKind.i64 false 0], AV.bool false false])) (Tr.node (decide (volN (sat (r_o_x + sat (a_x * -1))) (sat (r_o_y + sat (a_y * -1))) (sat (r_o_z + sat (a_z * -1))) (sat (c_x + sat (a_x * -1))) (sat (c_y + sat (a_y * -1))) (sat (c_z + sat (a_z * -1))) r_d_x r_d_y r_d_z > IntKind.i64.wrap (volN (sat (b_x + sat (a_x * -1))) (sat (b_y + sat (a_y * -1))) (sat (b_z + sat (a_z * -1))) (sat (c_x + sat (a_x * -1))) (sat (c_y + sat (a_y * -1))) (sat (c_z + sat (a_z * -1))) r_d_x r_d_y r_d_z - volN (sat (b_x + sat (a_x * -1))) (sat (b_y + sat (a_y * -1))) (sat (b_z + sat (a_z * -1))) (sat (r_o_x + sat (a_x * -1))) (sat (r_o_y + sat (a_y * -1))) (sat (r_o_z + sat (a_z * -1))) r_d_x r_d_y r_d_z))) (Tr.leaf (AV.tuple [AV.agg [AV.int IntKind.i64 false 0, AV.int IntKind.i64 false 0], AV.bool false false])) (Tr.node (decide (IntKind.i64.wrap (0 - volN (sat (b_x + sat (a_x * -1))) (sat (b_y + sat (a_y * -1))) (sat (b_z + sat (a_z * -1))) (sat (c_x + sat (a_x * -1))) (sat (c_y + sat (a_y * -1))) (sat (c_z + sat (a_z * -1))) (sat (r_o_x + sat (a_x * -1))) (sat (r_o_y + sat (a_y * -1))) (sat (r_o_z + sat (a_z * -1)))) ≤ 0)) (Tr.leaf (AV.tuple [AV.agg [AV.int IntKind.i64 false 0, AV.int IntKind.i64 false 0], AV.bool false false])) (Tr.leaf (AV.tuple [AV.agg [AV.int IntKind.i64 false (c_tri_Hit_2 a_x a_y a_z b_x b_y b_z c_x c_y c_z r_o_x r_o_y r_o_z), AV.int IntKind.i64 false (volN (sat (b_x + sat (a_x * -1))) (sat (b_y + sat (a_y * -1))) (sat (b_z + sat (a_z * -1))) (sat (c_x + sat (a_x * -1))) (sat (c_y + sat (a_y * -1))) (sat (c_z + sat (a_z * -1))) r_d_x r_d_y r_d_z)], AV.bool false true]))))))))))))))
theorem run_tri_Hit (a_x : Int) (a_y : Int) (a_z : Int) (b_x : Int) (b_y : Int) (b_z : Int) (c_x : Int) (c_y : Int) (c_z : Int) (r_o_x : Int) (r_o_y : Int) (r_o_z : Int) (r_d_x : Int) (r_d_y : Int) (r_d_z : Int) (r_f : Int) (h_a_x : InR .i64 a_x) (h_a_y : InR .i64 a_y) (h_a_z : InR .i64 a_z) (h_b_x : InR .i64 b_x) (h_b_y : InR .i64 b_y) (h_b_z : InR .i64 b_z) (h_c_x : InR .i64 c_x) (h_c_y : InR .i64 c_y) (h_c_z : InR .i64 c_z) (h_r_o_x : InR .i64 r_o_x) (h_r_o_y : InR .i64 r_o_y) (h_r_o_z : InR .i64 r_o_z) (h_r_d_x : InR .i64 r_d_x) (h_r_d_y : InR .i64 r_d_y) (h_r_d_z : InR .i64 r_d_z) (h_r_f : InR .i64 r_f) : (tr_tri_Hit a_x a_y a_z b_x b_y b_z c_x c_y c_z r_o_x r_o_y r_o_z r_d_x r_d_y r_d_z r_f).run = some (.tuple [frA (tNum a_x a_y a_z b_x b_y b_z c_x c_y c_z r_o_x r_o_y r_o_z r_d_x r_d_y r_d_z) (tDen a_x a_y a_z b_x b_y b_z c_x c_y c_z r_o_x r_o_y r_o_z r_d_x r_d_y r_d_z), bb (tOk a_x a_y a_z b_x b_y b_z c_x c_y c_z r_o_x r_o_y r_o_z r_d_x r_d_y r_d_z)]) := by
  unfold tr_tri_Hit
  by_cases hm : tMay a_x a_y a_z b_x b_y b_z c_x c_y c_z r_o_x r_o_y r_o_z r_d_x r_d_y r_d_z = true
  rotate_left
  · have ok : tOk a_x a_y a_z b_x b_y b_z c_x c_y c_z r_o_x r_o_y r_o_z r_d_x r_d_y r_d_z = false := by unfold tOk; rw [Bool.not_eq_true] at hm; rw [hm]; rfl
    unfold tNum tDen
    rw [ok]
    cases h1 : placeB a_x a_y a_z
    · rfl
    cases h2 : placeB b_x b_y b_z
    · rfl
    cases h3 : placeB c_x c_y c_z
    · rfl
    cases h4 : placeB r_o_x r_o_y r_o_z
    · rfl
    cases h5 : nearB r_d_x r_d_y r_d_z
    · rfl
    exact absurd (by unfold tMay placesB; rw [h1, h2, h3, h4, h5]; rfl) hm
  obtain ⟨⟨ha, hb, hc⟩, ho, hd⟩ := tMay_r hm
  obtain ⟨⟨e1, e2, e3⟩, ne⟩ := way3 ha hb
  obtain ⟨⟨f1, f2, f3⟩, nf⟩ := way3 ha hc
  obtain ⟨⟨s1, s2, s3⟩, ns⟩ := way3 ha ho
  obtain ⟨⟨p1, p2, p3⟩, np⟩ := way3 ho ha
  obtain ⟨⟨q1, q2, q3⟩, nq⟩ := way3 ho hb
  obtain ⟨⟨t1, t2, t3⟩, nt⟩ := way3 ho hc
  obtain ⟨⟨v1, v2, v3_, v4⟩, ⟨w1, w2, w3, w4⟩, x1, x2, x3, x4, x5⟩ := tri_facts hm
  simp only [c_tri_Hit_1, c_tri_Hit_2, c_tri_Hit_3, e1, e2, e3, f1, f2, f3, s1, s2, s3, p1, p2, p3, q1, q2, q3, t1, t2, t3, v1, v2, v3_, v4, w1, w2, w3, w4, ha, hb, hc, ho, hd]
  have ok : tOk a_x a_y a_z b_x b_y b_z c_x c_y c_z r_o_x r_o_y r_o_z r_d_x r_d_y r_d_z = decide (oneSign (tX a_x a_y a_z b_x b_y b_z c_x c_y c_z r_o_x r_o_y r_o_z r_d_x r_d_y r_d_z) (tY a_x a_y a_z b_x b_y b_z c_x c_y c_z r_o_x r_o_y r_o_z r_d_x r_d_y r_d_z) (tZ a_x a_y a_z b_x b_y b_z c_x c_y c_z r_o_x r_o_y r_o_z r_d_x r_d_y r_d_z) (tN a_x a_y a_z b_x b_y b_z c_x c_y c_z r_o_x r_o_y r_o_z)) := by unfold tOk; rw [hm]; rfl
  unfold tNum tDen
  rw [ok]
  clear ok
  generalize tX a_x a_y a_z b_x b_y b_z c_x c_y c_z r_o_x r_o_y r_o_z r_d_x r_d_y r_d_z = X at *
  generalize tY a_x a_y a_z b_x b_y b_z c_x c_y c_z r_o_x r_o_y r_o_z r_d_x r_d_y r_d_z = Y at *
  generalize tZ a_x a_y a_z b_x b_y b_z c_x c_y c_z r_o_x r_o_y r_o_z r_d_x r_d_y r_d_z = Z at *
  generalize tN a_x a_y a_z b_x b_y b_z c_x c_y c_z r_o_x r_o_y r_o_z = N at *
  
  have y1 : IntKind.i64.wrap (0 - -N) = N := by rw [wrap_i64_id (by omega)]; omega
  have y2 : IntKind.i64.wrap (0 - N) = -N := by rw [wrap_i64_id (by omega)]; omega
  have y3 : IntKind.i64.wrap (0 - Y) = -Y := by rw [wrap_i64_id (by omega)]; omega
  have y4 : IntKind.i64.wrap (0 - Z) = -Z := by rw [wrap_i64_id (by omega)]; omega
  have y5 : IntKind.i64.wrap (0 - (X + Y + Z)) = -(X + Y + Z) := by rw [wrap_i64_id (by omega)]; omega
  simp only [y1, y2, y3, y4, y5]
  by_cases C1 : 0 ≤ X ∧ 0 ≤ Y ∧ 0 ≤ Z ∧ 0 < X + Y + Z ∧ 0 < N
  · rw [decide_eq_true (show oneSign X Y Z N from .inl C1), if_pos rfl, if_pos rfl, show sz N = N by unfold sz; omega, show sz (X + Y + Z) = X + Y + Z by unfold sz; omega]
    have y6 : IntKind.i64.wrap (X + Y + Z - Z) = X + Y := by rw [wrap_i64_id (by omega)]; omega
    simp only [y6]
    repeat (first | refine (run_t (by first | rfl | (simp only [decide_eq_true_eq, decide_eq_false_iff_not, Bool.not_eq_true', Bool.not_eq_false', beq_iff_eq, beq_eq_false_iff_ne, mm2_lt, mm2_gt, min_r, ne_eq]; omega))).trans ?_ | refine (run_f (by first | rfl | (simp only [decide_eq_true_eq, decide_eq_false_iff_not, Bool.not_eq_true', Bool.not_eq_false', beq_iff_eq, beq_eq_false_iff_ne, mm2_lt, mm2_gt, min_r, ne_eq]; omega))).trans ?_)
    rfl
  by_cases C2 : X ≤ 0 ∧ Y ≤ 0 ∧ Z ≤ 0 ∧ X + Y + Z < 0 ∧ N < 0
  · rw [decide_eq_true (show oneSign X Y Z N from .inr C2), if_pos rfl, if_pos rfl, show sz N = -N by unfold sz; omega, show sz (X + Y + Z) = -(X + Y + Z) by unfold sz; omega]
    have y6 : IntKind.i64.wrap (-(X + Y + Z) - -Z) = -X - Y := by rw [wrap_i64_id (by omega)]; omega
    simp only [y6]
    repeat (first | refine (run_t (by first | rfl | (simp only [decide_eq_true_eq, decide_eq_false_iff_not, Bool.not_eq_true', Bool.not_eq_false', beq_iff_eq, beq_eq_false_iff_ne, mm2_lt, mm2_gt, min_r, ne_eq]; omega))).trans ?_ | refine (run_f (by first | rfl | (simp only [decide_eq_true_eq, decide_eq_false_iff_not, Bool.not_eq_true', Bool.not_eq_false', beq_iff_eq, beq_eq_false_iff_ne, mm2_lt, mm2_gt, min_r, ne_eq]; omega))).trans ?_)
    rfl
  · rw [decide_eq_false (show ¬ oneSign X Y Z N from fun h => h.elim C1 C2), if_neg (by decide), if_neg (by decide)]
    by_cases hs : X + Y + Z < 0
    · by_cases hy : Y ≤ 0 ∧ Z ≤ 0
      · have y6 : IntKind.i64.wrap (-(X + Y + Z) - -Z) = -X - Y := by rw [wrap_i64_id (by omega)]; omega
        simp only [y6]
        (repeat' (first | rfl | (refine run_guard (fun _ => ?_) (fun _ => ?_)))) <;> (exfalso; simp only [Bool.not_true, Bool.false_eq_true, decide_eq_true_eq, decide_eq_false_iff_not, beq_iff_eq, beq_eq_false_iff_ne, min_r, ne_eq] at *; omega)
      · (repeat' (first | rfl | (refine run_guard (fun _ => ?_) (fun _ => ?_)))) <;> (exfalso; simp only [Bool.not_true, Bool.false_eq_true, decide_eq_true_eq, decide_eq_false_iff_not, beq_iff_eq, beq_eq_false_iff_ne, min_r, ne_eq] at *; omega)
    · by_cases hy : 0 ≤ Y ∧ 0 ≤ Z
      · have y6 : IntKind.i64.wrap (X + Y + Z - Z) = X + Y := by rw [wrap_i64_id (by omega)]; omega
        simp only [y6]
        (repeat' (first | rfl | (refine run_guard (fun _ => ?_) (fun _ => ?_)))) <;> (exfalso; simp only [Bool.not_true, Bool.false_eq_true, decide_eq_true_eq, decide_eq_false_iff_not, beq_iff_eq, beq_eq_false_iff_ne, min_r, ne_eq] at *; omega)
      · (repeat' (first | rfl | (refine run_guard (fun _ => ?_) (fun _ => ?_)))) <;> (exfalso; simp only [Bool.not_true, Bool.false_eq_true, decide_eq_true_eq, decide_eq_false_iff_not, beq_iff_eq, beq_eq_false_iff_ne, min_r, ne_eq] at *; omega)

/-! skylightref11.Hit -/
def c_skylightref11_Hit_1 (a_x : Int) (a_y : Int) (a_z : Int) (b_x : Int) (b_y : Int) (b_z : Int) (c_x : Int) (c_y : Int) (c_z : Int) (r_o_x : Int) (r_o_y : Int) (r_o_z : Int) (r_d_x : Int) (r_d_y : Int) (r_d_z : Int) : Int := IntKind.i64.wrap (IntKind.i64.wrap (volN r_d_x r_d_y r_d_z (sat (b_x + sat (r_o_x * -1))) (sat (b_y + sat (r_o_y * -1))) (sat (b_z + sat (r_o_z * -1))) (sat (c_x + sat (r_o_x * -1))) (sat (c_y + sat (r_o_y * -1))) (sat (c_z + sat (r_o_z * -1))) + volN r_d_x r_d_y r_d_z (sat (c_x + sat (r_o_x * -1))) (sat (c_y + sat (r_o_y * -1))) (sat (c_z + sat (r_o_z * -1))) (sat (a_x + sat (r_o_x * -1))) (sat (a_y + sat (r_o_y * -1))) (sat (a_z + sat (r_o_z * -1)))) + volN r_d_x r_d_y r_d_z (sat (a_x + sat (r_o_x * -1))) (sat (a_y + sat (r_o_y * -1))) (sat (a_z + sat (r_o_z * -1))) (sat (b_x + sat (r_o_x * -1))) (sat (b_y + sat (r_o_y * -1))) (sat (b_z + sat (r_o_z * -1))))
def tr_skylightref11_Hit (a_x : Int) (a_y : Int) (a_z : Int) (b_x : Int) (b_y : Int) (b_z : Int) (c_x : Int) (c_y : Int) (c_z : Int) (r_o_x : Int) (r_o_y : Int) (r_o_z : Int) (r_d_x : Int) (r_d_y : Int) (r_d_z : Int) (r_f : Int) : Tr AV := Tr.node (placeB a_x a_y a_z) (Tr.node (placeB b_x b_y b_z) (Tr.node (!placeB c_x c_y c_z) (Tr.leaf (AV.tuple [AV.agg [AV.int IntKind.i64 false 0, AV.int IntKind.i64 false 0], AV.bool false false])) (Tr.node (!placeB r_o_x r_o_y r_o_z) (Tr.leaf (AV.tuple [AV.agg [AV.int IntKind.i64 false 0, AV.int IntKind.i64 false 0], AV.bool false false])) (Tr.node (!nearB r_d_x r_d_y r_d_z) (Tr.leaf (AV.tuple [AV.agg [AV.int IntKind.i64 false 0, AV.int IntKind.i64 false 0], AV.bool false false])) (Tr.node (decide (volN r_d_x r_d_y r_d_z (sat (b_x + sat (r_o_x * -1))) (sat (b_y + sat (r_o_y * -1))) (sat (b_z + sat (r_o_z * -1))) (sat (c_x + sat (r_o_x * -1))) (sat (c_y + sat (r_o_y * -1))) (sat (c_z + sat (r_o_z * -1))) ≤ 0)) (Tr.node (decide (volN r_d_x r_d_y r_d_z (sat (c_x + sat (r_o_x * -1))) (sat (c_y + sat (r_o_y * -1))) (sat (c_z + sat (r_o_z * -1))) (sat (a_x + sat (r_o_x * -1))) (sat (a_y + sat (r_o_y * -1))) (sat (a_z + sat (r_o_z * -1))) ≤ 0)) (Tr.node (decide (volN r_d_x r_d_y r_d_z (sat (a_x + sat (r_o_x * -1))) (sat (a_y + sat (r_o_y * -1))) (sat (a_z + sat (r_o_z * -1))) (sat (b_x + sat (r_o_x * -1))) (sat (b_y + sat (r_o_y * -1))) (sat (b_z + sat (r_o_z * -1))) ≤ 0)) (Tr.node (decide (IntKind.i64.wrap (0 - volN r_d_x r_d_y r_d_z (sat (b_x + sat (r_o_x * -1))) (sat (b_y + sat (r_o_y * -1))) (sat (b_z + sat (r_o_z * -1))) (sat (c_x + sat (r_o_x * -1))) (sat (c_y + sat (r_o_y * -1))) (sat (c_z + sat (r_o_z * -1)))) < 0)) (Tr.leaf (AV.tuple [AV.agg [AV.int IntKind.i64 false 0, AV.int IntKind.i64 false 0], AV.bool false false])) (Tr.node (decide (IntKind.i64.wrap (0 - volN r_d_x r_d_y r_d_z (sat (c_x + sat (r_o_x * -1))) (sat (c_y + sat (r_o_y * -1))) (sat (c_z + sat (r_o_z * -1))) (sat (a_x + sat (r_o_x * -1))) (sat (a_y + sat (r_o_y * -1))) (sat (a_z + sat (r_o_z * -1)))) < 0)) (Tr.leaf (AV.tuple [AV.agg [AV.int IntKind.i64 false 0, AV.int IntKind.i64 false 0], AV.bool false false])) (Tr.node (decide (IntKind.i64.wrap (0 - volN r_d_x r_d_y r_d_z (sat (a_x + sat (r_o_x * -1))) (sat (a_y + sat (r_o_y * -1))) (sat (a_z + sat (r_o_z * -1))) (sat (b_x + sat (r_o_x * -1))) (sat (b_y + sat (r_o_y * -1))) (sat (b_z + sat (r_o_z * -1)))) < 0)) (Tr.leaf (AV.tuple [AV.agg [AV.int IntKind.i64 false 0, AV.int IntKind.i64 false 0], AV.bool false false])) (Tr.node (IntKind.i64.wrap (IntKind.i64.wrap (IntKind.i64.wrap (0 - volN r_d_x r_d_y r_d_z (sat (b_x + sat (r_o_x * -1))) (sat (b_y + sat (r_o_y * -1))) (sat (b_z + sat (r_o_z * -1))) (sat (c_x + sat (r_o_x * -1))) (sat (c_y + sat (r_o_y * -1))) (sat (c_z + sat (r_o_z * -1)))) + IntKind.i64.wrap (0 - volN r_d_x r_d_y r_d_z (sat (c_x + sat (r_o_x * -1))) (sat (c_y + sat (r_o_y * -1))) (sat (c_z + sat (r_o_z * -1))) (sat (a_x + sat (r_o_x * -1))) (sat (a_y + sat (r_o_y * -1))) (sat (a_z + sat (r_o_z * -1))))) + IntKind.i64.wrap (0 - volN r_d_x r_d_y r_d_z (sat (a_x + sat (r_o_x * -1))) (sat (a_y + sat (r_o_y * -1))) (sat (a_z + sat (r_o_z * -1))) (sat (b_x + sat (r_o_x * -1))) (sat (b_y + sat (r_o_y * -1))) (sat (b_z + sat (r_o_z * -1))))) == 0) (Tr.leaf (AV.tuple [AV.agg [AV.int IntKind.i64 false 0, AV.int IntKind.i64 false 0], AV.bool false false])) (Tr.node (decide (IntKind.i64.wrap (0 - volN (sat (a_x + sat (r_o_x * -1))) (sat (a_y + sat (r_o_y * -1))) (sat (a_z + sat (r_o_z * -1))) (sat (b_x + sat (r_o_x * -1))) (sat (b_y + sat (r_o_y * -1))) (sat (b_z + sat (r_o_z * -1))) (sat (c_x + sat (r_o_x * -1))) (sat (c_y + sat (r_o_y * -1))) (sat (c_z + sat (r_o_z * -1)))) ≤ 0)) (Tr.leaf (AV.tuple [AV.agg [AV.int IntKind.i64 false 0, AV.int IntKind.i64 false 0], AV.bool false false])) (Tr.leaf (AV.tuple [AV.agg [AV.int IntKind.i64 false (IntKind.i64.wrap (0 - volN (sat (a_x + sat (r_o_x * -1))) (sat (a_y + sat (r_o_y * -1))) (sat (a_z + sat (r_o_z * -1))) (sat (b_x + sat (r_o_x * -1))) (sat (b_y + sat (r_o_y * -1))) (sat (b_z + sat (r_o_z * -1))) (sat (c_x + sat (r_o_x * -1))) (sat (c_y + sat (r_o_y * -1))) (sat (c_z + sat (r_o_z * -1))))), AV.int IntKind.i64 false (IntKind.i64.wrap (IntKind.i64.wrap (IntKind.i64.wrap (0 - volN r_d_x r_d_y r_d_z (sat (b_x + sat (r_o_x * -1))) (sat (b_y + sat (r_o_y * -1))) (sat (b_z + sat (r_o_z * -1))) (sat (c_x + sat (r_o_x * -1))) (sat (c_y + sat (r_o_y * -1))) (sat (c_z + sat (r_o_z * -1)))) + IntKind.i64.wrap (0 - volN r_d_x r_d_y r_d_z (sat (c_x + sat (r_o_x * -1))) (sat (c_y + sat (r_o_y * -1))) (sat (c_z + sat (r_o_z * -1))) (sat (a_x + sat (r_o_x * -1))) (sat (a_y + sat (r_o_y * -1))) (sat (a_z + sat (r_o_z * -1))))) + IntKind.i64.wrap (0 - volN r_d_x r_d_y r_d_z (sat (a_x + sat (r_o_x * -1))) (sat (a_y + sat (r_o_y * -1))) (sat (a_z + sat (r_o_z * -1))) (sat (b_x + sat (r_o_x * -1))) (sat (b_y + sat (r_o_y * -1))) (sat (b_z + sat (r_o_z * -1))))))], AV.bool false true]))))))) (Tr.node (decide (volN r_d_x r_d_y r_d_z (sat (b_x + sat (r_o_x * -1))) (sat (b_y + sat (r_o_y * -1))) (sat (b_z + sat (r_o_z * -1))) (sat (c_x + sat (r_o_x * -1))) (sat (c_y + sat (r_o_y * -1))) (sat (c_z + sat (r_o_z * -1))) < 0)) (Tr.leaf (AV.tuple [AV.agg [AV.int IntKind.i64 false 0, AV.int IntKind.i64 false 0], AV.bool false false])) (Tr.node (decide (volN r_d_x r_d_y r_d_z (sat (c_x + sat (r_o_x * -1))) (sat (c_y + sat (r_o_y * -1))) (sat (c_z + sat (r_o_z * -1))) (sat (a_x + sat (r_o_x * -1))) (sat (a_y + sat (r_o_y * -1))) (sat (a_z + sat (r_o_z * -1))) < 0)) (Tr.leaf (AV.tuple [AV.agg [AV.int IntKind.i64 false 0, AV.int IntKind.i64 false 0], AV.bool false false])) (Tr.node (decide (volN r_d_x r_d_y r_d_z (sat (a_x + sat (r_o_x * -1))) (sat (a_y + sat (r_o_y * -1))) (sat (a_z + sat (r_o_z * -1))) (sat (b_x + sat (r_o_x * -1))) (sat (b_y + sat (r_o_y * -1))) (sat (b_z + sat (r_o_z * -1))) < 0)) (Tr.leaf (AV.tuple [AV.agg [AV.int IntKind.i64 false 0, AV.int IntKind.i64 false 0], AV.bool false false])) (Tr.node (IntKind.i64.wrap (IntKind.i64.wrap (volN r_d_x r_d_y r_d_z (sat (b_x + sat (r_o_x * -1))) (sat (b_y + sat (r_o_y * -1))) (sat (b_z + sat (r_o_z * -1))) (sat (c_x + sat (r_o_x * -1))) (sat (c_y + sat (r_o_y * -1))) (sat (c_z + sat (r_o_z * -1))) + volN r_d_x r_d_y r_d_z (sat (c_x + sat (r_o_x * -1))) (sat (c_y + sat (r_o_y * -1))) (sat (c_z + sat (r_o_z * -1))) (sat (a_x + sat (r_o_x * -1))) (sat (a_y + sat (r_o_y * -1))) (sat (a_z + sat (r_o_z * -1)))) + volN r_d_x r_d_y r_d_z (sat (a_x + sat (r_o_x * -1))) (sat (a_y + sat (r_o_y * -1))) (sat (a_z + sat (r_o_z * -1))) (sat (b_x + sat (r_o_x * -1))) (sat (b_y + sat (r_o_y * -1))) (sat (b_z + sat (r_o_z * -1)))) == 0) (Tr.leaf (AV.tuple [AV.agg [AV.int IntKind.i64 false 0, AV.int IntKind.i64 false 0], AV.bool false false])) (Tr.node (decide (volN (sat (a_x + sat (r_o_x * -1))) (sat (a_y + sat (r_o_y * -1))) (sat (a_z + sat (r_o_z * -1))) (sat (b_x + sat (r_o_x * -1))) (sat (b_y + sat (r_o_y * -1))) (sat (b_z + sat (r_o_z * -1))) (sat (c_x + sat (r_o_x * -1))) (sat (c_y + sat (r_o_y * -1))) (sat (c_z + sat (r_o_z * -1))) ≤ 0)) (Tr.leaf (AV.tuple [AV.agg [AV.int IntKind.i64 false 0, AV.int IntKind.i64 false 0], AV.bool false false])) (Tr.leaf (AV.tuple [AV.agg [AV.int IntKind.i64 false (volN (sat (a_x + sat (r_o_x * -1))) (sat (a_y + sat (r_o_y * -1))) (sat (a_z + sat (r_o_z * -1))) (sat (b_x + sat (r_o_x * -1))) (sat (b_y + sat (r_o_y * -1))) (sat (b_z + sat (r_o_z * -1))) (sat (c_x + sat (r_o_x * -1))) (sat (c_y + sat (r_o_y * -1))) (sat (c_z + sat (r_o_z * -1)))), AV.int IntKind.i64 false (c_skylightref11_Hit_1 a_x a_y a_z b_x b_y b_z c_x c_y c_z r_o_x r_o_y r_o_z r_d_x r_d_y r_d_z)], AV.bool false true])))))))) (Tr.node (decide (volN r_d_x r_d_y r_d_z (sat (b_x + sat (r_o_x * -1))) (sat (b_y + sat (r_o_y * -1))) (sat (b_z + sat (r_o_z * -1))) (sat (c_x + sat (r_o_x * -1))) (sat (c_y + sat (r_o_y * -1))) (sat (c_z + sat (r_o_z * -1))) < 0)) (Tr.leaf (AV.tuple [AV.agg [AV.int IntKind.i64 false 0, AV.int IntKind.i64 false 0], AV.bool false false])) (Tr.node (decide (volN r_d_x r_d_y r_d_z (sat (c_x + sat (r_o_x * -1))) (sat (c_y + sat (r_o_y * -1))) (sat (c_z + sat (r_o_z * -1))) (sat (a_x + sat (r_o_x * -1))) (sat (a_y + sat (r_o_y * -1))) (sat (a_z + sat (r_o_z * -1))) < 0)) (Tr.leaf (AV.tuple [AV.agg [AV.int IntKind.i64 false 0, AV.int IntKind.i64 false 0], AV.bool false false])) (Tr.node (decide (volN r_d_x r_d_y r_d_z (sat (a_x + sat (r_o_x * -1))) (sat (a_y + sat (r_o_y * -1))) (sat (a_z + sat (r_o_z * -1))) (sat (b_x + sat (r_o_x * -1))) (sat (b_y + sat (r_o_y * -1))) (sat (b_z + sat (r_o_z * -1))) < 0)) (Tr.leaf (AV.tuple [AV.agg [AV.int IntKind.i64 false 0, AV.int IntKind.i64 false 0], AV.bool false false])) (Tr.node (IntKind.i64.wrap (IntKind.i64.wrap (volN r_d_x r_d_y r_d_z (sat (b_x + sat (r_o_x * -1))) (sat (b_y + sat (r_o_y * -1))) (sat (b_z + sat (r_o_z * -1))) (sat (c_x + sat (r_o_x * -1))) (sat (c_y + sat (r_o_y * -1))) (sat (c_z + sat (r_o_z * -1))) + volN r_d_x r_d_y r_d_z (sat (c_x + sat (r_o_x * -1))) (sat (c_y + sat (r_o_y * -1))) (sat (c_z + sat (r_o_z * -1))) (sat (a_x + sat (r_o_x * -1))) (sat (a_y + sat (r_o_y * -1))) (sat (a_z + sat (r_o_z * -1)))) + volN r_d_x r_d_y r_d_z (sat (a_x + sat (r_o_x * -1))) (sat (a_y + sat (r_o_y * -1))) (sat (a_z + sat (r_o_z * -1))) (sat (b_x + sat (r_o_x * -1))) (sat (b_y + sat (r_o_y * -1))) (sat (b_z + sat (r_o_z * -1)))) == 0) (Tr.leaf (AV.tuple [AV.agg [AV.int IntKind.i64 false 0, AV.int IntKind.i64 false 0], AV.bool false false])) (Tr.node (decide (volN (sat (a_x + sat (r_o_x * -1))) (sat (a_y + sat (r_o_y * -1))) (sat (a_z + sat (r_o_z * -1))) (sat (b_x + sat (r_o_x * -1))) (sat (b_y + sat (r_o_y * -1))) (sat (b_z + sat (r_o_z * -1))) (sat (c_x + sat (r_o_x * -1))) (sat (c_y + sat (r_o_y * -1))) (sat (c_z + sat (r_o_z * -1))) ≤ 0)) (Tr.leaf (AV.tuple [AV.agg [AV.int IntKind.i64 false 0, AV.int IntKind.i64 false 0], AV.bool false false])) (Tr.leaf (AV.tuple [AV.agg [AV.int IntKind.i64 false (volN (sat (a_x + sat (r_o_x * -1))) (sat (a_y + sat (r_o_y * -1))) (sat (a_z + sat (r_o_z * -1))) (sat (b_x + sat (r_o_x * -1))) (sat (b_y + sat (r_o_y * -1))) (sat (b_z + sat (r_o_z * -1))) (sat (c_x + sat (r_o_x * -1))) (sat (c_y + sat (r_o_y * -1))) (sat (c_z + sat (r_o_z * -1)))), AV.int IntKind.i64 false (c_skylightref11_Hit_1 a_x a_y a_z b_x b_y b_z c_x c_y c_z r_o_x r_o_y r_o_z r_d_x r_d_y r_d_z)], AV.bool false true])))))))) (Tr.node (decide (volN r_d_x r_d_y r_d_z (sat (b_x + sat (r_o_x * -1))) (sat (b_y + sat (r_o_y * -1))) (sat (b_z + sat (r_o_z * -1))) (sat (c_x + sat (r_o_x * -1))) (sat (c_y + sat (r_o_y * -1))) (sat (c_z + sat (r_o_z * -1))) < 0)) (Tr.leaf (AV.tuple [AV.agg [AV.int IntKind.i64 false 0, AV.int IntKind.i64 false 0], AV.bool false false])) (Tr.node (decide (volN r_d_x r_d_y r_d_z (sat (c_x + sat (r_o_x * -1))) (sat (c_y + sat (r_o_y * -1))) (sat (c_z + sat (r_o_z * -1))) (sat (a_x + sat (r_o_x * -1))) (sat (a_y + sat (r_o_y * -1))) (sat (a_z + sat (r_o_z * -1))) < 0)) (Tr.leaf (AV.tuple [AV.agg [AV.int IntKind.i64 false 0, AV.int IntKind.i64 false 0], AV.bool false false])) (Tr.node (decide (volN r_d_x r_d_y r_d_z (sat (a_x + sat (r_o_x * -1))) (sat (a_y + sat (r_o_y * -1))) (sat (a_z + sat (r_o_z * -1))) (sat (b_x + sat (r_o_x * -1))) (sat (b_y + sat (r_o_y * -1))) (sat (b_z + sat (r_o_z * -1))) < 0)) (Tr.leaf (AV.tuple [AV.agg [AV.int IntKind.i64 false 0, AV.int IntKind.i64 false 0], AV.bool false false])) (Tr.node (IntKind.i64.wrap (IntKind.i64.wrap (volN r_d_x r_d_y r_d_z (sat (b_x + sat (r_o_x * -1))) (sat (b_y + sat (r_o_y * -1))) (sat (b_z + sat (r_o_z * -1))) (sat (c_x + sat (r_o_x * -1))) (sat (c_y + sat (r_o_y * -1))) (sat (c_z + sat (r_o_z * -1))) + volN r_d_x r_d_y r_d_z (sat (c_x + sat (r_o_x * -1))) (sat (c_y + sat (r_o_y * -1))) (sat (c_z + sat (r_o_z * -1))) (sat (a_x + sat (r_o_x * -1))) (sat (a_y + sat (r_o_y * -1))) (sat (a_z + sat (r_o_z * -1)))) + volN r_d_x r_d_y r_d_z (sat (a_x + sat (r_o_x * -1))) (sat (a_y + sat (r_o_y * -1))) (sat (a_z + sat (r_o_z * -1))) (sat (b_x + sat (r_o_x * -1))) (sat (b_y + sat (r_o_y * -1))) (sat (b_z + sat (r_o_z * -1)))) == 0) (Tr.leaf (AV.tuple [AV.agg [AV.int IntKind.i64 false 0, AV.int IntKind.i64 false 0], AV.bool false false])) (Tr.node (decide (volN (sat (a_x + sat (r_o_x * -1))) (sat (a_y + sat (r_o_y * -1))) (sat (a_z + sat (r_o_z * -1))) (sat (b_x + sat (r_o_x * -1))) (sat (b_y + sat (r_o_y * -1))) (sat (b_z + sat (r_o_z * -1))) (sat (c_x + sat (r_o_x * -1))) (sat (c_y + sat (r_o_y * -1))) (sat (c_z + sat (r_o_z * -1))) ≤ 0)) (Tr.leaf (AV.tuple [AV.agg [AV.int IntKind.i64 false 0, AV.int IntKind.i64 false 0], AV.bool false false])) (Tr.leaf (AV.tuple [AV.agg [AV.int IntKind.i64 false (volN (sat (a_x + sat (r_o_x * -1))) (sat (a_y + sat (r_o_y * -1))) (sat (a_z + sat (r_o_z * -1))) (sat (b_x + sat (r_o_x * -1))) (sat (b_y + sat (r_o_y * -1))) (sat (b_z + sat (r_o_z * -1))) (sat (c_x + sat (r_o_x * -1))) (sat (c_y + sat (r_o_y * -1))) (sat (c_z + sat (r_o_z * -1)))), AV.int IntKind.i64 false (c_skylightref11_Hit_1 a_x a_y a_z b_x b_y b_z c_x c_y c_z r_o_x r_o_y r_o_z r_d_x r_d_y r_d_z)], AV.bool false true]))))))))))) (Tr.leaf (AV.tuple [AV.agg [AV.int IntKind.i64 false 0, AV.int IntKind.i64 false 0], AV.bool false false]))) (Tr.leaf (AV.tuple [AV.agg [AV.int IntKind.i64 false 0, AV.int IntKind.i64 false 0], AV.bool false false]))
set_option maxHeartbeats 2000000 in
theorem run_skylightref11_Hit (a_x : Int) (a_y : Int) (a_z : Int) (b_x : Int) (b_y : Int) (b_z : Int) (c_x : Int) (c_y : Int) (c_z : Int) (r_o_x : Int) (r_o_y : Int) (r_o_z : Int) (r_d_x : Int) (r_d_y : Int) (r_d_z : Int) (r_f : Int) (h_a_x : InR .i64 a_x) (h_a_y : InR .i64 a_y) (h_a_z : InR .i64 a_z) (h_b_x : InR .i64 b_x) (h_b_y : InR .i64 b_y) (h_b_z : InR .i64 b_z) (h_c_x : InR .i64 c_x) (h_c_y : InR .i64 c_y) (h_c_z : InR .i64 c_z) (h_r_o_x : InR .i64 r_o_x) (h_r_o_y : InR .i64 r_o_y) (h_r_o_z : InR .i64 r_o_z) (h_r_d_x : InR .i64 r_d_x) (h_r_d_y : InR .i64 r_d_y) (h_r_d_z : InR .i64 r_d_z) (h_r_f : InR .i64 r_f) : (tr_skylightref11_Hit a_x a_y a_z b_x b_y b_z c_x c_y c_z r_o_x r_o_y r_o_z r_d_x r_d_y r_d_z r_f).run = some (.tuple [frA (tNum a_x a_y a_z b_x b_y b_z c_x c_y c_z r_o_x r_o_y r_o_z r_d_x r_d_y r_d_z) (tDen a_x a_y a_z b_x b_y b_z c_x c_y c_z r_o_x r_o_y r_o_z r_d_x r_d_y r_d_z), bb (tOk a_x a_y a_z b_x b_y b_z c_x c_y c_z r_o_x r_o_y r_o_z r_d_x r_d_y r_d_z)]) := by
  unfold tr_skylightref11_Hit
  by_cases hm : tMay a_x a_y a_z b_x b_y b_z c_x c_y c_z r_o_x r_o_y r_o_z r_d_x r_d_y r_d_z = true
  rotate_left
  · have ok : tOk a_x a_y a_z b_x b_y b_z c_x c_y c_z r_o_x r_o_y r_o_z r_d_x r_d_y r_d_z = false := by unfold tOk; rw [Bool.not_eq_true] at hm; rw [hm]; rfl
    unfold tNum tDen
    rw [ok]
    cases h1 : placeB a_x a_y a_z
    · rfl
    cases h2 : placeB b_x b_y b_z
    · rfl
    cases h3 : placeB c_x c_y c_z
    · rfl
    cases h4 : placeB r_o_x r_o_y r_o_z
    · rfl
    cases h5 : nearB r_d_x r_d_y r_d_z
    · rfl
    exact absurd (by unfold tMay placesB; rw [h1, h2, h3, h4, h5]; rfl) hm
  obtain ⟨⟨ha, hb, hc⟩, ho, hd⟩ := tMay_r hm
  obtain ⟨⟨e1, e2, e3⟩, ne⟩ := way3 ha hb
  obtain ⟨⟨f1, f2, f3⟩, nf⟩ := way3 ha hc
  obtain ⟨⟨s1, s2, s3⟩, ns⟩ := way3 ha ho
  obtain ⟨⟨p1, p2, p3⟩, np⟩ := way3 ho ha
  obtain ⟨⟨q1, q2, q3⟩, nq⟩ := way3 ho hb
  obtain ⟨⟨t1, t2, t3⟩, nt⟩ := way3 ho hc
  obtain ⟨⟨v1, v2, v3_, v4⟩, ⟨w1, w2, w3, w4⟩, x1, x2, x3, x4, x5⟩ := tri_facts hm
  simp only [c_skylightref11_Hit_1, e1, e2, e3, f1, f2, f3, s1, s2, s3, p1, p2, p3, q1, q2, q3, t1, t2, t3, v1, v2, v3_, v4, w1, w2, w3, w4, ha, hb, hc, ho, hd]
  have ok : tOk a_x a_y a_z b_x b_y b_z c_x c_y c_z r_o_x r_o_y r_o_z r_d_x r_d_y r_d_z = decide (oneSign (tX a_x a_y a_z b_x b_y b_z c_x c_y c_z r_o_x r_o_y r_o_z r_d_x r_d_y r_d_z) (tY a_x a_y a_z b_x b_y b_z c_x c_y c_z r_o_x r_o_y r_o_z r_d_x r_d_y r_d_z) (tZ a_x a_y a_z b_x b_y b_z c_x c_y c_z r_o_x r_o_y r_o_z r_d_x r_d_y r_d_z) (tN a_x a_y a_z b_x b_y b_z c_x c_y c_z r_o_x r_o_y r_o_z)) := by unfold tOk; rw [hm]; rfl
  unfold tNum tDen
  rw [ok]
  clear ok
  generalize tX a_x a_y a_z b_x b_y b_z c_x c_y c_z r_o_x r_o_y r_o_z r_d_x r_d_y r_d_z = X at *
  generalize tY a_x a_y a_z b_x b_y b_z c_x c_y c_z r_o_x r_o_y r_o_z r_d_x r_d_y r_d_z = Y at *
  generalize tZ a_x a_y a_z b_x b_y b_z c_x c_y c_z r_o_x r_o_y r_o_z r_d_x r_d_y r_d_z = Z at *
  generalize tN a_x a_y a_z b_x b_y b_z c_x c_y c_z r_o_x r_o_y r_o_z = N at *
  
  have y1 : IntKind.i64.wrap (0 - X) = -X := by rw [wrap_i64_id (by omega)]; omega
  have y2 : IntKind.i64.wrap (0 - N) = -N := by rw [wrap_i64_id (by omega)]; omega
  have y3 : IntKind.i64.wrap (0 - Y) = -Y := by rw [wrap_i64_id (by omega)]; omega
  have y4 : IntKind.i64.wrap (0 - Z) = -Z := by rw [wrap_i64_id (by omega)]; omega
  have y5 : IntKind.i64.wrap (IntKind.i64.wrap (X + Y) + Z) = X + Y + Z := by simp only [wrap_i64]; omega
  have y6 : IntKind.i64.wrap (IntKind.i64.wrap (-X + -Y) + -Z) = -(X + Y + Z) := by simp only [wrap_i64]; omega
  simp only [y1, y2, y3, y4, y5, y6]
  by_cases C1 : 0 ≤ X ∧ 0 ≤ Y ∧ 0 ≤ Z ∧ 0 < X + Y + Z ∧ 0 < N
  · rw [decide_eq_true (show oneSign X Y Z N from .inl C1), if_pos rfl, if_pos rfl, show sz N = N by unfold sz; omega, show sz (X + Y + Z) = X + Y + Z by unfold sz; omega]
    by_cases g1 : X ≤ 0
    · by_cases g2 : Y ≤ 0
      · repeat (first | refine (run_t (by first | rfl | (simp only [decide_eq_true_eq, decide_eq_false_iff_not, Bool.not_eq_true', Bool.not_eq_false', beq_iff_eq, beq_eq_false_iff_ne, mm2_lt, mm2_gt, min_r, ne_eq]; omega))).trans ?_ | refine (run_f (by first | rfl | (simp only [decide_eq_true_eq, decide_eq_false_iff_not, Bool.not_eq_true', Bool.not_eq_false', beq_iff_eq, beq_eq_false_iff_ne, mm2_lt, mm2_gt, min_r, ne_eq]; omega))).trans ?_)
        rfl
      · repeat (first | refine (run_t (by first | rfl | (simp only [decide_eq_true_eq, decide_eq_false_iff_not, Bool.not_eq_true', Bool.not_eq_false', beq_iff_eq, beq_eq_false_iff_ne, mm2_lt, mm2_gt, min_r, ne_eq]; omega))).trans ?_ | refine (run_f (by first | rfl | (simp only [decide_eq_true_eq, decide_eq_false_iff_not, Bool.not_eq_true', Bool.not_eq_false', beq_iff_eq, beq_eq_false_iff_ne, mm2_lt, mm2_gt, min_r, ne_eq]; omega))).trans ?_)
        rfl
    · repeat (first | refine (run_t (by first | rfl | (simp only [decide_eq_true_eq, decide_eq_false_iff_not, Bool.not_eq_true', Bool.not_eq_false', beq_iff_eq, beq_eq_false_iff_ne, mm2_lt, mm2_gt, min_r, ne_eq]; omega))).trans ?_ | refine (run_f (by first | rfl | (simp only [decide_eq_true_eq, decide_eq_false_iff_not, Bool.not_eq_true', Bool.not_eq_false', beq_iff_eq, beq_eq_false_iff_ne, mm2_lt, mm2_gt, min_r, ne_eq]; omega))).trans ?_)
      rfl
  by_cases C2 : X ≤ 0 ∧ Y ≤ 0 ∧ Z ≤ 0 ∧ X + Y + Z < 0 ∧ N < 0
  · rw [decide_eq_true (show oneSign X Y Z N from .inr C2), if_pos rfl, if_pos rfl, show sz N = -N by unfold sz; omega, show sz (X + Y + Z) = -(X + Y + Z) by unfold sz; omega]
    repeat (first | refine (run_t (by first | rfl | (simp only [decide_eq_true_eq, decide_eq_false_iff_not, Bool.not_eq_true', Bool.not_eq_false', beq_iff_eq, beq_eq_false_iff_ne, mm2_lt, mm2_gt, min_r, ne_eq]; omega))).trans ?_ | refine (run_f (by first | rfl | (simp only [decide_eq_true_eq, decide_eq_false_iff_not, Bool.not_eq_true', Bool.not_eq_false', beq_iff_eq, beq_eq_false_iff_ne, mm2_lt, mm2_gt, min_r, ne_eq]; omega))).trans ?_)
    rfl
  · rw [decide_eq_false (show ¬ oneSign X Y Z N from fun h => h.elim C1 C2), if_neg (by decide), if_neg (by decide)]
    repeat' (first | refine (run_t (by first | rfl | (simp only [decide_eq_true_eq, decide_eq_false_iff_not, Bool.not_eq_true', Bool.not_eq_false', beq_iff_eq, beq_eq_false_iff_ne, mm2_lt, mm2_gt, min_r, ne_eq]; omega))).trans ?_ | refine (run_f (by first | rfl | (simp only [decide_eq_true_eq, decide_eq_false_iff_not, Bool.not_eq_true', Bool.not_eq_false', beq_iff_eq, beq_eq_false_iff_ne, mm2_lt, mm2_gt, min_r, ne_eq]; omega))).trans ?_ | refine run_split (fun _ => ?_) (fun _ => ?_) | refine run_split_eq (fun _ => ?_) (fun _ => ?_) | rfl)
    all_goals (exfalso; omega)

/-! tri.At -/
def tr_tri_At (a_x : Int) (a_y : Int) (a_z : Int) (b_x : Int) (b_y : Int) (b_z : Int) (c_x : Int) (c_y : Int) (c_z : Int) (u : Int) (v : Int) : Tr AV := Tr.node (!placeB a_x a_y a_z) (Tr.leaf (AV.agg [AV.int IntKind.i64 false 0, AV.int IntKind.i64 false 0, AV.int IntKind.i64 false 0])) (Tr.node (!placeB b_x b_y b_z) (Tr.leaf (AV.agg [AV.int IntKind.i64 false 0, AV.int IntKind.i64 false 0, AV.int IntKind.i64 false 0])) (Tr.node (!placeB c_x c_y c_z) (Tr.leaf (AV.agg [AV.int IntKind.i64 false 0, AV.int IntKind.i64 false 0, AV.int IntKind.i64 false 0])) (Tr.node (decide (mm false u v < 0)) (Tr.leaf (AV.agg [AV.int IntKind.i64 false 0, AV.int IntKind.i64 false 0, AV.int IntKind.i64 false 0])) (Tr.node (decide (mm true u v > 65536)) (Tr.leaf (AV.agg [AV.int IntKind.i64 false 0, AV.int IntKind.i64 false 0, AV.int IntKind.i64 false 0])) (Tr.node (decide (IntKind.i64.wrap (u + v) > 65536)) (Tr.leaf (AV.agg [AV.int IntKind.i64 false (sat (a_x + (IntKind.i64.wrap (IntKind.i64.wrap (sat (b_x + sat (a_x * -1)) * IntKind.i64.wrap (65536 - u)) + IntKind.i64.wrap (sat (c_x + sat (a_x * -1)) * IntKind.i64.wrap (65536 - v)))).fdiv 65536)), AV.int IntKind.i64 false (sat (a_y + (IntKind.i64.wrap (IntKind.i64.wrap (sat (b_y + sat (a_y * -1)) * IntKind.i64.wrap (65536 - u)) + IntKind.i64.wrap (sat (c_y + sat (a_y * -1)) * IntKind.i64.wrap (65536 - v)))).fdiv 65536)), AV.int IntKind.i64 false (sat (a_z + (IntKind.i64.wrap (IntKind.i64.wrap (sat (b_z + sat (a_z * -1)) * IntKind.i64.wrap (65536 - u)) + IntKind.i64.wrap (sat (c_z + sat (a_z * -1)) * IntKind.i64.wrap (65536 - v)))).fdiv 65536))])) (Tr.leaf (AV.agg [AV.int IntKind.i64 false (sat (a_x + (IntKind.i64.wrap (IntKind.i64.wrap (sat (b_x + sat (a_x * -1)) * u) + IntKind.i64.wrap (sat (c_x + sat (a_x * -1)) * v))).fdiv 65536)), AV.int IntKind.i64 false (sat (a_y + (IntKind.i64.wrap (IntKind.i64.wrap (sat (b_y + sat (a_y * -1)) * u) + IntKind.i64.wrap (sat (c_y + sat (a_y * -1)) * v))).fdiv 65536)), AV.int IntKind.i64 false (sat (a_z + (IntKind.i64.wrap (IntKind.i64.wrap (sat (b_z + sat (a_z * -1)) * u) + IntKind.i64.wrap (sat (c_z + sat (a_z * -1)) * v))).fdiv 65536))])))))))
theorem run_tri_At (a_x : Int) (a_y : Int) (a_z : Int) (b_x : Int) (b_y : Int) (b_z : Int) (c_x : Int) (c_y : Int) (c_z : Int) (u : Int) (v : Int) (h_a_x : InR .i64 a_x) (h_a_y : InR .i64 a_y) (h_a_z : InR .i64 a_z) (h_b_x : InR .i64 b_x) (h_b_y : InR .i64 b_y) (h_b_z : InR .i64 b_z) (h_c_x : InR .i64 c_x) (h_c_y : InR .i64 c_y) (h_c_z : InR .i64 c_z) (h_u : InR .i64 u) (h_v : InR .i64 v) : (tr_tri_At a_x a_y a_z b_x b_y b_z c_x c_y c_z u v).run = some (v3 (ptC a_x b_x c_x a_x a_y a_z b_x b_y b_z c_x c_y c_z u v) (ptC a_y b_y c_y a_x a_y a_z b_x b_y b_z c_x c_y c_z u v) (ptC a_z b_z c_z a_x a_y a_z b_x b_y b_z c_x c_y c_z u v)) := by
  unfold tr_tri_At
  by_cases hp : (placeB a_x a_y a_z = true ∧ placeB b_x b_y b_z = true ∧ placeB c_x c_y c_z = true) ∧ ((0 ≤ u ∧ u ≤ 65536) ∧ (0 ≤ v ∧ v ≤ 65536))
  rotate_left
  · have ok : ptOk a_x a_y a_z b_x b_y b_z c_x c_y c_z u v = false := by
      unfold ptOk; rw [← Bool.not_eq_true]; intro h; simp only [Bool.and_eq_true, decide_eq_true_eq] at h; exact hp ⟨places_r h.1, h.2⟩
    unfold ptC
    rw [ok]
    cases h1 : placeB a_x a_y a_z
    · rfl
    cases h2 : placeB b_x b_y b_z
    · rfl
    cases h3 : placeB c_x c_y c_z
    · rfl
    have hq : ¬ ((0 ≤ u ∧ u ≤ 65536) ∧ (0 ≤ v ∧ v ≤ 65536)) := fun h => hp ⟨⟨h1, h2, h3⟩, h⟩
    (try simp only [mm2_lt, mm2_gt])
    (repeat' (first | rfl | (refine run_guard (fun _ => ?_) (fun _ => ?_)))) <;> (exfalso; simp only [Bool.not_true, Bool.false_eq_true, decide_eq_true_eq, decide_eq_false_iff_not] at *; omega)
  obtain ⟨⟨ha, hb, hc⟩, hu, hv⟩ := hp
  have hz : placesB a_x a_y a_z b_x b_y b_z c_x c_y c_z = true := by unfold placesB; rw [ha, hb, hc]; rfl
  have ok : ptOk a_x a_y a_z b_x b_y b_z c_x c_y c_z u v = true := by unfold ptOk; rw [hz, decide_eq_true (show (0 ≤ u ∧ u ≤ 65536) ∧ (0 ≤ v ∧ v ≤ 65536) from ⟨hu, hv⟩)]; rfl
  have ra := place_r ha
  have rb := place_r hb
  have rc := place_r hc
  unfold ptC ptS
  rw [ok, ha, hb, hc]
  (try simp only [mm2_lt, mm2_gt])
  rw [wrap_i64_id (n := u + v) (by omega), wrap_i64_id (n := 65536 - u) (by omega), wrap_i64_id (n := 65536 - v) (by omega)]
  by_cases huv : u + v > 65536
  · simp only [if_pos huv]
    rw [share_prog ra.1 rb.1 rc.1 (u := 65536 - u) (v := 65536 - v) (by omega) (by omega), share_prog ra.2.1 rb.2.1 rc.2.1 (u := 65536 - u) (v := 65536 - v) (by omega) (by omega), share_prog ra.2.2 rb.2.2 rc.2.2 (u := 65536 - u) (v := 65536 - v) (by omega) (by omega)]
    repeat (first | refine (run_t (by first | rfl | (simp only [decide_eq_true_eq, decide_eq_false_iff_not, Bool.not_eq_true', Bool.not_eq_false', beq_iff_eq, beq_eq_false_iff_ne, mm2_lt, mm2_gt, min_r, ne_eq]; omega))).trans ?_ | refine (run_f (by first | rfl | (simp only [decide_eq_true_eq, decide_eq_false_iff_not, Bool.not_eq_true', Bool.not_eq_false', beq_iff_eq, beq_eq_false_iff_ne, mm2_lt, mm2_gt, min_r, ne_eq]; omega))).trans ?_)
    rfl
  · simp only [if_neg huv]
    rw [share_prog ra.1 rb.1 rc.1 hu hv, share_prog ra.2.1 rb.2.1 rc.2.1 hu hv, share_prog ra.2.2 rb.2.2 rc.2.2 hu hv]
    repeat (first | refine (run_t (by first | rfl | (simp only [decide_eq_true_eq, decide_eq_false_iff_not, Bool.not_eq_true', Bool.not_eq_false', beq_iff_eq, beq_eq_false_iff_ne, mm2_lt, mm2_gt, min_r, ne_eq]; omega))).trans ?_ | refine (run_f (by first | rfl | (simp only [decide_eq_true_eq, decide_eq_false_iff_not, Bool.not_eq_true', Bool.not_eq_false', beq_iff_eq, beq_eq_false_iff_ne, mm2_lt, mm2_gt, min_r, ne_eq]; omega))).trans ?_)
    rfl

/-! skylightref11.At -/
def tr_skylightref11_At (a_x : Int) (a_y : Int) (a_z : Int) (b_x : Int) (b_y : Int) (b_z : Int) (c_x : Int) (c_y : Int) (c_z : Int) (u : Int) (v : Int) : Tr AV := Tr.node (placeB a_x a_y a_z) (Tr.node (placeB b_x b_y b_z) (Tr.node (!placeB c_x c_y c_z) (Tr.leaf (AV.agg [AV.int IntKind.i64 false 0, AV.int IntKind.i64 false 0, AV.int IntKind.i64 false 0])) (Tr.node (decide (u < 0)) (Tr.leaf (AV.agg [AV.int IntKind.i64 false 0, AV.int IntKind.i64 false 0, AV.int IntKind.i64 false 0])) (Tr.node (decide (v < 0)) (Tr.leaf (AV.agg [AV.int IntKind.i64 false 0, AV.int IntKind.i64 false 0, AV.int IntKind.i64 false 0])) (Tr.node (decide (u > 65536)) (Tr.leaf (AV.agg [AV.int IntKind.i64 false 0, AV.int IntKind.i64 false 0, AV.int IntKind.i64 false 0])) (Tr.node (decide (v > 65536)) (Tr.leaf (AV.agg [AV.int IntKind.i64 false 0, AV.int IntKind.i64 false 0, AV.int IntKind.i64 false 0])) (Tr.node (decide (IntKind.i64.wrap (u + v) > 65536)) (Tr.leaf (AV.agg [AV.int IntKind.i64 false (IntKind.i64.wrap (a_x + if (1 : Int) ≤ 65536 then IntKind.i64.wrap (IntKind.i64.wrap (IntKind.i64.wrap (b_x - a_x) * IntKind.i64.wrap (65536 - u)) + IntKind.i64.wrap (IntKind.i64.wrap (c_x - a_x) * IntKind.i64.wrap (65536 - v))) / 65536 else 0)), AV.int IntKind.i64 false (IntKind.i64.wrap (a_y + if (1 : Int) ≤ 65536 then IntKind.i64.wrap (IntKind.i64.wrap (IntKind.i64.wrap (b_y - a_y) * IntKind.i64.wrap (65536 - u)) + IntKind.i64.wrap (IntKind.i64.wrap (c_y - a_y) * IntKind.i64.wrap (65536 - v))) / 65536 else 0)), AV.int IntKind.i64 false (IntKind.i64.wrap (a_z + if (1 : Int) ≤ 65536 then IntKind.i64.wrap (IntKind.i64.wrap (IntKind.i64.wrap (b_z - a_z) * IntKind.i64.wrap (65536 - u)) + IntKind.i64.wrap (IntKind.i64.wrap (c_z - a_z) * IntKind.i64.wrap (65536 - v))) / 65536 else 0))])) (Tr.leaf (AV.agg [AV.int IntKind.i64 false (IntKind.i64.wrap (a_x + if (1 : Int) ≤ 65536 then IntKind.i64.wrap (IntKind.i64.wrap (IntKind.i64.wrap (b_x - a_x) * u) + IntKind.i64.wrap (IntKind.i64.wrap (c_x - a_x) * v)) / 65536 else 0)), AV.int IntKind.i64 false (IntKind.i64.wrap (a_y + if (1 : Int) ≤ 65536 then IntKind.i64.wrap (IntKind.i64.wrap (IntKind.i64.wrap (b_y - a_y) * u) + IntKind.i64.wrap (IntKind.i64.wrap (c_y - a_y) * v)) / 65536 else 0)), AV.int IntKind.i64 false (IntKind.i64.wrap (a_z + if (1 : Int) ≤ 65536 then IntKind.i64.wrap (IntKind.i64.wrap (IntKind.i64.wrap (b_z - a_z) * u) + IntKind.i64.wrap (IntKind.i64.wrap (c_z - a_z) * v)) / 65536 else 0))])))))))) (Tr.leaf (AV.agg [AV.int IntKind.i64 false 0, AV.int IntKind.i64 false 0, AV.int IntKind.i64 false 0]))) (Tr.leaf (AV.agg [AV.int IntKind.i64 false 0, AV.int IntKind.i64 false 0, AV.int IntKind.i64 false 0]))
theorem run_skylightref11_At (a_x : Int) (a_y : Int) (a_z : Int) (b_x : Int) (b_y : Int) (b_z : Int) (c_x : Int) (c_y : Int) (c_z : Int) (u : Int) (v : Int) (h_a_x : InR .i64 a_x) (h_a_y : InR .i64 a_y) (h_a_z : InR .i64 a_z) (h_b_x : InR .i64 b_x) (h_b_y : InR .i64 b_y) (h_b_z : InR .i64 b_z) (h_c_x : InR .i64 c_x) (h_c_y : InR .i64 c_y) (h_c_z : InR .i64 c_z) (h_u : InR .i64 u) (h_v : InR .i64 v) : (tr_skylightref11_At a_x a_y a_z b_x b_y b_z c_x c_y c_z u v).run = some (v3 (ptC a_x b_x c_x a_x a_y a_z b_x b_y b_z c_x c_y c_z u v) (ptC a_y b_y c_y a_x a_y a_z b_x b_y b_z c_x c_y c_z u v) (ptC a_z b_z c_z a_x a_y a_z b_x b_y b_z c_x c_y c_z u v)) := by
  unfold tr_skylightref11_At
  by_cases hp : (placeB a_x a_y a_z = true ∧ placeB b_x b_y b_z = true ∧ placeB c_x c_y c_z = true) ∧ ((0 ≤ u ∧ u ≤ 65536) ∧ (0 ≤ v ∧ v ≤ 65536))
  rotate_left
  · have ok : ptOk a_x a_y a_z b_x b_y b_z c_x c_y c_z u v = false := by
      unfold ptOk; rw [← Bool.not_eq_true]; intro h; simp only [Bool.and_eq_true, decide_eq_true_eq] at h; exact hp ⟨places_r h.1, h.2⟩
    unfold ptC
    rw [ok]
    cases h1 : placeB a_x a_y a_z
    · rfl
    cases h2 : placeB b_x b_y b_z
    · rfl
    cases h3 : placeB c_x c_y c_z
    · rfl
    have hq : ¬ ((0 ≤ u ∧ u ≤ 65536) ∧ (0 ≤ v ∧ v ≤ 65536)) := fun h => hp ⟨⟨h1, h2, h3⟩, h⟩
    (try simp only [mm2_lt, mm2_gt])
    (repeat' (first | rfl | (refine run_guard (fun _ => ?_) (fun _ => ?_)))) <;> (exfalso; simp only [Bool.not_true, Bool.false_eq_true, decide_eq_true_eq, decide_eq_false_iff_not] at *; omega)
  obtain ⟨⟨ha, hb, hc⟩, hu, hv⟩ := hp
  have hz : placesB a_x a_y a_z b_x b_y b_z c_x c_y c_z = true := by unfold placesB; rw [ha, hb, hc]; rfl
  have ok : ptOk a_x a_y a_z b_x b_y b_z c_x c_y c_z u v = true := by unfold ptOk; rw [hz, decide_eq_true (show (0 ≤ u ∧ u ≤ 65536) ∧ (0 ≤ v ∧ v ≤ 65536) from ⟨hu, hv⟩)]; rfl
  have ra := place_r ha
  have rb := place_r hb
  have rc := place_r hc
  unfold ptC ptS
  rw [ok, ha, hb, hc]
  (try simp only [mm2_lt, mm2_gt])
  rw [wrap_i64_id (n := u + v) (by omega), wrap_i64_id (n := 65536 - u) (by omega), wrap_i64_id (n := 65536 - v) (by omega)]
  by_cases huv : u + v > 65536
  · simp only [if_pos huv]
    rw [share_ref ra.1 rb.1 rc.1 (u := 65536 - u) (v := 65536 - v) (by omega) (by omega), share_ref ra.2.1 rb.2.1 rc.2.1 (u := 65536 - u) (v := 65536 - v) (by omega) (by omega), share_ref ra.2.2 rb.2.2 rc.2.2 (u := 65536 - u) (v := 65536 - v) (by omega) (by omega)]
    repeat (first | refine (run_t (by first | rfl | (simp only [decide_eq_true_eq, decide_eq_false_iff_not, Bool.not_eq_true', Bool.not_eq_false', beq_iff_eq, beq_eq_false_iff_ne, mm2_lt, mm2_gt, min_r, ne_eq]; omega))).trans ?_ | refine (run_f (by first | rfl | (simp only [decide_eq_true_eq, decide_eq_false_iff_not, Bool.not_eq_true', Bool.not_eq_false', beq_iff_eq, beq_eq_false_iff_ne, mm2_lt, mm2_gt, min_r, ne_eq]; omega))).trans ?_)
    rfl
  · simp only [if_neg huv]
    rw [share_ref ra.1 rb.1 rc.1 hu hv, share_ref ra.2.1 rb.2.1 rc.2.1 hu hv, share_ref ra.2.2 rb.2.2 rc.2.2 hu hv]
    repeat (first | refine (run_t (by first | rfl | (simp only [decide_eq_true_eq, decide_eq_false_iff_not, Bool.not_eq_true', Bool.not_eq_false', beq_iff_eq, beq_eq_false_iff_ne, mm2_lt, mm2_gt, min_r, ne_eq]; omega))).trans ?_ | refine (run_f (by first | rfl | (simp only [decide_eq_true_eq, decide_eq_false_iff_not, Bool.not_eq_true', Bool.not_eq_false', beq_iff_eq, beq_eq_false_iff_ne, mm2_lt, mm2_gt, min_r, ne_eq]; omega))).trans ?_)
    rfl

end Go.Sky

/- Triangles: the plain laws. -/
set_option linter.unusedSimpArgs false
set_option linter.unusedVariables false
namespace Go.Sky

section
variable {ax ay az bx b_y bz cx cy cz ox oy oz dx dy dz : Int}

theorem up_cyc (a a' b b' c c' : Int) : upC b b' c c' a a' = upC a a' b b' c c' := by unfold upC; grind
theorem up_swap (a a' b b' c c' : Int) : upC a a' c c' b b' = -upC a a' b b' c c' := by unfold upC; grind

theorem places_cyc : placesB bx b_y bz cx cy cz ax ay az = placesB ax ay az bx b_y bz cx cy cz := by
  unfold placesB; cases placeB ax ay az <;> cases placeB bx b_y bz <;> cases placeB cx cy cz <;> rfl
theorem places_swap : placesB ax ay az cx cy cz bx b_y bz = placesB ax ay az bx b_y bz cx cy cz := by
  unfold placesB; cases placeB ax ay az <;> cases placeB bx b_y bz <;> cases placeB cx cy cz <;> rfl

theorem vol_cyc (a b c d e f g h i : Int) : vol3 d e f g h i a b c = vol3 a b c d e f g h i := by unfold vol3 dotI; grind
theorem vol_swap (a b c d e f g h i : Int) : vol3 a b c g h i d e f = -vol3 a b c d e f g h i := by unfold vol3 dotI; grind

/-- What is so of a triangle, in whatever order its corners are told. -/
structure Alike (ax ay az bx b_y bz cx cy cz ax' ay' az' bx' by' bz' cx' cy' cz' ox oy oz dx dy dz : Int) : Prop where
  num : tNum ax' ay' az' bx' by' bz' cx' cy' cz' ox oy oz dx dy dz = tNum ax ay az bx b_y bz cx cy cz ox oy oz dx dy dz
  den : tDen ax' ay' az' bx' by' bz' cx' cy' cz' ox oy oz dx dy dz = tDen ax ay az bx b_y bz cx cy cz ox oy oz dx dy dz
  ok : tOk ax' ay' az' bx' by' bz' cx' cy' cz' ox oy oz dx dy dz = tOk ax ay az bx b_y bz cx cy cz ox oy oz dx dy dz
  flat : flatB ax' ay' az' bx' by' bz' cx' cy' cz' = flatB ax ay az bx b_y bz cx cy cz
  area : areaN ax' ay' az' bx' by' bz' cx' cy' cz' = areaN ax ay az bx b_y bz cx cy cz

theorem Alike.trans {ax ay az bx b_y bz cx cy cz ax' ay' az' bx' by' bz' cx' cy' cz' a2 a3 a4 b2 b3 b4 c2 c3 c4 ox oy oz dx dy dz : Int} (h : Alike ax ay az bx b_y bz cx cy cz ax' ay' az' bx' by' bz' cx' cy' cz' ox oy oz dx dy dz)
    (k : Alike ax' ay' az' bx' by' bz' cx' cy' cz' a2 a3 a4 b2 b3 b4 c2 c3 c4 ox oy oz dx dy dz) : Alike ax ay az bx b_y bz cx cy cz a2 a3 a4 b2 b3 b4 c2 c3 c4 ox oy oz dx dy dz :=
  ⟨k.num.trans h.num, k.den.trans h.den, k.ok.trans h.ok, k.flat.trans h.flat, k.area.trans h.area⟩

theorem alike_cyc : Alike ax ay az bx b_y bz cx cy cz bx b_y bz cx cy cz ax ay az ox oy oz dx dy dz := by
  have hX : tX bx b_y bz cx cy cz ax ay az ox oy oz dx dy dz = tY ax ay az bx b_y bz cx cy cz ox oy oz dx dy dz := rfl
  have hY : tY bx b_y bz cx cy cz ax ay az ox oy oz dx dy dz = tZ ax ay az bx b_y bz cx cy cz ox oy oz dx dy dz := rfl
  have hZ : tZ bx b_y bz cx cy cz ax ay az ox oy oz dx dy dz = tX ax ay az bx b_y bz cx cy cz ox oy oz dx dy dz := rfl
  have hN : tN bx b_y bz cx cy cz ax ay az ox oy oz = tN ax ay az bx b_y bz cx cy cz ox oy oz := by unfold tN; exact vol_cyc _ _ _ _ _ _ _ _ _
  have hok : tOk bx b_y bz cx cy cz ax ay az ox oy oz dx dy dz = tOk ax ay az bx b_y bz cx cy cz ox oy oz dx dy dz := by
    unfold tOk tMay
    rw [places_cyc, hX, hY, hZ, hN]
    congr 1
    rw [decide_eq_decide]
    unfold oneSign
    omega
  refine ⟨?_, ?_, hok, ?_, ?_⟩
  · unfold tNum; rw [hok, hN]
  · unfold tDen; rw [hok, hX, hY, hZ]
    congr 2; omega
  · unfold flatB; rw [places_cyc, up_cyc ay az b_y bz cy cz, up_cyc az ax bz bx cz cx, up_cyc ax ay bx b_y cx cy]
  · unfold areaN up2; rw [places_cyc, up_cyc ay az b_y bz cy cz, up_cyc az ax bz bx cz cx, up_cyc ax ay bx b_y cx cy]

theorem dotI_nn (x y z a b c : Int) : dotI (-x) (-y) (-z) (-a) (-b) (-c) = dotI x y z a b c := by unfold dotI; rw [Int.neg_mul_neg, Int.neg_mul_neg, Int.neg_mul_neg]

theorem alike_swap : Alike ax ay az bx b_y bz cx cy cz ax ay az cx cy cz bx b_y bz ox oy oz dx dy dz := by
  have hX : tX ax ay az cx cy cz bx b_y bz ox oy oz dx dy dz = -tX ax ay az bx b_y bz cx cy cz ox oy oz dx dy dz := by unfold tX; exact vol_swap _ _ _ _ _ _ _ _ _
  have hY : tY ax ay az cx cy cz bx b_y bz ox oy oz dx dy dz = -tZ ax ay az bx b_y bz cx cy cz ox oy oz dx dy dz := by unfold tY tZ; exact vol_swap _ _ _ _ _ _ _ _ _
  have hZ : tZ ax ay az cx cy cz bx b_y bz ox oy oz dx dy dz = -tY ax ay az bx b_y bz cx cy cz ox oy oz dx dy dz := by unfold tY tZ; exact vol_swap _ _ _ _ _ _ _ _ _
  have hN : tN ax ay az cx cy cz bx b_y bz ox oy oz = -tN ax ay az bx b_y bz cx cy cz ox oy oz := by unfold tN; exact vol_swap _ _ _ _ _ _ _ _ _
  have hok : tOk ax ay az cx cy cz bx b_y bz ox oy oz dx dy dz = tOk ax ay az bx b_y bz cx cy cz ox oy oz dx dy dz := by
    unfold tOk tMay
    rw [places_swap, hX, hY, hZ, hN]
    congr 1
    rw [decide_eq_decide]
    unfold oneSign
    omega
  refine ⟨?_, ?_, hok, ?_, ?_⟩
  · unfold tNum; rw [hok, hN]
    congr 1; unfold sz; omega
  · unfold tDen; rw [hok, hX, hY, hZ]
    congr 1; unfold sz; omega
  · unfold flatB; rw [places_swap, up_swap ay az b_y bz cy cz, up_swap az ax bz bx cz cx, up_swap ax ay bx b_y cx cy]
    congr 1
    rw [decide_eq_decide]
    omega
  · unfold areaN up2; rw [places_swap, up_swap ay az b_y bz cy cz, up_swap az ax bz bx cz cx, up_swap ax ay bx b_y cx cy, dotI_nn]

theorem moved {x y z : Int} (h1 : placesB ax ay az bx b_y bz cx cy cz = true) (h2 : placeB ox oy oz = true) (k1 : placesB (ax + x) (ay + y) (az + z) (bx + x) (b_y + y) (bz + z) (cx + x) (cy + y) (cz + z) = true) (k2 : placeB (ox + x) (oy + y) (oz + z) = true) :
    tNum (ax + x) (ay + y) (az + z) (bx + x) (b_y + y) (bz + z) (cx + x) (cy + y) (cz + z) (ox + x) (oy + y) (oz + z) dx dy dz = tNum ax ay az bx b_y bz cx cy cz ox oy oz dx dy dz ∧
    tDen (ax + x) (ay + y) (az + z) (bx + x) (b_y + y) (bz + z) (cx + x) (cy + y) (cz + z) (ox + x) (oy + y) (oz + z) dx dy dz = tDen ax ay az bx b_y bz cx cy cz ox oy oz dx dy dz ∧
    tOk (ax + x) (ay + y) (az + z) (bx + x) (b_y + y) (bz + z) (cx + x) (cy + y) (cz + z) (ox + x) (oy + y) (oz + z) dx dy dz = tOk ax ay az bx b_y bz cx cy cz ox oy oz dx dy dz := by
  have e : ∀ a o w : Int, a + w - (o + w) = a - o := fun a o w => by omega
  have hok : tOk (ax + x) (ay + y) (az + z) (bx + x) (b_y + y) (bz + z) (cx + x) (cy + y) (cz + z) (ox + x) (oy + y) (oz + z) dx dy dz = tOk ax ay az bx b_y bz cx cy cz ox oy oz dx dy dz := by
    unfold tOk tMay
    rw [h1, h2, k1, k2]
    unfold tX tY tZ tN
    simp only [e]
  refine ⟨?_, ?_, hok⟩
  · unfold tNum; rw [hok]; unfold tN; simp only [e]
  · unfold tDen; rw [hok]; unfold tX tY tZ; simp only [e]

end

end Go.Sky

/- Trees of functions, and what they come to. -/
set_option linter.unusedSimpArgs false
set_option linter.unusedVariables false
namespace Go.Sky
set_option maxRecDepth 100000

/-! skylightlaw11.TriAlike -/
def tr_skylightlaw11_TriAlike (a_x : Int) (a_y : Int) (a_z : Int) (b_x : Int) (b_y : Int) (b_z : Int) (c_x : Int) (c_y : Int) (c_z : Int) (r_o_x : Int) (r_o_y : Int) (r_o_z : Int) (r_d_x : Int) (r_d_y : Int) (r_d_z : Int) (r_f : Int) (by_x : Int) (by_y : Int) (by_z : Int) : Tr AV := Tr.node (!placeB a_x a_y a_z) (Tr.leaf (AV.bool false true)) (Tr.node (!placeB b_x b_y b_z) (Tr.leaf (AV.bool false true)) (Tr.node (!placeB c_x c_y c_z) (Tr.leaf (AV.bool false true)) (Tr.node (!placeB r_o_x r_o_y r_o_z) (Tr.leaf (AV.bool false true)) (Tr.node (!nearB r_d_x r_d_y r_d_z) (Tr.leaf (AV.bool false true)) (Tr.node (!placeB by_x by_y by_z) (Tr.leaf (AV.bool false true)) (Tr.node (!(tNum b_x b_y b_z c_x c_y c_z a_x a_y a_z r_o_x r_o_y r_o_z r_d_x r_d_y r_d_z == tNum a_x a_y a_z b_x b_y b_z c_x c_y c_z r_o_x r_o_y r_o_z r_d_x r_d_y r_d_z && (tDen b_x b_y b_z c_x c_y c_z a_x a_y a_z r_o_x r_o_y r_o_z r_d_x r_d_y r_d_z == tDen a_x a_y a_z b_x b_y b_z c_x c_y c_z r_o_x r_o_y r_o_z r_d_x r_d_y r_d_z && true))) (Tr.leaf (AV.bool false false)) (Tr.node (!tOk b_x b_y b_z c_x c_y c_z a_x a_y a_z r_o_x r_o_y r_o_z r_d_x r_d_y r_d_z == tOk a_x a_y a_z b_x b_y b_z c_x c_y c_z r_o_x r_o_y r_o_z r_d_x r_d_y r_d_z) (Tr.leaf (AV.bool false false)) (Tr.node (!flatB b_x b_y b_z c_x c_y c_z a_x a_y a_z == flatB a_x a_y a_z b_x b_y b_z c_x c_y c_z) (Tr.node (!flatB b_x b_y b_z c_x c_y c_z a_x a_y a_z == flatB a_x a_y a_z b_x b_y b_z c_x c_y c_z) (Tr.leaf (AV.bool false false)) Tr.bad) (Tr.node (!flatB b_x b_y b_z c_x c_y c_z a_x a_y a_z == flatB a_x a_y a_z b_x b_y b_z c_x c_y c_z) (Tr.leaf (AV.bool false false)) (Tr.node (areaN b_x b_y b_z c_x c_y c_z a_x a_y a_z != areaN a_x a_y a_z b_x b_y b_z c_x c_y c_z) (Tr.leaf (AV.bool false false)) (Tr.node (!(tNum c_x c_y c_z a_x a_y a_z b_x b_y b_z r_o_x r_o_y r_o_z r_d_x r_d_y r_d_z == tNum a_x a_y a_z b_x b_y b_z c_x c_y c_z r_o_x r_o_y r_o_z r_d_x r_d_y r_d_z && (tDen c_x c_y c_z a_x a_y a_z b_x b_y b_z r_o_x r_o_y r_o_z r_d_x r_d_y r_d_z == tDen a_x a_y a_z b_x b_y b_z c_x c_y c_z r_o_x r_o_y r_o_z r_d_x r_d_y r_d_z && true))) (Tr.leaf (AV.bool false false)) (Tr.node (!tOk c_x c_y c_z a_x a_y a_z b_x b_y b_z r_o_x r_o_y r_o_z r_d_x r_d_y r_d_z == tOk a_x a_y a_z b_x b_y b_z c_x c_y c_z r_o_x r_o_y r_o_z r_d_x r_d_y r_d_z) (Tr.leaf (AV.bool false false)) (Tr.node (!flatB c_x c_y c_z a_x a_y a_z b_x b_y b_z == flatB a_x a_y a_z b_x b_y b_z c_x c_y c_z) (Tr.node (!flatB c_x c_y c_z a_x a_y a_z b_x b_y b_z == flatB a_x a_y a_z b_x b_y b_z c_x c_y c_z) (Tr.leaf (AV.bool false false)) Tr.bad) (Tr.node (!flatB c_x c_y c_z a_x a_y a_z b_x b_y b_z == flatB a_x a_y a_z b_x b_y b_z c_x c_y c_z) (Tr.leaf (AV.bool false false)) (Tr.node (areaN c_x c_y c_z a_x a_y a_z b_x b_y b_z != areaN a_x a_y a_z b_x b_y b_z c_x c_y c_z) (Tr.leaf (AV.bool false false)) (Tr.node (!(tNum a_x a_y a_z c_x c_y c_z b_x b_y b_z r_o_x r_o_y r_o_z r_d_x r_d_y r_d_z == tNum a_x a_y a_z b_x b_y b_z c_x c_y c_z r_o_x r_o_y r_o_z r_d_x r_d_y r_d_z && (tDen a_x a_y a_z c_x c_y c_z b_x b_y b_z r_o_x r_o_y r_o_z r_d_x r_d_y r_d_z == tDen a_x a_y a_z b_x b_y b_z c_x c_y c_z r_o_x r_o_y r_o_z r_d_x r_d_y r_d_z && true))) (Tr.leaf (AV.bool false false)) (Tr.node (!tOk a_x a_y a_z c_x c_y c_z b_x b_y b_z r_o_x r_o_y r_o_z r_d_x r_d_y r_d_z == tOk a_x a_y a_z b_x b_y b_z c_x c_y c_z r_o_x r_o_y r_o_z r_d_x r_d_y r_d_z) (Tr.leaf (AV.bool false false)) (Tr.node (!flatB a_x a_y a_z c_x c_y c_z b_x b_y b_z == flatB a_x a_y a_z b_x b_y b_z c_x c_y c_z) (Tr.node (!flatB a_x a_y a_z c_x c_y c_z b_x b_y b_z == flatB a_x a_y a_z b_x b_y b_z c_x c_y c_z) (Tr.leaf (AV.bool false false)) Tr.bad) (Tr.node (!flatB a_x a_y a_z c_x c_y c_z b_x b_y b_z == flatB a_x a_y a_z b_x b_y b_z c_x c_y c_z) (Tr.leaf (AV.bool false false)) (Tr.node (areaN a_x a_y a_z c_x c_y c_z b_x b_y b_z != areaN a_x a_y a_z b_x b_y b_z c_x c_y c_z) (Tr.leaf (AV.bool false false)) (Tr.node (!(tNum c_x c_y c_z b_x b_y b_z a_x a_y a_z r_o_x r_o_y r_o_z r_d_x r_d_y r_d_z == tNum a_x a_y a_z b_x b_y b_z c_x c_y c_z r_o_x r_o_y r_o_z r_d_x r_d_y r_d_z && (tDen c_x c_y c_z b_x b_y b_z a_x a_y a_z r_o_x r_o_y r_o_z r_d_x r_d_y r_d_z == tDen a_x a_y a_z b_x b_y b_z c_x c_y c_z r_o_x r_o_y r_o_z r_d_x r_d_y r_d_z && true))) (Tr.leaf (AV.bool false false)) (Tr.node (!tOk c_x c_y c_z b_x b_y b_z a_x a_y a_z r_o_x r_o_y r_o_z r_d_x r_d_y r_d_z == tOk a_x a_y a_z b_x b_y b_z c_x c_y c_z r_o_x r_o_y r_o_z r_d_x r_d_y r_d_z) (Tr.leaf (AV.bool false false)) (Tr.node (!flatB c_x c_y c_z b_x b_y b_z a_x a_y a_z == flatB a_x a_y a_z b_x b_y b_z c_x c_y c_z) (Tr.node (!flatB c_x c_y c_z b_x b_y b_z a_x a_y a_z == flatB a_x a_y a_z b_x b_y b_z c_x c_y c_z) (Tr.leaf (AV.bool false false)) Tr.bad) (Tr.node (!flatB c_x c_y c_z b_x b_y b_z a_x a_y a_z == flatB a_x a_y a_z b_x b_y b_z c_x c_y c_z) (Tr.leaf (AV.bool false false)) (Tr.node (areaN c_x c_y c_z b_x b_y b_z a_x a_y a_z != areaN a_x a_y a_z b_x b_y b_z c_x c_y c_z) (Tr.leaf (AV.bool false false)) (Tr.node (!(tNum b_x b_y b_z a_x a_y a_z c_x c_y c_z r_o_x r_o_y r_o_z r_d_x r_d_y r_d_z == tNum a_x a_y a_z b_x b_y b_z c_x c_y c_z r_o_x r_o_y r_o_z r_d_x r_d_y r_d_z && (tDen b_x b_y b_z a_x a_y a_z c_x c_y c_z r_o_x r_o_y r_o_z r_d_x r_d_y r_d_z == tDen a_x a_y a_z b_x b_y b_z c_x c_y c_z r_o_x r_o_y r_o_z r_d_x r_d_y r_d_z && true))) (Tr.leaf (AV.bool false false)) (Tr.node (!tOk b_x b_y b_z a_x a_y a_z c_x c_y c_z r_o_x r_o_y r_o_z r_d_x r_d_y r_d_z == tOk a_x a_y a_z b_x b_y b_z c_x c_y c_z r_o_x r_o_y r_o_z r_d_x r_d_y r_d_z) (Tr.leaf (AV.bool false false)) (Tr.node (!flatB b_x b_y b_z a_x a_y a_z c_x c_y c_z == flatB a_x a_y a_z b_x b_y b_z c_x c_y c_z) (Tr.node (!flatB b_x b_y b_z a_x a_y a_z c_x c_y c_z == flatB a_x a_y a_z b_x b_y b_z c_x c_y c_z) (Tr.leaf (AV.bool false false)) Tr.bad) (Tr.node (!flatB b_x b_y b_z a_x a_y a_z c_x c_y c_z == flatB a_x a_y a_z b_x b_y b_z c_x c_y c_z) (Tr.leaf (AV.bool false false)) (Tr.node (areaN b_x b_y b_z a_x a_y a_z c_x c_y c_z != areaN a_x a_y a_z b_x b_y b_z c_x c_y c_z) (Tr.leaf (AV.bool false false)) (Tr.node (!placeB (sat (a_x + by_x)) (sat (a_y + by_y)) (sat (a_z + by_z))) (Tr.leaf (AV.bool false true)) (Tr.node (!placeB (sat (b_x + by_x)) (sat (b_y + by_y)) (sat (b_z + by_z))) (Tr.leaf (AV.bool false true)) (Tr.node (!placeB (sat (c_x + by_x)) (sat (c_y + by_y)) (sat (c_z + by_z))) (Tr.leaf (AV.bool false true)) (Tr.node (!placeB (sat (r_o_x + by_x)) (sat (r_o_y + by_y)) (sat (r_o_z + by_z))) (Tr.leaf (AV.bool false true)) (Tr.node (tNum (sat (a_x + by_x)) (sat (a_y + by_y)) (sat (a_z + by_z)) (sat (b_x + by_x)) (sat (b_y + by_y)) (sat (b_z + by_z)) (sat (c_x + by_x)) (sat (c_y + by_y)) (sat (c_z + by_z)) (sat (r_o_x + by_x)) (sat (r_o_y + by_y)) (sat (r_o_z + by_z)) r_d_x r_d_y r_d_z == tNum a_x a_y a_z b_x b_y b_z c_x c_y c_z r_o_x r_o_y r_o_z r_d_x r_d_y r_d_z && (tDen (sat (a_x + by_x)) (sat (a_y + by_y)) (sat (a_z + by_z)) (sat (b_x + by_x)) (sat (b_y + by_y)) (sat (b_z + by_z)) (sat (c_x + by_x)) (sat (c_y + by_y)) (sat (c_z + by_z)) (sat (r_o_x + by_x)) (sat (r_o_y + by_y)) (sat (r_o_z + by_z)) r_d_x r_d_y r_d_z == tDen a_x a_y a_z b_x b_y b_z c_x c_y c_z r_o_x r_o_y r_o_z r_d_x r_d_y r_d_z && true)) (Tr.node (tOk (sat (a_x + by_x)) (sat (a_y + by_y)) (sat (a_z + by_z)) (sat (b_x + by_x)) (sat (b_y + by_y)) (sat (b_z + by_z)) (sat (c_x + by_x)) (sat (c_y + by_y)) (sat (c_z + by_z)) (sat (r_o_x + by_x)) (sat (r_o_y + by_y)) (sat (r_o_z + by_z)) r_d_x r_d_y r_d_z == tOk a_x a_y a_z b_x b_y b_z c_x c_y c_z r_o_x r_o_y r_o_z r_d_x r_d_y r_d_z) (Tr.leaf (AV.bool false true)) (Tr.leaf (AV.bool false false))) (Tr.leaf (AV.bool false false)))))))))))))))))))))))))))))))))))))
theorem run_skylightlaw11_TriAlike (a_x : Int) (a_y : Int) (a_z : Int) (b_x : Int) (b_y : Int) (b_z : Int) (c_x : Int) (c_y : Int) (c_z : Int) (r_o_x : Int) (r_o_y : Int) (r_o_z : Int) (r_d_x : Int) (r_d_y : Int) (r_d_z : Int) (r_f : Int) (by_x : Int) (by_y : Int) (by_z : Int) (h_a_x : InR .i64 a_x) (h_a_y : InR .i64 a_y) (h_a_z : InR .i64 a_z) (h_b_x : InR .i64 b_x) (h_b_y : InR .i64 b_y) (h_b_z : InR .i64 b_z) (h_c_x : InR .i64 c_x) (h_c_y : InR .i64 c_y) (h_c_z : InR .i64 c_z) (h_r_o_x : InR .i64 r_o_x) (h_r_o_y : InR .i64 r_o_y) (h_r_o_z : InR .i64 r_o_z) (h_r_d_x : InR .i64 r_d_x) (h_r_d_y : InR .i64 r_d_y) (h_r_d_z : InR .i64 r_d_z) (h_r_f : InR .i64 r_f) (h_by_x : InR .i64 by_x) (h_by_y : InR .i64 by_y) (h_by_z : InR .i64 by_z) : (tr_skylightlaw11_TriAlike a_x a_y a_z b_x b_y b_z c_x c_y c_z r_o_x r_o_y r_o_z r_d_x r_d_y r_d_z r_f by_x by_y by_z).run = some (bb true) := by
  unfold tr_skylightlaw11_TriAlike
  cases ha : placeB a_x a_y a_z
  · rfl
  cases hb : placeB b_x b_y b_z
  · rfl
  cases hc : placeB c_x c_y c_z
  · rfl
  cases ho : placeB r_o_x r_o_y r_o_z
  · rfl
  cases hd : nearB r_d_x r_d_y r_d_z
  · rfl
  cases hw : placeB by_x by_y by_z
  · rfl
  have hp : placesB a_x a_y a_z b_x b_y b_z c_x c_y c_z = true := by unfold placesB; rw [ha, hb, hc]; rfl
  have A1 := @alike_cyc a_x a_y a_z b_x b_y b_z c_x c_y c_z r_o_x r_o_y r_o_z r_d_x r_d_y r_d_z
  have A2 := A1.trans (@alike_cyc b_x b_y b_z c_x c_y c_z a_x a_y a_z r_o_x r_o_y r_o_z r_d_x r_d_y r_d_z)
  have A3 := @alike_swap a_x a_y a_z b_x b_y b_z c_x c_y c_z r_o_x r_o_y r_o_z r_d_x r_d_y r_d_z
  have A4 := A3.trans (@alike_cyc a_x a_y a_z c_x c_y c_z b_x b_y b_z r_o_x r_o_y r_o_z r_d_x r_d_y r_d_z)
  have A5 := A4.trans (@alike_cyc c_x c_y c_z b_x b_y b_z a_x a_y a_z r_o_x r_o_y r_o_z r_d_x r_d_y r_d_z)
  have ra := place_r ha; have rb := place_r hb; have rc := place_r hc; have ro := place_r ho; have rw_ := place_r hw
  have s : ∀ p q : Int, (-524288 ≤ p ∧ p ≤ 524288) → (-524288 ≤ q ∧ q ≤ 524288) → sat (p + q) = p + q := fun p q h k => sat_id (by omega)
  rw [s a_x by_x ra.1 rw_.1, s a_y by_y ra.2.1 rw_.2.1, s a_z by_z ra.2.2 rw_.2.2, s b_x by_x rb.1 rw_.1, s b_y by_y rb.2.1 rw_.2.1, s b_z by_z rb.2.2 rw_.2.2, s c_x by_x rc.1 rw_.1, s c_y by_y rc.2.1 rw_.2.1, s c_z by_z rc.2.2 rw_.2.2,
    s r_o_x by_x ro.1 rw_.1, s r_o_y by_y ro.2.1 rw_.2.1, s r_o_z by_z ro.2.2 rw_.2.2]
  simp only [A1.num, A1.den, A1.ok, A1.flat, A1.area, A2.num, A2.den, A2.ok, A2.flat, A2.area, A3.num, A3.den, A3.ok, A3.flat, A3.area, A4.num, A4.den, A4.ok, A4.flat, A4.area, A5.num, A5.den, A5.ok, A5.flat, A5.area]
  cases k1 : placeB (a_x + by_x) (a_y + by_y) (a_z + by_z)
  · simp [Tr.run, bb]
  cases k2 : placeB (b_x + by_x) (b_y + by_y) (b_z + by_z)
  · simp [Tr.run, bb]
  cases k3 : placeB (c_x + by_x) (c_y + by_y) (c_z + by_z)
  · simp [Tr.run, bb]
  cases k4 : placeB (r_o_x + by_x) (r_o_y + by_y) (r_o_z + by_z)
  · simp [Tr.run, bb]
  obtain ⟨m1, m2, m3⟩ := moved (x := by_x) (y := by_y) (z := by_z) (dx := r_d_x) (dy := r_d_y) (dz := r_d_z) hp ho (by unfold placesB; rw [k1, k2, k3]; rfl) k4
  simp only [m1, m2, m3]
  simp [Tr.run, bb]

end Go.Sky
