/- Trees of functions, and what they come to. -/
import Derived.Test.YtfbakgcemnkcpaaQ8ef77d35
set_option linter.unusedSimpArgs false
set_option linter.unusedVariables false
namespace Go.Sky
set_option maxRecDepth 100000

/-! tri.Flat -/
def tr_tri_Flat (a_x : Int) (a_y : Int) (a_z : Int) (b_x : Int) (b_y : Int) (b_z : Int) (c_x : Int) (c_y : Int) (c_z : Int) : Tr AV := Tr.node (!placeB a_x a_y a_z) (Tr.leaf (AV.bool false true)) (Tr.node (!placeB b_x b_y b_z) (Tr.leaf (AV.bool false true)) (Tr.node (!placeB c_x c_y c_z) (Tr.leaf (AV.bool false true)) (Tr.leaf (AV.bool false (crN (sat (b_y + sat (a_y * -1))) (sat (b_z + sat (a_z * -1))) (sat (c_y + sat (a_y * -1))) (sat (c_z + sat (a_z * -1))) (sat (b_x + sat (a_x * -1))) (sat (c_x + sat (a_x * -1))) == 0 && (crN (sat (b_z + sat (a_z * -1))) (sat (b_x + sat (a_x * -1))) (sat (c_z + sat (a_z * -1))) (sat (c_x + sat (a_x * -1))) (sat (b_y + sat (a_y * -1))) (sat (c_y + sat (a_y * -1))) == 0 && (crN (sat (b_x + sat (a_x * -1))) (sat (b_y + sat (a_y * -1))) (sat (c_x + sat (a_x * -1))) (sat (c_y + sat (a_y * -1))) (sat (b_z + sat (a_z * -1))) (sat (c_z + sat (a_z * -1))) == 0 && true)))))))
theorem run_tri_Flat (a_x : Int) (a_y : Int) (a_z : Int) (b_x : Int) (b_y : Int) (b_z : Int) (c_x : Int) (c_y : Int) (c_z : Int) (h_a_x : InR .i64 a_x) (h_a_y : InR .i64 a_y) (h_a_z : InR .i64 a_z) (h_b_x : InR .i64 b_x) (h_b_y : InR .i64 b_y) (h_b_z : InR .i64 b_z) (h_c_x : InR .i64 c_x) (h_c_y : InR .i64 c_y) (h_c_z : InR .i64 c_z) : (tr_tri_Flat a_x a_y a_z b_x b_y b_z c_x c_y c_z).run = some (bb (flatB a_x a_y a_z b_x b_y b_z c_x c_y c_z)) := by
  unfold tr_tri_Flat
  by_cases hp : placeB a_x a_y a_z = true ∧ placeB b_x b_y b_z = true ∧ placeB c_x c_y c_z = true
  rotate_left
  · have hz : placesB a_x a_y a_z b_x b_y b_z c_x c_y c_z = false := places_no hp
    unfold flatB
    rw [hz]
    cases h1 : placeB a_x a_y a_z
    · rfl
    cases h2 : placeB b_x b_y b_z
    · rfl
    cases h3 : placeB c_x c_y c_z
    · rfl
    exact absurd ⟨h1, h2, h3⟩ hp
  obtain ⟨ha, hb, hc⟩ := hp
  have hz : placesB a_x a_y a_z b_x b_y b_z c_x c_y c_z = true := by unfold placesB; rw [ha, hb, hc]; rfl
  
  obtain ⟨⟨e1, e2, e3⟩, ne⟩ := way3 ha hb
  obtain ⟨⟨f1, f2, f3⟩, nf⟩ := way3 ha hc
  obtain ⟨⟨u1, u2, u3⟩, r1, r2, r3⟩ := tri_up ha hb hc
  
  simp only [e1, e2, e3, f1, f2, f3, u1, u2, u3, ha, hb, hc]
  simp only [Tr.run, bb, flatB, hz, Bool.not_true, Bool.false_eq_true, if_false, if_true, Bool.false_or]
  congr 2
  rw [Bool.eq_iff_iff]
  simp

/-! skylightref11.Flat -/
def tr_skylightref11_Flat (a_x : Int) (a_y : Int) (a_z : Int) (b_x : Int) (b_y : Int) (b_z : Int) (c_x : Int) (c_y : Int) (c_z : Int) : Tr AV := Tr.node (placeB a_x a_y a_z) (Tr.node (placeB b_x b_y b_z) (Tr.node (!placeB c_x c_y c_z) (Tr.leaf (AV.bool false true)) (Tr.leaf (AV.bool false (crN (sat (b_y + sat (a_y * -1))) (sat (b_z + sat (a_z * -1))) (sat (c_y + sat (a_y * -1))) (sat (c_z + sat (a_z * -1))) (sat (b_x + sat (a_x * -1))) (sat (c_x + sat (a_x * -1))) == 0 && (crN (sat (b_z + sat (a_z * -1))) (sat (b_x + sat (a_x * -1))) (sat (c_z + sat (a_z * -1))) (sat (c_x + sat (a_x * -1))) (sat (b_y + sat (a_y * -1))) (sat (c_y + sat (a_y * -1))) == 0 && (crN (sat (b_x + sat (a_x * -1))) (sat (b_y + sat (a_y * -1))) (sat (c_x + sat (a_x * -1))) (sat (c_y + sat (a_y * -1))) (sat (b_z + sat (a_z * -1))) (sat (c_z + sat (a_z * -1))) == 0 && true)))))) (Tr.leaf (AV.bool false true))) (Tr.leaf (AV.bool false true))
theorem run_skylightref11_Flat (a_x : Int) (a_y : Int) (a_z : Int) (b_x : Int) (b_y : Int) (b_z : Int) (c_x : Int) (c_y : Int) (c_z : Int) (h_a_x : InR .i64 a_x) (h_a_y : InR .i64 a_y) (h_a_z : InR .i64 a_z) (h_b_x : InR .i64 b_x) (h_b_y : InR .i64 b_y) (h_b_z : InR .i64 b_z) (h_c_x : InR .i64 c_x) (h_c_y : InR .i64 c_y) (h_c_z : InR .i64 c_z) : (tr_skylightref11_Flat a_x a_y a_z b_x b_y b_z c_x c_y c_z).run = some (bb (flatB a_x a_y a_z b_x b_y b_z c_x c_y c_z)) := by
  unfold tr_skylightref11_Flat
  by_cases hp : placeB a_x a_y a_z = true ∧ placeB b_x b_y b_z = true ∧ placeB c_x c_y c_z = true
  rotate_left
  · have hz : placesB a_x a_y a_z b_x b_y b_z c_x c_y c_z = false := places_no hp
    unfold flatB
    rw [hz]
    cases h1 : placeB a_x a_y a_z
    · rfl
    cases h2 : placeB b_x b_y b_z
    · rfl
    cases h3 : placeB c_x c_y c_z
    · rfl
    exact absurd ⟨h1, h2, h3⟩ hp
  obtain ⟨ha, hb, hc⟩ := hp
  have hz : placesB a_x a_y a_z b_x b_y b_z c_x c_y c_z = true := by unfold placesB; rw [ha, hb, hc]; rfl
  
  obtain ⟨⟨e1, e2, e3⟩, ne⟩ := way3 ha hb
  obtain ⟨⟨f1, f2, f3⟩, nf⟩ := way3 ha hc
  obtain ⟨⟨u1, u2, u3⟩, r1, r2, r3⟩ := tri_up ha hb hc
  
  simp only [e1, e2, e3, f1, f2, f3, u1, u2, u3, ha, hb, hc]
  simp only [Tr.run, bb, flatB, hz, Bool.not_true, Bool.false_eq_true, if_false, if_true, Bool.false_or]
  congr 2
  rw [Bool.eq_iff_iff]
  simp

/-! tri.Normal -/
def tr_tri_Normal (a_x : Int) (a_y : Int) (a_z : Int) (b_x : Int) (b_y : Int) (b_z : Int) (c_x : Int) (c_y : Int) (c_z : Int) : Tr AV := Tr.node (!placeB a_x a_y a_z) (Tr.leaf (AV.tuple [AV.agg [AV.int IntKind.i64 false 0, AV.int IntKind.i64 false 0, AV.int IntKind.i64 false 0], AV.bool false false])) (Tr.node (!placeB b_x b_y b_z) (Tr.leaf (AV.tuple [AV.agg [AV.int IntKind.i64 false 0, AV.int IntKind.i64 false 0, AV.int IntKind.i64 false 0], AV.bool false false])) (Tr.node (!placeB c_x c_y c_z) (Tr.leaf (AV.tuple [AV.agg [AV.int IntKind.i64 false 0, AV.int IntKind.i64 false 0, AV.int IntKind.i64 false 0], AV.bool false false])) (Tr.leaf (AV.tuple [AV.agg [AV.int IntKind.i64 false (unitC (crN (sat (b_y + sat (a_y * -1))) (sat (b_z + sat (a_z * -1))) (sat (c_y + sat (a_y * -1))) (sat (c_z + sat (a_z * -1))) (sat (b_x + sat (a_x * -1))) (sat (c_x + sat (a_x * -1)))) (crN (sat (b_z + sat (a_z * -1))) (sat (b_x + sat (a_x * -1))) (sat (c_z + sat (a_z * -1))) (sat (c_x + sat (a_x * -1))) (sat (b_y + sat (a_y * -1))) (sat (c_y + sat (a_y * -1)))) (crN (sat (b_x + sat (a_x * -1))) (sat (b_y + sat (a_y * -1))) (sat (c_x + sat (a_x * -1))) (sat (c_y + sat (a_y * -1))) (sat (b_z + sat (a_z * -1))) (sat (c_z + sat (a_z * -1)))) (crN (sat (b_y + sat (a_y * -1))) (sat (b_z + sat (a_z * -1))) (sat (c_y + sat (a_y * -1))) (sat (c_z + sat (a_z * -1))) (sat (b_x + sat (a_x * -1))) (sat (c_x + sat (a_x * -1))))), AV.int IntKind.i64 false (unitC (crN (sat (b_y + sat (a_y * -1))) (sat (b_z + sat (a_z * -1))) (sat (c_y + sat (a_y * -1))) (sat (c_z + sat (a_z * -1))) (sat (b_x + sat (a_x * -1))) (sat (c_x + sat (a_x * -1)))) (crN (sat (b_z + sat (a_z * -1))) (sat (b_x + sat (a_x * -1))) (sat (c_z + sat (a_z * -1))) (sat (c_x + sat (a_x * -1))) (sat (b_y + sat (a_y * -1))) (sat (c_y + sat (a_y * -1)))) (crN (sat (b_x + sat (a_x * -1))) (sat (b_y + sat (a_y * -1))) (sat (c_x + sat (a_x * -1))) (sat (c_y + sat (a_y * -1))) (sat (b_z + sat (a_z * -1))) (sat (c_z + sat (a_z * -1)))) (crN (sat (b_z + sat (a_z * -1))) (sat (b_x + sat (a_x * -1))) (sat (c_z + sat (a_z * -1))) (sat (c_x + sat (a_x * -1))) (sat (b_y + sat (a_y * -1))) (sat (c_y + sat (a_y * -1))))), AV.int IntKind.i64 false (unitC (crN (sat (b_y + sat (a_y * -1))) (sat (b_z + sat (a_z * -1))) (sat (c_y + sat (a_y * -1))) (sat (c_z + sat (a_z * -1))) (sat (b_x + sat (a_x * -1))) (sat (c_x + sat (a_x * -1)))) (crN (sat (b_z + sat (a_z * -1))) (sat (b_x + sat (a_x * -1))) (sat (c_z + sat (a_z * -1))) (sat (c_x + sat (a_x * -1))) (sat (b_y + sat (a_y * -1))) (sat (c_y + sat (a_y * -1)))) (crN (sat (b_x + sat (a_x * -1))) (sat (b_y + sat (a_y * -1))) (sat (c_x + sat (a_x * -1))) (sat (c_y + sat (a_y * -1))) (sat (b_z + sat (a_z * -1))) (sat (c_z + sat (a_z * -1)))) (crN (sat (b_x + sat (a_x * -1))) (sat (b_y + sat (a_y * -1))) (sat (c_x + sat (a_x * -1))) (sat (c_y + sat (a_y * -1))) (sat (b_z + sat (a_z * -1))) (sat (c_z + sat (a_z * -1)))))], AV.bool false (okU (crN (sat (b_y + sat (a_y * -1))) (sat (b_z + sat (a_z * -1))) (sat (c_y + sat (a_y * -1))) (sat (c_z + sat (a_z * -1))) (sat (b_x + sat (a_x * -1))) (sat (c_x + sat (a_x * -1)))) (crN (sat (b_z + sat (a_z * -1))) (sat (b_x + sat (a_x * -1))) (sat (c_z + sat (a_z * -1))) (sat (c_x + sat (a_x * -1))) (sat (b_y + sat (a_y * -1))) (sat (c_y + sat (a_y * -1)))) (crN (sat (b_x + sat (a_x * -1))) (sat (b_y + sat (a_y * -1))) (sat (c_x + sat (a_x * -1))) (sat (c_y + sat (a_y * -1))) (sat (b_z + sat (a_z * -1))) (sat (c_z + sat (a_z * -1)))))]))))
theorem run_tri_Normal (a_x : Int) (a_y : Int) (a_z : Int) (b_x : Int) (b_y : Int) (b_z : Int) (c_x : Int) (c_y : Int) (c_z : Int) (h_a_x : InR .i64 a_x) (h_a_y : InR .i64 a_y) (h_a_z : InR .i64 a_z) (h_b_x : InR .i64 b_x) (h_b_y : InR .i64 b_y) (h_b_z : InR .i64 b_z) (h_c_x : InR .i64 c_x) (h_c_y : InR .i64 c_y) (h_c_z : InR .i64 c_z) : (tr_tri_Normal a_x a_y a_z b_x b_y b_z c_x c_y c_z).run = some (.tuple [v3 (triU (upC a_y a_z b_y b_z c_y c_z) a_x a_y a_z b_x b_y b_z c_x c_y c_z) (triU (upC a_z a_x b_z b_x c_z c_x) a_x a_y a_z b_x b_y b_z c_x c_y c_z) (triU (upC a_x a_y b_x b_y c_x c_y) a_x a_y a_z b_x b_y b_z c_x c_y c_z), bb (triOk a_x a_y a_z b_x b_y b_z c_x c_y c_z)]) := by
  unfold tr_tri_Normal
  by_cases hp : placeB a_x a_y a_z = true ∧ placeB b_x b_y b_z = true ∧ placeB c_x c_y c_z = true
  rotate_left
  · have hz : placesB a_x a_y a_z b_x b_y b_z c_x c_y c_z = false := places_no hp
    unfold triU triOk
    rw [hz]
    cases h1 : placeB a_x a_y a_z
    · rfl
    cases h2 : placeB b_x b_y b_z
    · rfl
    cases h3 : placeB c_x c_y c_z
    · rfl
    exact absurd ⟨h1, h2, h3⟩ hp
  obtain ⟨ha, hb, hc⟩ := hp
  have hz : placesB a_x a_y a_z b_x b_y b_z c_x c_y c_z = true := by unfold placesB; rw [ha, hb, hc]; rfl
  
  obtain ⟨⟨e1, e2, e3⟩, ne⟩ := way3 ha hb
  obtain ⟨⟨f1, f2, f3⟩, nf⟩ := way3 ha hc
  obtain ⟨⟨u1, u2, u3⟩, r1, r2, r3⟩ := tri_up ha hb hc
  
  simp only [e1, e2, e3, f1, f2, f3, u1, u2, u3, ha, hb, hc]
  unfold triU triOk
  rw [hz]
  rfl

/-! skylightref11.Normal -/
def tr_skylightref11_Normal (a_x : Int) (a_y : Int) (a_z : Int) (b_x : Int) (b_y : Int) (b_z : Int) (c_x : Int) (c_y : Int) (c_z : Int) : Tr AV := Tr.node (flatB a_x a_y a_z b_x b_y b_z c_x c_y c_z) (Tr.leaf (AV.tuple [AV.agg [AV.int IntKind.i64 false 0, AV.int IntKind.i64 false 0, AV.int IntKind.i64 false 0], AV.bool false false])) (Tr.leaf (AV.tuple [AV.agg [AV.int IntKind.i64 false (unitC (crN (sat (b_y + sat (a_y * -1))) (sat (b_z + sat (a_z * -1))) (sat (c_y + sat (a_y * -1))) (sat (c_z + sat (a_z * -1))) (sat (b_x + sat (a_x * -1))) (sat (c_x + sat (a_x * -1)))) (crN (sat (b_z + sat (a_z * -1))) (sat (b_x + sat (a_x * -1))) (sat (c_z + sat (a_z * -1))) (sat (c_x + sat (a_x * -1))) (sat (b_y + sat (a_y * -1))) (sat (c_y + sat (a_y * -1)))) (crN (sat (b_x + sat (a_x * -1))) (sat (b_y + sat (a_y * -1))) (sat (c_x + sat (a_x * -1))) (sat (c_y + sat (a_y * -1))) (sat (b_z + sat (a_z * -1))) (sat (c_z + sat (a_z * -1)))) (crN (sat (b_y + sat (a_y * -1))) (sat (b_z + sat (a_z * -1))) (sat (c_y + sat (a_y * -1))) (sat (c_z + sat (a_z * -1))) (sat (b_x + sat (a_x * -1))) (sat (c_x + sat (a_x * -1))))), AV.int IntKind.i64 false (unitC (crN (sat (b_y + sat (a_y * -1))) (sat (b_z + sat (a_z * -1))) (sat (c_y + sat (a_y * -1))) (sat (c_z + sat (a_z * -1))) (sat (b_x + sat (a_x * -1))) (sat (c_x + sat (a_x * -1)))) (crN (sat (b_z + sat (a_z * -1))) (sat (b_x + sat (a_x * -1))) (sat (c_z + sat (a_z * -1))) (sat (c_x + sat (a_x * -1))) (sat (b_y + sat (a_y * -1))) (sat (c_y + sat (a_y * -1)))) (crN (sat (b_x + sat (a_x * -1))) (sat (b_y + sat (a_y * -1))) (sat (c_x + sat (a_x * -1))) (sat (c_y + sat (a_y * -1))) (sat (b_z + sat (a_z * -1))) (sat (c_z + sat (a_z * -1)))) (crN (sat (b_z + sat (a_z * -1))) (sat (b_x + sat (a_x * -1))) (sat (c_z + sat (a_z * -1))) (sat (c_x + sat (a_x * -1))) (sat (b_y + sat (a_y * -1))) (sat (c_y + sat (a_y * -1))))), AV.int IntKind.i64 false (unitC (crN (sat (b_y + sat (a_y * -1))) (sat (b_z + sat (a_z * -1))) (sat (c_y + sat (a_y * -1))) (sat (c_z + sat (a_z * -1))) (sat (b_x + sat (a_x * -1))) (sat (c_x + sat (a_x * -1)))) (crN (sat (b_z + sat (a_z * -1))) (sat (b_x + sat (a_x * -1))) (sat (c_z + sat (a_z * -1))) (sat (c_x + sat (a_x * -1))) (sat (b_y + sat (a_y * -1))) (sat (c_y + sat (a_y * -1)))) (crN (sat (b_x + sat (a_x * -1))) (sat (b_y + sat (a_y * -1))) (sat (c_x + sat (a_x * -1))) (sat (c_y + sat (a_y * -1))) (sat (b_z + sat (a_z * -1))) (sat (c_z + sat (a_z * -1)))) (crN (sat (b_x + sat (a_x * -1))) (sat (b_y + sat (a_y * -1))) (sat (c_x + sat (a_x * -1))) (sat (c_y + sat (a_y * -1))) (sat (b_z + sat (a_z * -1))) (sat (c_z + sat (a_z * -1)))))], AV.bool false (okU (crN (sat (b_y + sat (a_y * -1))) (sat (b_z + sat (a_z * -1))) (sat (c_y + sat (a_y * -1))) (sat (c_z + sat (a_z * -1))) (sat (b_x + sat (a_x * -1))) (sat (c_x + sat (a_x * -1)))) (crN (sat (b_z + sat (a_z * -1))) (sat (b_x + sat (a_x * -1))) (sat (c_z + sat (a_z * -1))) (sat (c_x + sat (a_x * -1))) (sat (b_y + sat (a_y * -1))) (sat (c_y + sat (a_y * -1)))) (crN (sat (b_x + sat (a_x * -1))) (sat (b_y + sat (a_y * -1))) (sat (c_x + sat (a_x * -1))) (sat (c_y + sat (a_y * -1))) (sat (b_z + sat (a_z * -1))) (sat (c_z + sat (a_z * -1)))))]))
theorem run_skylightref11_Normal (a_x : Int) (a_y : Int) (a_z : Int) (b_x : Int) (b_y : Int) (b_z : Int) (c_x : Int) (c_y : Int) (c_z : Int) (h_a_x : InR .i64 a_x) (h_a_y : InR .i64 a_y) (h_a_z : InR .i64 a_z) (h_b_x : InR .i64 b_x) (h_b_y : InR .i64 b_y) (h_b_z : InR .i64 b_z) (h_c_x : InR .i64 c_x) (h_c_y : InR .i64 c_y) (h_c_z : InR .i64 c_z) : (tr_skylightref11_Normal a_x a_y a_z b_x b_y b_z c_x c_y c_z).run = some (.tuple [v3 (triU (upC a_y a_z b_y b_z c_y c_z) a_x a_y a_z b_x b_y b_z c_x c_y c_z) (triU (upC a_z a_x b_z b_x c_z c_x) a_x a_y a_z b_x b_y b_z c_x c_y c_z) (triU (upC a_x a_y b_x b_y c_x c_y) a_x a_y a_z b_x b_y b_z c_x c_y c_z), bb (triOk a_x a_y a_z b_x b_y b_z c_x c_y c_z)]) := by
  unfold tr_skylightref11_Normal
  by_cases hp : placeB a_x a_y a_z = true ∧ placeB b_x b_y b_z = true ∧ placeB c_x c_y c_z = true
  rotate_left
  · have hz : placesB a_x a_y a_z b_x b_y b_z c_x c_y c_z = false := places_no hp
    unfold triU triOk
    rw [hz]
    have hf : flatB a_x a_y a_z b_x b_y b_z c_x c_y c_z = true := by unfold flatB; rw [hz]; rfl
    rw [hf]; rfl
  obtain ⟨ha, hb, hc⟩ := hp
  have hz : placesB a_x a_y a_z b_x b_y b_z c_x c_y c_z = true := by unfold placesB; rw [ha, hb, hc]; rfl
  
  obtain ⟨⟨e1, e2, e3⟩, ne⟩ := way3 ha hb
  obtain ⟨⟨f1, f2, f3⟩, nf⟩ := way3 ha hc
  obtain ⟨⟨u1, u2, u3⟩, r1, r2, r3⟩ := tri_up ha hb hc
  
  have hfl : flatB a_x a_y a_z b_x b_y b_z c_x c_y c_z = decide (upC a_y a_z b_y b_z c_y c_z = 0 ∧ upC a_z a_x b_z b_x c_z c_x = 0 ∧ upC a_x a_y b_x b_y c_x c_y = 0) := by unfold flatB; rw [hz]; rfl
  rw [hfl]
  simp only [e1, e2, e3, f1, f2, f3, u1, u2, u3]
  by_cases h0 : upC a_y a_z b_y b_z c_y c_z = 0 ∧ upC a_z a_x b_z b_x c_z c_x = 0 ∧ upC a_x a_y b_x b_y c_x c_y = 0
  · rw [decide_eq_true h0]
    unfold triU triOk
    simp only [hz, h0.1, h0.2.1, h0.2.2]
    have z : okU 0 0 0 = false := by decide
    have u0 : ∀ k, unitC 0 0 0 k = 0 := unitC_no z
    simp [Tr.run, v3, i6, bb, u0, z]
  rw [decide_eq_false h0]
  refine (run_f rfl).trans ?_
  
  unfold triU triOk
  rw [hz]
  rfl

/-! tri.Area -/
def c_tri_Area_1 (a_x : Int) (a_y : Int) (a_z : Int) (b_x : Int) (b_y : Int) (b_z : Int) (c_x : Int) (c_y : Int) (c_z : Int) : Int := whi (0 + wv (crN (sat (b_y + sat (a_y * -1))) (sat (b_z + sat (a_z * -1))) (sat (c_y + sat (a_y * -1))) (sat (c_z + sat (a_z * -1))) (sat (b_x + sat (a_x * -1))) (sat (c_x + sat (a_x * -1))) * crN (sat (b_y + sat (a_y * -1))) (sat (b_z + sat (a_z * -1))) (sat (c_y + sat (a_y * -1))) (sat (c_z + sat (a_z * -1))) (sat (b_x + sat (a_x * -1))) (sat (c_x + sat (a_x * -1))) / 18446744073709551616) (crN (sat (b_y + sat (a_y * -1))) (sat (b_z + sat (a_z * -1))) (sat (c_y + sat (a_y * -1))) (sat (c_z + sat (a_z * -1))) (sat (b_x + sat (a_x * -1))) (sat (c_x + sat (a_x * -1))) * crN (sat (b_y + sat (a_y * -1))) (sat (b_z + sat (a_z * -1))) (sat (c_y + sat (a_y * -1))) (sat (c_z + sat (a_z * -1))) (sat (b_x + sat (a_x * -1))) (sat (c_x + sat (a_x * -1))) % 18446744073709551616))
def c_tri_Area_2 (a_x : Int) (a_y : Int) (a_z : Int) (b_x : Int) (b_y : Int) (b_z : Int) (c_x : Int) (c_y : Int) (c_z : Int) : Int := wlo (0 + wv (crN (sat (b_y + sat (a_y * -1))) (sat (b_z + sat (a_z * -1))) (sat (c_y + sat (a_y * -1))) (sat (c_z + sat (a_z * -1))) (sat (b_x + sat (a_x * -1))) (sat (c_x + sat (a_x * -1))) * crN (sat (b_y + sat (a_y * -1))) (sat (b_z + sat (a_z * -1))) (sat (c_y + sat (a_y * -1))) (sat (c_z + sat (a_z * -1))) (sat (b_x + sat (a_x * -1))) (sat (c_x + sat (a_x * -1))) / 18446744073709551616) (crN (sat (b_y + sat (a_y * -1))) (sat (b_z + sat (a_z * -1))) (sat (c_y + sat (a_y * -1))) (sat (c_z + sat (a_z * -1))) (sat (b_x + sat (a_x * -1))) (sat (c_x + sat (a_x * -1))) * crN (sat (b_y + sat (a_y * -1))) (sat (b_z + sat (a_z * -1))) (sat (c_y + sat (a_y * -1))) (sat (c_z + sat (a_z * -1))) (sat (b_x + sat (a_x * -1))) (sat (c_x + sat (a_x * -1))) % 18446744073709551616))
def c_tri_Area_3 (a_x : Int) (a_y : Int) (a_z : Int) (b_x : Int) (b_y : Int) (b_z : Int) (c_x : Int) (c_y : Int) (c_z : Int) : Int := whi (wv (c_tri_Area_1 a_x a_y a_z b_x b_y b_z c_x c_y c_z) (c_tri_Area_2 a_x a_y a_z b_x b_y b_z c_x c_y c_z) + wv (crN (sat (b_z + sat (a_z * -1))) (sat (b_x + sat (a_x * -1))) (sat (c_z + sat (a_z * -1))) (sat (c_x + sat (a_x * -1))) (sat (b_y + sat (a_y * -1))) (sat (c_y + sat (a_y * -1))) * crN (sat (b_z + sat (a_z * -1))) (sat (b_x + sat (a_x * -1))) (sat (c_z + sat (a_z * -1))) (sat (c_x + sat (a_x * -1))) (sat (b_y + sat (a_y * -1))) (sat (c_y + sat (a_y * -1))) / 18446744073709551616) (crN (sat (b_z + sat (a_z * -1))) (sat (b_x + sat (a_x * -1))) (sat (c_z + sat (a_z * -1))) (sat (c_x + sat (a_x * -1))) (sat (b_y + sat (a_y * -1))) (sat (c_y + sat (a_y * -1))) * crN (sat (b_z + sat (a_z * -1))) (sat (b_x + sat (a_x * -1))) (sat (c_z + sat (a_z * -1))) (sat (c_x + sat (a_x * -1))) (sat (b_y + sat (a_y * -1))) (sat (c_y + sat (a_y * -1))) % 18446744073709551616))
def c_tri_Area_4 (a_x : Int) (a_y : Int) (a_z : Int) (b_x : Int) (b_y : Int) (b_z : Int) (c_x : Int) (c_y : Int) (c_z : Int) : Int := wlo (wv (c_tri_Area_1 a_x a_y a_z b_x b_y b_z c_x c_y c_z) (c_tri_Area_2 a_x a_y a_z b_x b_y b_z c_x c_y c_z) + wv (crN (sat (b_z + sat (a_z * -1))) (sat (b_x + sat (a_x * -1))) (sat (c_z + sat (a_z * -1))) (sat (c_x + sat (a_x * -1))) (sat (b_y + sat (a_y * -1))) (sat (c_y + sat (a_y * -1))) * crN (sat (b_z + sat (a_z * -1))) (sat (b_x + sat (a_x * -1))) (sat (c_z + sat (a_z * -1))) (sat (c_x + sat (a_x * -1))) (sat (b_y + sat (a_y * -1))) (sat (c_y + sat (a_y * -1))) / 18446744073709551616) (crN (sat (b_z + sat (a_z * -1))) (sat (b_x + sat (a_x * -1))) (sat (c_z + sat (a_z * -1))) (sat (c_x + sat (a_x * -1))) (sat (b_y + sat (a_y * -1))) (sat (c_y + sat (a_y * -1))) * crN (sat (b_z + sat (a_z * -1))) (sat (b_x + sat (a_x * -1))) (sat (c_z + sat (a_z * -1))) (sat (c_x + sat (a_x * -1))) (sat (b_y + sat (a_y * -1))) (sat (c_y + sat (a_y * -1))) % 18446744073709551616))
def tr_tri_Area (a_x : Int) (a_y : Int) (a_z : Int) (b_x : Int) (b_y : Int) (b_z : Int) (c_x : Int) (c_y : Int) (c_z : Int) : Tr AV := Tr.node (!placeB a_x a_y a_z) (Tr.leaf (AV.int IntKind.i64 false 0)) (Tr.node (!placeB b_x b_y b_z) (Tr.leaf (AV.int IntKind.i64 false 0)) (Tr.node (!placeB c_x c_y c_z) (Tr.leaf (AV.int IntKind.i64 false 0)) (Tr.leaf (AV.int IntKind.i64 false (IntKind.i64.wrap (rootN (whi (wv (c_tri_Area_3 a_x a_y a_z b_x b_y b_z c_x c_y c_z) (c_tri_Area_4 a_x a_y a_z b_x b_y b_z c_x c_y c_z) + wv (crN (sat (b_x + sat (a_x * -1))) (sat (b_y + sat (a_y * -1))) (sat (c_x + sat (a_x * -1))) (sat (c_y + sat (a_y * -1))) (sat (b_z + sat (a_z * -1))) (sat (c_z + sat (a_z * -1))) * crN (sat (b_x + sat (a_x * -1))) (sat (b_y + sat (a_y * -1))) (sat (c_x + sat (a_x * -1))) (sat (c_y + sat (a_y * -1))) (sat (b_z + sat (a_z * -1))) (sat (c_z + sat (a_z * -1))) / 18446744073709551616) (crN (sat (b_x + sat (a_x * -1))) (sat (b_y + sat (a_y * -1))) (sat (c_x + sat (a_x * -1))) (sat (c_y + sat (a_y * -1))) (sat (b_z + sat (a_z * -1))) (sat (c_z + sat (a_z * -1))) * crN (sat (b_x + sat (a_x * -1))) (sat (b_y + sat (a_y * -1))) (sat (c_x + sat (a_x * -1))) (sat (c_y + sat (a_y * -1))) (sat (b_z + sat (a_z * -1))) (sat (c_z + sat (a_z * -1))) % 18446744073709551616))) (wlo (wv (c_tri_Area_3 a_x a_y a_z b_x b_y b_z c_x c_y c_z) (c_tri_Area_4 a_x a_y a_z b_x b_y b_z c_x c_y c_z) + wv (crN (sat (b_x + sat (a_x * -1))) (sat (b_y + sat (a_y * -1))) (sat (c_x + sat (a_x * -1))) (sat (c_y + sat (a_y * -1))) (sat (b_z + sat (a_z * -1))) (sat (c_z + sat (a_z * -1))) * crN (sat (b_x + sat (a_x * -1))) (sat (b_y + sat (a_y * -1))) (sat (c_x + sat (a_x * -1))) (sat (c_y + sat (a_y * -1))) (sat (b_z + sat (a_z * -1))) (sat (c_z + sat (a_z * -1))) / 18446744073709551616) (crN (sat (b_x + sat (a_x * -1))) (sat (b_y + sat (a_y * -1))) (sat (c_x + sat (a_x * -1))) (sat (c_y + sat (a_y * -1))) (sat (b_z + sat (a_z * -1))) (sat (c_z + sat (a_z * -1))) * crN (sat (b_x + sat (a_x * -1))) (sat (b_y + sat (a_y * -1))) (sat (c_x + sat (a_x * -1))) (sat (c_y + sat (a_y * -1))) (sat (b_z + sat (a_z * -1))) (sat (c_z + sat (a_z * -1))) % 18446744073709551616)))))))))
theorem run_tri_Area (a_x : Int) (a_y : Int) (a_z : Int) (b_x : Int) (b_y : Int) (b_z : Int) (c_x : Int) (c_y : Int) (c_z : Int) (h_a_x : InR .i64 a_x) (h_a_y : InR .i64 a_y) (h_a_z : InR .i64 a_z) (h_b_x : InR .i64 b_x) (h_b_y : InR .i64 b_y) (h_b_z : InR .i64 b_z) (h_c_x : InR .i64 c_x) (h_c_y : InR .i64 c_y) (h_c_z : InR .i64 c_z) : (tr_tri_Area a_x a_y a_z b_x b_y b_z c_x c_y c_z).run = some (i6 (areaN a_x a_y a_z b_x b_y b_z c_x c_y c_z)) := by
  unfold tr_tri_Area
  by_cases hp : placeB a_x a_y a_z = true ∧ placeB b_x b_y b_z = true ∧ placeB c_x c_y c_z = true
  rotate_left
  · have hz : placesB a_x a_y a_z b_x b_y b_z c_x c_y c_z = false := places_no hp
    unfold areaN
    rw [hz]
    cases h1 : placeB a_x a_y a_z
    · rfl
    cases h2 : placeB b_x b_y b_z
    · rfl
    cases h3 : placeB c_x c_y c_z
    · rfl
    exact absurd ⟨h1, h2, h3⟩ hp
  obtain ⟨ha, hb, hc⟩ := hp
  have hz : placesB a_x a_y a_z b_x b_y b_z c_x c_y c_z = true := by unfold placesB; rw [ha, hb, hc]; rfl
  
  obtain ⟨⟨e1, e2, e3⟩, ne⟩ := way3 ha hb
  obtain ⟨⟨f1, f2, f3⟩, nf⟩ := way3 ha hc
  obtain ⟨⟨u1, u2, u3⟩, r1, r2, r3⟩ := tri_up ha hb hc
  
  simp only [c_tri_Area_1, c_tri_Area_2, c_tri_Area_3, c_tri_Area_4, e1, e2, e3, f1, f2, f3, u1, u2, u3, ha, hb, hc, wv_split, wv_sg]
  unfold areaN up2 dotI
  rw [hz]
  rw [area_root r1 r2 r3 (by unfold sg; omega)]
  rfl

/-! skylightref11.Area -/
def c_skylightref11_Area_1 (a_x : Int) (a_y : Int) (a_z : Int) (b_x : Int) (b_y : Int) (b_z : Int) (c_x : Int) (c_y : Int) (c_z : Int) : Int := whi (crN (sat (b_y + sat (a_y * -1))) (sat (b_z + sat (a_z * -1))) (sat (c_y + sat (a_y * -1))) (sat (c_z + sat (a_z * -1))) (sat (b_x + sat (a_x * -1))) (sat (c_x + sat (a_x * -1))) * crN (sat (b_y + sat (a_y * -1))) (sat (b_z + sat (a_z * -1))) (sat (c_y + sat (a_y * -1))) (sat (c_z + sat (a_z * -1))) (sat (b_x + sat (a_x * -1))) (sat (c_x + sat (a_x * -1))))
def c_skylightref11_Area_2 (a_x : Int) (a_y : Int) (a_z : Int) (b_x : Int) (b_y : Int) (b_z : Int) (c_x : Int) (c_y : Int) (c_z : Int) : Int := wlo (crN (sat (b_y + sat (a_y * -1))) (sat (b_z + sat (a_z * -1))) (sat (c_y + sat (a_y * -1))) (sat (c_z + sat (a_z * -1))) (sat (b_x + sat (a_x * -1))) (sat (c_x + sat (a_x * -1))) * crN (sat (b_y + sat (a_y * -1))) (sat (b_z + sat (a_z * -1))) (sat (c_y + sat (a_y * -1))) (sat (c_z + sat (a_z * -1))) (sat (b_x + sat (a_x * -1))) (sat (c_x + sat (a_x * -1))))
def c_skylightref11_Area_3 (a_x : Int) (a_y : Int) (a_z : Int) (b_x : Int) (b_y : Int) (b_z : Int) (c_x : Int) (c_y : Int) (c_z : Int) : Int := whi (crN (sat (b_z + sat (a_z * -1))) (sat (b_x + sat (a_x * -1))) (sat (c_z + sat (a_z * -1))) (sat (c_x + sat (a_x * -1))) (sat (b_y + sat (a_y * -1))) (sat (c_y + sat (a_y * -1))) * crN (sat (b_z + sat (a_z * -1))) (sat (b_x + sat (a_x * -1))) (sat (c_z + sat (a_z * -1))) (sat (c_x + sat (a_x * -1))) (sat (b_y + sat (a_y * -1))) (sat (c_y + sat (a_y * -1))))
def c_skylightref11_Area_4 (a_x : Int) (a_y : Int) (a_z : Int) (b_x : Int) (b_y : Int) (b_z : Int) (c_x : Int) (c_y : Int) (c_z : Int) : Int := wlo (crN (sat (b_z + sat (a_z * -1))) (sat (b_x + sat (a_x * -1))) (sat (c_z + sat (a_z * -1))) (sat (c_x + sat (a_x * -1))) (sat (b_y + sat (a_y * -1))) (sat (c_y + sat (a_y * -1))) * crN (sat (b_z + sat (a_z * -1))) (sat (b_x + sat (a_x * -1))) (sat (c_z + sat (a_z * -1))) (sat (c_x + sat (a_x * -1))) (sat (b_y + sat (a_y * -1))) (sat (c_y + sat (a_y * -1))))
def c_skylightref11_Area_5 (a_x : Int) (a_y : Int) (a_z : Int) (b_x : Int) (b_y : Int) (b_z : Int) (c_x : Int) (c_y : Int) (c_z : Int) : Int := whi (crN (sat (b_x + sat (a_x * -1))) (sat (b_y + sat (a_y * -1))) (sat (c_x + sat (a_x * -1))) (sat (c_y + sat (a_y * -1))) (sat (b_z + sat (a_z * -1))) (sat (c_z + sat (a_z * -1))) * crN (sat (b_x + sat (a_x * -1))) (sat (b_y + sat (a_y * -1))) (sat (c_x + sat (a_x * -1))) (sat (c_y + sat (a_y * -1))) (sat (b_z + sat (a_z * -1))) (sat (c_z + sat (a_z * -1))))
def c_skylightref11_Area_6 (a_x : Int) (a_y : Int) (a_z : Int) (b_x : Int) (b_y : Int) (b_z : Int) (c_x : Int) (c_y : Int) (c_z : Int) : Int := wlo (crN (sat (b_x + sat (a_x * -1))) (sat (b_y + sat (a_y * -1))) (sat (c_x + sat (a_x * -1))) (sat (c_y + sat (a_y * -1))) (sat (b_z + sat (a_z * -1))) (sat (c_z + sat (a_z * -1))) * crN (sat (b_x + sat (a_x * -1))) (sat (b_y + sat (a_y * -1))) (sat (c_x + sat (a_x * -1))) (sat (c_y + sat (a_y * -1))) (sat (b_z + sat (a_z * -1))) (sat (c_z + sat (a_z * -1))))
def c_skylightref11_Area_7 (a_x : Int) (a_y : Int) (a_z : Int) (b_x : Int) (b_y : Int) (b_z : Int) (c_x : Int) (c_y : Int) (c_z : Int) : Int := whi (wv (c_skylightref11_Area_3 a_x a_y a_z b_x b_y b_z c_x c_y c_z) (c_skylightref11_Area_4 a_x a_y a_z b_x b_y b_z c_x c_y c_z) + wv (c_skylightref11_Area_5 a_x a_y a_z b_x b_y b_z c_x c_y c_z) (c_skylightref11_Area_6 a_x a_y a_z b_x b_y b_z c_x c_y c_z))
def c_skylightref11_Area_8 (a_x : Int) (a_y : Int) (a_z : Int) (b_x : Int) (b_y : Int) (b_z : Int) (c_x : Int) (c_y : Int) (c_z : Int) : Int := wlo (wv (c_skylightref11_Area_3 a_x a_y a_z b_x b_y b_z c_x c_y c_z) (c_skylightref11_Area_4 a_x a_y a_z b_x b_y b_z c_x c_y c_z) + wv (c_skylightref11_Area_5 a_x a_y a_z b_x b_y b_z c_x c_y c_z) (c_skylightref11_Area_6 a_x a_y a_z b_x b_y b_z c_x c_y c_z))
def tr_skylightref11_Area (a_x : Int) (a_y : Int) (a_z : Int) (b_x : Int) (b_y : Int) (b_z : Int) (c_x : Int) (c_y : Int) (c_z : Int) : Tr AV := Tr.node (flatB a_x a_y a_z b_x b_y b_z c_x c_y c_z) (Tr.leaf (AV.int IntKind.i64 false 0)) (Tr.leaf (AV.int IntKind.i64 false (IntKind.i64.wrap (rootN (whi (wv (c_skylightref11_Area_1 a_x a_y a_z b_x b_y b_z c_x c_y c_z) (c_skylightref11_Area_2 a_x a_y a_z b_x b_y b_z c_x c_y c_z) + wv (c_skylightref11_Area_7 a_x a_y a_z b_x b_y b_z c_x c_y c_z) (c_skylightref11_Area_8 a_x a_y a_z b_x b_y b_z c_x c_y c_z))) (wlo (wv (c_skylightref11_Area_1 a_x a_y a_z b_x b_y b_z c_x c_y c_z) (c_skylightref11_Area_2 a_x a_y a_z b_x b_y b_z c_x c_y c_z) + wv (c_skylightref11_Area_7 a_x a_y a_z b_x b_y b_z c_x c_y c_z) (c_skylightref11_Area_8 a_x a_y a_z b_x b_y b_z c_x c_y c_z)))))))
theorem run_skylightref11_Area (a_x : Int) (a_y : Int) (a_z : Int) (b_x : Int) (b_y : Int) (b_z : Int) (c_x : Int) (c_y : Int) (c_z : Int) (h_a_x : InR .i64 a_x) (h_a_y : InR .i64 a_y) (h_a_z : InR .i64 a_z) (h_b_x : InR .i64 b_x) (h_b_y : InR .i64 b_y) (h_b_z : InR .i64 b_z) (h_c_x : InR .i64 c_x) (h_c_y : InR .i64 c_y) (h_c_z : InR .i64 c_z) : (tr_skylightref11_Area a_x a_y a_z b_x b_y b_z c_x c_y c_z).run = some (i6 (areaN a_x a_y a_z b_x b_y b_z c_x c_y c_z)) := by
  unfold tr_skylightref11_Area
  by_cases hp : placeB a_x a_y a_z = true ∧ placeB b_x b_y b_z = true ∧ placeB c_x c_y c_z = true
  rotate_left
  · have hz : placesB a_x a_y a_z b_x b_y b_z c_x c_y c_z = false := places_no hp
    unfold areaN up2 dotI
    rw [hz]
    have hf : flatB a_x a_y a_z b_x b_y b_z c_x c_y c_z = true := by unfold flatB; rw [hz]; rfl
    rw [hf]; rfl
  obtain ⟨ha, hb, hc⟩ := hp
  have hz : placesB a_x a_y a_z b_x b_y b_z c_x c_y c_z = true := by unfold placesB; rw [ha, hb, hc]; rfl
  
  obtain ⟨⟨e1, e2, e3⟩, ne⟩ := way3 ha hb
  obtain ⟨⟨f1, f2, f3⟩, nf⟩ := way3 ha hc
  obtain ⟨⟨u1, u2, u3⟩, r1, r2, r3⟩ := tri_up ha hb hc
  
  have hfl : flatB a_x a_y a_z b_x b_y b_z c_x c_y c_z = decide (upC a_y a_z b_y b_z c_y c_z = 0 ∧ upC a_z a_x b_z b_x c_z c_x = 0 ∧ upC a_x a_y b_x b_y c_x c_y = 0) := by unfold flatB; rw [hz]; rfl
  rw [hfl]
  simp only [c_skylightref11_Area_1, c_skylightref11_Area_2, c_skylightref11_Area_3, c_skylightref11_Area_4, c_skylightref11_Area_5, c_skylightref11_Area_6, c_skylightref11_Area_7, c_skylightref11_Area_8, wv_sg, e1, e2, e3, f1, f2, f3, u1, u2, u3]
  by_cases h0 : upC a_y a_z b_y b_z c_y c_z = 0 ∧ upC a_z a_x b_z b_x c_z c_x = 0 ∧ upC a_x a_y b_x b_y c_x c_y = 0
  · rw [decide_eq_true h0]
    unfold areaN up2 dotI
    simp only [hz, h0.1, h0.2.1, h0.2.2]
    rfl
  rw [decide_eq_false h0]
  refine (run_f rfl).trans ?_
  
  unfold areaN up2 dotI
  rw [hz]
  rw [area_root r1 r2 r3 (by unfold sg; omega)]
  rfl

/-! tri.Hit -/
def c_tri_Hit_1 (a_x : Int) (a_y : Int) (a_z : Int) (b_x : Int) (b_y : Int) (b_z : Int) (c_x : Int) (c_y : Int) (c_z : Int) (r_d_x : Int) (r_d_y : Int) (r_d_z : Int) : Int := IntKind.i64.wrap (0 - volN (sat (b_x + sat (a_x * -1))) (sat (b_y + sat (a_y * -1))) (sat (b_z + sat (a_z * -1))) (sat (c_x + sat (a_x * -1))) (sat (c_y + sat (a_y * -1))) (sat (c_z + sat (a_z * -1))) r_d_x r_d_y r_d_z)
def c_tri_Hit_2 (a_x : Int) (a_y : Int) (a_z : Int) (b_x : Int) (b_y : Int) (b_z : Int) (c_x : Int) (c_y : Int) (c_z : Int) (r_o_x : Int) (r_o_y : Int) (r_o_z : Int) : Int := IntKind.i64.wrap (0 - volN (sat (b_x + sat (a_x * -1))) (sat (b_y + sat (a_y * -1))) (sat (b_z + sat (a_z * -1))) (sat (c_x + sat (a_x * -1))) (sat (c_y + sat (a_y * -1))) (sat (c_z + sat (a_z * -1))) (sat (r_o_x + sat (a_x * -1))) (sat (r_o_y + sat (a_y * -1))) (sat (r_o_z + sat (a_z * -1))))
def c_tri_Hit_3 (a_x : Int) (a_y : Int) (a_z : Int) (b_x : Int) (b_y : Int) (b_z : Int) (c_x : Int) (c_y : Int) (c_z : Int) (r_o_x : Int) (r_o_y : Int) (r_o_z : Int) : Int := IntKind.i64.wrap (0 - IntKind.i64.wrap (0 - volN (sat (b_x + sat (a_x * -1))) (sat (b_y + sat (a_y * -1))) (sat (b_z + sat (a_z * -1))) (sat (c_x + sat (a_x * -1))) (sat (c_y + sat (a_y * -1))) (sat (c_z + sat (a_z * -1))) (sat (r_o_x + sat (a_x * -1))) (sat (r_o_y + sat (a_y * -1))) (sat (r_o_z + sat (a_z * -1)))))
def tr_tri_Hit (a_x : Int) (a_y : Int) (a_z : Int) (b_x : Int) (b_y : Int) (b_z : Int) (c_x : Int) (c_y : Int) (c_z : Int) (r_o_x : Int) (r_o_y : Int) (r_o_z : Int) (r_d_x : Int) (r_d_y : Int) (r_d_z : Int) (r_f : Int) : Tr AV := Tr.node (!placeB a_x a_y a_z) (Tr.leaf (AV.tuple [AV.agg [AV.int IntKind.i64 false 0, AV.int IntKind.i64 false 0], AV.bool false false])) (Tr.node (!placeB b_x b_y b_z) (Tr.leaf (AV.tuple [AV.agg [AV.int IntKind.i64 false 0, AV.int IntKind.i64 false 0], AV.bool false false])) (Tr.node (!placeB c_x c_y c_z) (Tr.leaf (AV.tuple [AV.agg [AV.int IntKind.i64 false 0, AV.int IntKind.i64 false 0], AV.bool false false])) (Tr.node (!placeB r_o_x r_o_y r_o_z) (Tr.leaf (AV.tuple [AV.agg [AV.int IntKind.i64 false 0, AV.int IntKind.i64 false 0], AV.bool false false])) (Tr.node (!nearB r_d_x r_d_y r_d_z) (Tr.leaf (AV.tuple [AV.agg [AV.int IntKind.i64 false 0, AV.int IntKind.i64 false 0], AV.bool false false])) (Tr.node (decide (volN (sat (b_x + sat (a_x * -1))) (sat (b_y + sat (a_y * -1))) (sat (b_z + sat (a_z * -1))) (sat (c_x + sat (a_x * -1))) (sat (c_y + sat (a_y * -1))) (sat (c_z + sat (a_z * -1))) r_d_x r_d_y r_d_z < 0)) (Tr.node (volN (sat (b_x + sat (a_x * -1))) (sat (b_y + sat (a_y * -1))) (sat (b_z + sat (a_z * -1))) (sat (c_x + sat (a_x * -1))) (sat (c_y + sat (a_y * -1))) (sat (c_z + sat (a_z * -1))) r_d_x r_d_y r_d_z == 0) (Tr.leaf (AV.tuple [AV.agg [AV.int IntKind.i64 false 0, AV.int IntKind.i64 false 0], AV.bool false false])) (Tr.node (mm false (c_tri_Hit_2 a_x a_y a_z b_x b_y b_z c_x c_y c_z r_o_x r_o_y r_o_z) (volN (sat (b_x + sat (a_x * -1))) (sat (b_y + sat (a_y * -1))) (sat (b_z + sat (a_z * -1))) (sat (c_x + sat (a_x * -1))) (sat (c_y + sat (a_y * -1))) (sat (c_z + sat (a_z * -1))) r_d_x r_d_y r_d_z) == -9223372036854775808) (Tr.leaf (AV.tuple [AV.agg [AV.int IntKind.i64 false 0, AV.int IntKind.i64 false 0], AV.bool false false])) (Tr.node (decide (volN (sat (b_x + sat (a_x * -1))) (sat (b_y + sat (a_y * -1))) (sat (b_z + sat (a_z * -1))) (sat (c_x + sat (a_x * -1))) (sat (c_y + sat (a_y * -1))) (sat (c_z + sat (a_z * -1))) r_d_x r_d_y r_d_z < 0)) (Tr.node (decide (IntKind.i64.wrap (0 - volN (sat (r_o_x + sat (a_x * -1))) (sat (r_o_y + sat (a_y * -1))) (sat (r_o_z + sat (a_z * -1))) (sat (c_x + sat (a_x * -1))) (sat (c_y + sat (a_y * -1))) (sat (c_z + sat (a_z * -1))) r_d_x r_d_y r_d_z) < 0)) (Tr.leaf (AV.tuple [AV.agg [AV.int IntKind.i64 false 0, AV.int IntKind.i64 false 0], AV.bool false false])) (Tr.node (decide (IntKind.i64.wrap (0 - volN (sat (b_x + sat (a_x * -1))) (sat (b_y + sat (a_y * -1))) (sat (b_z + sat (a_z * -1))) (sat (r_o_x + sat (a_x * -1))) (sat (r_o_y + sat (a_y * -1))) (sat (r_o_z + sat (a_z * -1))) r_d_x r_d_y r_d_z) < 0)) (Tr.leaf (AV.tuple [AV.agg [AV.int IntKind.i64 false 0, AV.int IntKind.i64 false 0], AV.bool false false])) (Tr.node (decide (IntKind.i64.wrap (0 - volN (sat (r_o_x + sat (a_x * -1))) (sat (r_o_y + sat (a_y * -1))) (sat (r_o_z + sat (a_z * -1))) (sat (c_x + sat (a_x * -1))) (sat (c_y + sat (a_y * -1))) (sat (c_z + sat (a_z * -1))) r_d_x r_d_y r_d_z) > IntKind.i64.wrap (IntKind.i64.wrap (0 - volN (sat (b_x + sat (a_x * -1))) (sat (b_y + sat (a_y * -1))) (sat (b_z + sat (a_z * -1))) (sat (c_x + sat (a_x * -1))) (sat (c_y + sat (a_y * -1))) (sat (c_z + sat (a_z * -1))) r_d_x r_d_y r_d_z) - IntKind.i64.wrap (0 - volN (sat (b_x + sat (a_x * -1))) (sat (b_y + sat (a_y * -1))) (sat (b_z + sat (a_z * -1))) (sat (r_o_x + sat (a_x * -1))) (sat (r_o_y + sat (a_y * -1))) (sat (r_o_z + sat (a_z * -1))) r_d_x r_d_y r_d_z)))) (Tr.leaf (AV.tuple [AV.agg [AV.int IntKind.i64 false 0, AV.int IntKind.i64 false 0], AV.bool false false])) (Tr.node (decide (IntKind.i64.wrap (0 - IntKind.i64.wrap (0 - volN (sat (b_x + sat (a_x * -1))) (sat (b_y + sat (a_y * -1))) (sat (b_z + sat (a_z * -1))) (sat (c_x + sat (a_x * -1))) (sat (c_y + sat (a_y * -1))) (sat (c_z + sat (a_z * -1))) (sat (r_o_x + sat (a_x * -1))) (sat (r_o_y + sat (a_y * -1))) (sat (r_o_z + sat (a_z * -1))))) ≤ 0)) (Tr.leaf (AV.tuple [AV.agg [AV.int IntKind.i64 false 0, AV.int IntKind.i64 false 0], AV.bool false false])) (Tr.leaf (AV.tuple [AV.agg [AV.int IntKind.i64 false (c_tri_Hit_3 a_x a_y a_z b_x b_y b_z c_x c_y c_z r_o_x r_o_y r_o_z), AV.int IntKind.i64 false (c_tri_Hit_1 a_x a_y a_z b_x b_y b_z c_x c_y c_z r_d_x r_d_y r_d_z)], AV.bool false true])))))) (Tr.node (decide (IntKind.i64.wrap (0 - volN (sat (r_o_x + sat (a_x * -1))) (sat (r_o_y + sat (a_y * -1))) (sat (r_o_z + sat (a_z * -1))) (sat (c_x + sat (a_x * -1))) (sat (c_y + sat (a_y * -1))) (sat (c_z + sat (a_z * -1))) r_d_x r_d_y r_d_z) < 0)) (Tr.leaf (AV.tuple [AV.agg [AV.int IntKind.i64 false 0, AV.int IntKind.i64 false 0], AV.bool false false])) (Tr.node (decide (IntKind.i64.wrap (0 - volN (sat (b_x + sat (a_x * -1))) (sat (b_y + sat (a_y * -1))) (sat (b_z + sat (a_z * -1))) (sat (r_o_x + sat (a_x * -1))) (sat (r_o_y + sat (a_y * -1))) (sat (r_o_z + sat (a_z * -1))) r_d_x r_d_y r_d_z) < 0)) (Tr.leaf (AV.tuple [AV.agg [AV.int IntKind.i64 false 0, AV.int IntKind.i64 false 0], AV.bool false false])) (Tr.node (decide (IntKind.i64.wrap (0 - volN (sat (r_o_x + sat (a_x * -1))) (sat (r_o_y + sat (a_y * -1))) (sat (r_o_z + sat (a_z * -1))) (sat (c_x + sat (a_x * -1))) (sat (c_y + sat (a_y * -1))) (sat (c_z + sat (a_z * -1))) r_d_x r_d_y r_d_z) > IntKind.i64.wrap (volN (sat (b_x + sat (a_x * -1))) (sat (b_y + sat (a_y * -1))) (sat (b_z + sat (a_z * -1))) (sat (c_x + sat (a_x * -1))) (sat (c_y + sat (a_y * -1))) (sat (c_z + sat (a_z * -1))) r_d_x r_d_y r_d_z - IntKind.i64.wrap (0 - volN (sat (b_x + sat (a_x * -1))) (sat (b_y + sat (a_y * -1))) (sat (b_z + sat (a_z * -1))) (sat (r_o_x + sat (a_x * -1))) (sat (r_o_y + sat (a_y * -1))) (sat (r_o_z + sat (a_z * -1))) r_d_x r_d_y r_d_z)))) (Tr.leaf (AV.tuple [AV.agg [AV.int IntKind.i64 false 0, AV.int IntKind.i64 false 0], AV.bool false false])) (Tr.node (decide (IntKind.i64.wrap (0 - volN (sat (b_x + sat (a_x * -1))) (sat (b_y + sat (a_y * -1))) (sat (b_z + sat (a_z * -1))) (sat (c_x + sat (a_x * -1))) (sat (c_y + sat (a_y * -1))) (sat (c_z + sat (a_z * -1))) (sat (r_o_x + sat (a_x * -1))) (sat (r_o_y + sat (a_y * -1))) (sat (r_o_z + sat (a_z * -1)))) ≤ 0)) (Tr.leaf (AV.tuple [AV.agg [AV.int IntKind.i64 false 0, AV.int IntKind.i64 false 0], AV.bool false false])) (Tr.leaf (AV.tuple [AV.agg [AV.int IntKind.i64 false (c_tri_Hit_2 a_x a_y a_z b_x b_y b_z c_x c_y c_z r_o_x r_o_y r_o_z), AV.int IntKind.i64 false (volN (sat (b_x + sat (a_x * -1))) (sat (b_y + sat (a_y * -1))) (sat (b_z + sat (a_z * -1))) (sat (c_x + sat (a_x * -1))) (sat (c_y + sat (a_y * -1))) (sat (c_z + sat (a_z * -1))) r_d_x r_d_y r_d_z)], AV.bool false true]))))))))) (Tr.node (volN (sat (b_x + sat (a_x * -1))) (sat (b_y + sat (a_y * -1))) (sat (b_z + sat (a_z * -1))) (sat (c_x + sat (a_x * -1))) (sat (c_y + sat (a_y * -1))) (sat (c_z + sat (a_z * -1))) r_d_x r_d_y r_d_z == 0) (Tr.leaf (AV.tuple [AV.agg [AV.int IntKind.i64 false 0, AV.int IntKind.i64 false 0], AV.bool false false])) (Tr.node (mm false (c_tri_Hit_2 a_x a_y a_z b_x b_y b_z c_x c_y c_z r_o_x r_o_y r_o_z) (volN (sat (b_x + sat (a_x * -1))) (sat (b_y + sat (a_y * -1))) (sat (b_z + sat (a_z * -1))) (sat (c_x + sat (a_x * -1))) (sat (c_y + sat (a_y * -1))) (sat (c_z + sat (a_z * -1))) r_d_x r_d_y r_d_z) == -9223372036854775808) (Tr.leaf (AV.tuple [AV.agg [AV.int IntKind.i64 false 0, AV.int IntKind.i64 false 0], AV.bool false false])) (Tr.node (decide (volN (sat (b_x + sat (a_x * -1))) (sat (b_y + sat (a_y * -1))) (sat (b_z + sat (a_z * -1))) (sat (c_x + sat (a_x * -1))) (sat (c_y + sat (a_y * -1))) (sat (c_z + sat (a_z * -1))) r_d_x r_d_y r_d_z < 0)) (Tr.node (decide (volN (sat (r_o_x + sat (a_x * -1))) (sat (r_o_y + sat (a_y * -1))) (sat (r_o_z + sat (a_z * -1))) (sat (c_x + sat (a_x * -1))) (sat (c_y + sat (a_y * -1))) (sat (c_z + sat (a_z * -1))) r_d_x r_d_y r_d_z < 0)) (Tr.leaf (AV.tuple [AV.agg [AV.int IntKind.i64 false 0, AV.int IntKind.i64 false 0], AV.bool false false])) (Tr.node (decide (volN (sat (b_x + sat (a_x * -1))) (sat (b_y + sat (a_y * -1))) (sat (b_z + sat (a_z * -1))) (sat (r_o_x + sat (a_x * -1))) (sat (r_o_y + sat (a_y * -1))) (sat (r_o_z + sat (a_z * -1))) r_d_x r_d_y r_d_z < 0)) (Tr.leaf (AV.tuple [AV.agg [AV.int IntKind.i64 false 0, AV.int IntKind.i64 false 0], AV.bool false false])) (Tr.node (decide (volN (sat (r_o_x + sat (a_x * -1))) (sat (r_o_y + sat (a_y * -1))) (sat (r_o_z + sat (a_z * -1))) (sat (c_x + sat (a_x * -1))) (sat (c_y + sat (a_y * -1))) (sat (c_z + sat (a_z * -1))) r_d_x r_d_y r_d_z > IntKind.i64.wrap (IntKind.i64.wrap (0 - volN (sat (b_x + sat (a_x * -1))) (sat (b_y + sat (a_y * -1))) (sat (b_z + sat (a_z * -1))) (sat (c_x + sat (a_x * -1))) (sat (c_y + sat (a_y * -1))) (sat (c_z + sat (a_z * -1))) r_d_x r_d_y r_d_z) - volN (sat (b_x + sat (a_x * -1))) (sat (b_y + sat (a_y * -1))) (sat (b_z + sat (a_z * -1))) (sat (r_o_x + sat (a_x * -1))) (sat (r_o_y + sat (a_y * -1))) (sat (r_o_z + sat (a_z * -1))) r_d_x r_d_y r_d_z))) (Tr.leaf (AV.tuple [AV.agg [AV.int IntKind.i64 false 0, AV.int IntKind.i64 false 0], AV.bool false false])) (Tr.node (decide (IntKind.i64.wrap (0 - IntKind.i64.wrap (0 - volN (sat (b_x + sat (a_x * -1))) (sat (b_y + sat (a_y * -1))) (sat (b_z + sat (a_z * -1))) (sat (c_x + sat (a_x * -1))) (sat (c_y + sat (a_y * -1))) (sat (c_z + sat (a_z * -1))) (sat (r_o_x + sat (a_x * -1))) (sat (r_o_y + sat (a_y * -1))) (sat (r_o_z + sat (a_z * -1))))) ≤ 0)) (Tr.leaf (AV.tuple [AV.agg [AV.int IntKind.i64 false 0, AV.int IntKind.i64 false 0], AV.bool false false])) (Tr.leaf (AV.tuple [AV.agg [AV.int IntKind.i64 false (c_tri_Hit_3 a_x a_y a_z b_x b_y b_z c_x c_y c_z r_o_x r_o_y r_o_z), AV.int IntKind.i64 false (c_tri_Hit_1 a_x a_y a_z b_x b_y b_z c_x c_y c_z r_d_x r_d_y r_d_z)], AV.bool false true])))))) (Tr.node (decide (volN (sat (r_o_x + sat (a_x * -1))) (sat (r_o_y + sat (a_y * -1))) (sat (r_o_z + sat (a_z * -1))) (sat (c_x + sat (a_x * -1))) (sat (c_y + sat (a_y * -1))) (sat (c_z + sat (a_z * -1))) r_d_x r_d_y r_d_z < 0)) (Tr.leaf (AV.tuple [AV.agg [AV.int IntKind.i64 false 0, AV.int IntKind.i64 false 0], AV.bool false false])) (Tr.node (decide (volN (sat (b_x + sat (a_x * -1))) (sat (b_y + sat (a_y * -1))) (sat (b_z + sat (a_z * -1))) (sat (r_o_x + sat (a_x * -1))) (sat (r_o_y + sat (a_y * -1))) (sat (r_o_z + sat (a_z * -1))) r_d_x r_d_y r_d_z < 0)) (Tr.leaf (AV.tuple [AV.agg [AV.int IntKind.i64 false 0, AV.int IntKind.i64 false 0], AV.bool false false])) (Tr.node (decide (volN (sat (r_o_x + sat (a_x * -1))) (sat (r_o_y + sat (a_y * -1))) (sat (r_o_z + sat (a_z * -1))) (sat (c_x + sat (a_x * -1))) (sat (c_y + sat (a_y * -1))) (sat (c_z + sat (a_z * -1))) r_d_x r_d_y r_d_z > IntKind.i64.wrap (volN (sat (b_x + sat (a_x * -1))) (sat (b_y + sat (a_y * -1))) (sat (b_z + sat (a_z * -1))) (sat (c_x + sat (a_x * -1))) (sat (c_y + sat (a_y * -1))) (sat (c_z + sat (a_z * -1))) r_d_x r_d_y r_d_z - volN (sat (b_x + sat (a_x * -1))) (sat (b_y + sat (a_y * -1))) (sat (b_z + sat (a_z * -1))) (sat (r_o_x + sat (a_x * -1))) (sat (r_o_y + sat (a_y * -1))) (sat (r_o_z + sat (a_z * -1))) r_d_x r_d_y r_d_z))) (Tr.leaf (AV.tuple [AV.agg [AV.int IntKind.i64 false 0, AV.int IntKind.i64 false 0], AV.bool false false])) (Tr.node (decide (IntKind.i64.wrap (0 - volN (sat (b_x + sat (a_x * -1))) (sat (b_y + sat (a_y * -1))) (sat (b_z + sat (a_z * -1))) (sat (c_x + sat (a_x * -1))) (sat (c_y + sat (a_y * -1))) (sat (c_z + sat (a_z * -1))) (sat (r_o_x + sat (a_x * -1))) (sat (r_o_y + sat (a_y * -1))) (sat (r_o_z + sat (a_z * -1)))) ≤ 0)) (Tr.leaf (AV.tuple [AV.agg [AV.int IntKind.i64 false 0, AV.int IntKind.i64 false 0], AV.bool false false])) (Tr.leaf (AV.tuple [AV.agg [AV.int IntKind.i64 false (c_tri_Hit_2 a_x a_y a_z b_x b_y b_z c_x c_y c_z r_o_x r_o_y r_o_z), AV.int IntKind.i64 false (volN (sat (b_x + sat (a_x * -1))) (sat (b_y + sat (a_y * -1))) (sat (b_z + sat (a_z * -1))) (sat (c_x + sat (a_x * -1))) (sat (c_y + sat (a_y * -1))) (sat (c_z + sat (a_z * -1))) r_d_x r_d_y r_d_z)], AV.bool false true]))))))))))))))
theorem run_tri_Hit (a_x : Int) (a_y : Int) (a_z : Int) (b_x : Int) (b_y : Int) (b_z : Int) (c_x : Int) (c_y : Int) (c_z : Int) (r_o_x : Int) (r_o_y : Int) (r_o_z : Int) (r_d_x : Int) (r_d_y : Int) (r_d_z : Int) (r_f : Int) (h_a_x : InR .i64 a_x) (h_a_y : InR .i64 a_y) (h_a_z : InR .i64 a_z) (h_b_x : InR .i64 b_x) (h_b_y : InR .i64 b_y) (h_b_z : InR .i64 b_z) (h_c_x : InR .i64 c_x) (h_c_y : InR .i64 c_y) (h_c_z : InR .i64 c_z) (h_r_o_x : InR .i64 r_o_x) (h_r_o_y : InR .i64 r_o_y) (h_r_o_z : InR .i64 r_o_z) (h_r_d_x : InR .i64 r_d_x) (h_r_d_y : InR .i64 r_d_y) (h_r_d_z : InR .i64 r_d_z) (h_r_f : InR .i64 r_f) : (tr_tri_Hit a_x a_y a_z b_x b_y b_z c_x c_y c_z r_o_x r_o_y r_o_z r_d_x r_d_y r_d_z r_f).run = some (.tuple [frA (tNum a_x a_y a_z b_x b_y b_z c_x c_y c_z r_o_x r_o_y r_o_z r_d_x r_d_y r_d_z) (tDen a_x a_y a_z b_x b_y b_z c_x c_y c_z r_o_x r_o_y r_o_z r_d_x r_d_y r_d_z), bb (tOk a_x a_y a_z b_x b_y b_z c_x c_y c_z r_o_x r_o_y r_o_z r_d_x r_d_y r_d_z)]) := by
  unfold tr_tri_Hit
  by_cases hm : tMay a_x a_y a_z b_x b_y b_z c_x c_y c_z r_o_x r_o_y r_o_z r_d_x r_d_y r_d_z = true
  rotate_left
  · have ok : tOk a_x a_y a_z b_x b_y b_z c_x c_y c_z r_o_x r_o_y r_o_z r_d_x r_d_y r_d_z = false := by unfold tOk; rw [Bool.not_eq_true] at hm; rw [hm]; rfl
    unfold tNum tDen
    rw [ok]
    cases h1 : placeB a_x a_y a_z
    · rfl
    cases h2 : placeB b_x b_y b_z
    · rfl
    cases h3 : placeB c_x c_y c_z
    · rfl
    cases h4 : placeB r_o_x r_o_y r_o_z
    · rfl
    cases h5 : nearB r_d_x r_d_y r_d_z
    · rfl
    exact absurd (by unfold tMay placesB; rw [h1, h2, h3, h4, h5]; rfl) hm
  obtain ⟨⟨ha, hb, hc⟩, ho, hd⟩ := tMay_r hm
  obtain ⟨⟨e1, e2, e3⟩, ne⟩ := way3 ha hb
  obtain ⟨⟨f1, f2, f3⟩, nf⟩ := way3 ha hc
  obtain ⟨⟨s1, s2, s3⟩, ns⟩ := way3 ha ho
  obtain ⟨⟨p1, p2, p3⟩, np⟩ := way3 ho ha
  obtain ⟨⟨q1, q2, q3⟩, nq⟩ := way3 ho hb
  obtain ⟨⟨t1, t2, t3⟩, nt⟩ := way3 ho hc
  obtain ⟨⟨v1, v2, v3_, v4⟩, ⟨w1, w2, w3, w4⟩, x1, x2, x3, x4, x5⟩ := tri_facts hm
  simp only [c_tri_Hit_1, c_tri_Hit_2, c_tri_Hit_3, e1, e2, e3, f1, f2, f3, s1, s2, s3, p1, p2, p3, q1, q2, q3, t1, t2, t3, v1, v2, v3_, v4, w1, w2, w3, w4, ha, hb, hc, ho, hd]
  have ok : tOk a_x a_y a_z b_x b_y b_z c_x c_y c_z r_o_x r_o_y r_o_z r_d_x r_d_y r_d_z = decide (oneSign (tX a_x a_y a_z b_x b_y b_z c_x c_y c_z r_o_x r_o_y r_o_z r_d_x r_d_y r_d_z) (tY a_x a_y a_z b_x b_y b_z c_x c_y c_z r_o_x r_o_y r_o_z r_d_x r_d_y r_d_z) (tZ a_x a_y a_z b_x b_y b_z c_x c_y c_z r_o_x r_o_y r_o_z r_d_x r_d_y r_d_z) (tN a_x a_y a_z b_x b_y b_z c_x c_y c_z r_o_x r_o_y r_o_z)) := by unfold tOk; rw [hm]; rfl
  unfold tNum tDen
  rw [ok]
  clear ok
  generalize tX a_x a_y a_z b_x b_y b_z c_x c_y c_z r_o_x r_o_y r_o_z r_d_x r_d_y r_d_z = X at *
  generalize tY a_x a_y a_z b_x b_y b_z c_x c_y c_z r_o_x r_o_y r_o_z r_d_x r_d_y r_d_z = Y at *
  generalize tZ a_x a_y a_z b_x b_y b_z c_x c_y c_z r_o_x r_o_y r_o_z r_d_x r_d_y r_d_z = Z at *
  generalize tN a_x a_y a_z b_x b_y b_z c_x c_y c_z r_o_x r_o_y r_o_z = N at *
  
  have y1 : IntKind.i64.wrap (0 - -N) = N := by rw [wrap_i64_id (by omega)]; omega
  have y2 : IntKind.i64.wrap (0 - N) = -N := by rw [wrap_i64_id (by omega)]; omega
  have y3 : IntKind.i64.wrap (0 - Y) = -Y := by rw [wrap_i64_id (by omega)]; omega
  have y4 : IntKind.i64.wrap (0 - Z) = -Z := by rw [wrap_i64_id (by omega)]; omega
  have y5 : IntKind.i64.wrap (0 - (X + Y + Z)) = -(X + Y + Z) := by rw [wrap_i64_id (by omega)]; omega
  simp only [y1, y2, y3, y4, y5]
  by_cases C1 : 0 ≤ X ∧ 0 ≤ Y ∧ 0 ≤ Z ∧ 0 < X + Y + Z ∧ 0 < N
  · rw [decide_eq_true (show oneSign X Y Z N from .inl C1), if_pos rfl, if_pos rfl, show sz N = N by unfold sz; omega, show sz (X + Y + Z) = X + Y + Z by unfold sz; omega]
    have y6 : IntKind.i64.wrap (X + Y + Z - Z) = X + Y := by rw [wrap_i64_id (by omega)]; omega
    simp only [y6]
    repeat (first | refine (run_t (by first | rfl | (simp only [decide_eq_true_eq, decide_eq_false_iff_not, Bool.not_eq_true', Bool.not_eq_false', beq_iff_eq, beq_eq_false_iff_ne, mm2_lt, mm2_gt, min_r, ne_eq]; omega))).trans ?_ | refine (run_f (by first | rfl | (simp only [decide_eq_true_eq, decide_eq_false_iff_not, Bool.not_eq_true', Bool.not_eq_false', beq_iff_eq, beq_eq_false_iff_ne, mm2_lt, mm2_gt, min_r, ne_eq]; omega))).trans ?_)
    rfl
  by_cases C2 : X ≤ 0 ∧ Y ≤ 0 ∧ Z ≤ 0 ∧ X + Y + Z < 0 ∧ N < 0
  · rw [decide_eq_true (show oneSign X Y Z N from .inr C2), if_pos rfl, if_pos rfl, show sz N = -N by unfold sz; omega, show sz (X + Y + Z) = -(X + Y + Z) by unfold sz; omega]
    have y6 : IntKind.i64.wrap (-(X + Y + Z) - -Z) = -X - Y := by rw [wrap_i64_id (by omega)]; omega
    simp only [y6]
    repeat (first | refine (run_t (by first | rfl | (simp only [decide_eq_true_eq, decide_eq_false_iff_not, Bool.not_eq_true', Bool.not_eq_false', beq_iff_eq, beq_eq_false_iff_ne, mm2_lt, mm2_gt, min_r, ne_eq]; omega))).trans ?_ | refine (run_f (by first | rfl | (simp only [decide_eq_true_eq, decide_eq_false_iff_not, Bool.not_eq_true', Bool.not_eq_false', beq_iff_eq, beq_eq_false_iff_ne, mm2_lt, mm2_gt, min_r, ne_eq]; omega))).trans ?_)
    rfl
  · rw [decide_eq_false (show ¬ oneSign X Y Z N from fun h => h.elim C1 C2), if_neg (by decide), if_neg (by decide)]
    by_cases hs : X + Y + Z < 0
    · by_cases hy : Y ≤ 0 ∧ Z ≤ 0
      · have y6 : IntKind.i64.wrap (-(X + Y + Z) - -Z) = -X - Y := by rw [wrap_i64_id (by omega)]; omega
        simp only [y6]
        (repeat' (first | rfl | (refine run_guard (fun _ => ?_) (fun _ => ?_)))) <;> (exfalso; simp only [Bool.not_true, Bool.false_eq_true, decide_eq_true_eq, decide_eq_false_iff_not, beq_iff_eq, beq_eq_false_iff_ne, min_r, ne_eq] at *; omega)
      · (repeat' (first | rfl | (refine run_guard (fun _ => ?_) (fun _ => ?_)))) <;> (exfalso; simp only [Bool.not_true, Bool.false_eq_true, decide_eq_true_eq, decide_eq_false_iff_not, beq_iff_eq, beq_eq_false_iff_ne, min_r, ne_eq] at *; omega)
    · by_cases hy : 0 ≤ Y ∧ 0 ≤ Z
      · have y6 : IntKind.i64.wrap (X + Y + Z - Z) = X + Y := by rw [wrap_i64_id (by omega)]; omega
        simp only [y6]
        (repeat' (first | rfl | (refine run_guard (fun _ => ?_) (fun _ => ?_)))) <;> (exfalso; simp only [Bool.not_true, Bool.false_eq_true, decide_eq_true_eq, decide_eq_false_iff_not, beq_iff_eq, beq_eq_false_iff_ne, min_r, ne_eq] at *; omega)
      · (repeat' (first | rfl | (refine run_guard (fun _ => ?_) (fun _ => ?_)))) <;> (exfalso; simp only [Bool.not_true, Bool.false_eq_true, decide_eq_true_eq, decide_eq_false_iff_not, beq_iff_eq, beq_eq_false_iff_ne, min_r, ne_eq] at *; omega)

/-! skylightref11.Hit -/
def c_skylightref11_Hit_1 (a_x : Int) (a_y : Int) (a_z : Int) (b_x : Int) (b_y : Int) (b_z : Int) (c_x : Int) (c_y : Int) (c_z : Int) (r_o_x : Int) (r_o_y : Int) (r_o_z : Int) (r_d_x : Int) (r_d_y : Int) (r_d_z : Int) : Int := IntKind.i64.wrap (IntKind.i64.wrap (volN r_d_x r_d_y r_d_z (sat (b_x + sat (r_o_x * -1))) (sat (b_y + sat (r_o_y * -1))) (sat (b_z + sat (r_o_z * -1))) (sat (c_x + sat (r_o_x * -1))) (sat (c_y + sat (r_o_y * -1))) (sat (c_z + sat (r_o_z * -1))) + volN r_d_x r_d_y r_d_z (sat (c_x + sat (r_o_x * -1))) (sat (c_y + sat (r_o_y * -1))) (sat (c_z + sat (r_o_z * -1))) (sat (a_x + sat (r_o_x * -1))) (sat (a_y + sat (r_o_y * -1))) (sat (a_z + sat (r_o_z * -1)))) + volN r_d_x r_d_y r_d_z (sat (a_x + sat (r_o_x * -1))) (sat (a_y + sat (r_o_y * -1))) (sat (a_z + sat (r_o_z * -1))) (sat (b_x + sat (r_o_x * -1))) (sat (b_y + sat (r_o_y * -1))) (sat (b_z + sat (r_o_z * -1))))
def tr_skylightref11_Hit (a_x : Int) (a_y : Int) (a_z : Int) (b_x : Int) (b_y : Int) (b_z : Int) (c_x : Int) (c_y : Int) (c_z : Int) (r_o_x : Int) (r_o_y : Int) (r_o_z : Int) (r_d_x : Int) (r_d_y : Int) (r_d_z : Int) (r_f : Int) : Tr AV := Tr.node (placeB a_x a_y a_z) (Tr.node (placeB b_x b_y b_z) (Tr.node (!placeB c_x c_y c_z) (Tr.leaf (AV.tuple [AV.agg [AV.int IntKind.i64 false 0, AV.int IntKind.i64 false 0], AV.bool false false])) (Tr.node (!placeB r_o_x r_o_y r_o_z) (Tr.leaf (AV.tuple [AV.agg [AV.int IntKind.i64 false 0, AV.int IntKind.i64 false 0], AV.bool false false])) (Tr.node (!nearB r_d_x r_d_y r_d_z) (Tr.leaf (AV.tuple [AV.agg [AV.int IntKind.i64 false 0, AV.int IntKind.i64 false 0], AV.bool false false])) (Tr.node (decide (volN r_d_x r_d_y r_d_z (sat (b_x + sat (r_o_x * -1))) (sat (b_y + sat (r_o_y * -1))) (sat (b_z + sat (r_o_z * -1))) (sat (c_x + sat (r_o_x * -1))) (sat (c_y + sat (r_o_y * -1))) (sat (c_z + sat (r_o_z * -1))) ≤ 0)) (Tr.node (decide (volN r_d_x r_d_y r_d_z (sat (c_x + sat (r_o_x * -1))) (sat (c_y + sat (r_o_y * -1))) (sat (c_z + sat (r_o_z * -1))) (sat (a_x + sat (r_o_x * -1))) (sat (a_y + sat (r_o_y * -1))) (sat (a_z + sat (r_o_z * -1))) ≤ 0)) (Tr.node (decide (volN r_d_x r_d_y r_d_z (sat (a_x + sat (r_o_x * -1))) (sat (a_y + sat (r_o_y * -1))) (sat (a_z + sat (r_o_z * -1))) (sat (b_x + sat (r_o_x * -1))) (sat (b_y + sat (r_o_y * -1))) (sat (b_z + sat (r_o_z * -1))) ≤ 0)) (Tr.node (decide (IntKind.i64.wrap (0 - volN r_d_x r_d_y r_d_z (sat (b_x + sat (r_o_x * -1))) (sat (b_y + sat (r_o_y * -1))) (sat (b_z + sat (r_o_z * -1))) (sat (c_x + sat (r_o_x * -1))) (sat (c_y + sat (r_o_y * -1))) (sat (c_z + sat (r_o_z * -1)))) < 0)) (Tr.leaf (AV.tuple [AV.agg [AV.int IntKind.i64 false 0, AV.int IntKind.i64 false 0], AV.bool false false])) (Tr.node (decide (IntKind.i64.wrap (0 - volN r_d_x r_d_y r_d_z (sat (c_x + sat (r_o_x * -1))) (sat (c_y + sat (r_o_y * -1))) (sat (c_z + sat (r_o_z * -1))) (sat (a_x + sat (r_o_x * -1))) (sat (a_y + sat (r_o_y * -1))) (sat (a_z + sat (r_o_z * -1)))) < 0)) (Tr.leaf (AV.tuple [AV.agg [AV.int IntKind.i64 false 0, AV.int IntKind.i64 false 0], AV.bool false false])) (Tr.node (decide (IntKind.i64.wrap (0 - volN r_d_x r_d_y r_d_z (sat (a_x + sat (r_o_x * -1))) (sat (a_y + sat (r_o_y * -1))) (sat (a_z + sat (r_o_z * -1))) (sat (b_x + sat (r_o_x * -1))) (sat (b_y + sat (r_o_y * -1))) (sat (b_z + sat (r_o_z * -1)))) < 0)) (Tr.leaf (AV.tuple [AV.agg [AV.int IntKind.i64 false 0, AV.int IntKind.i64 false 0], AV.bool false false])) (Tr.node (IntKind.i64.wrap (IntKind.i64.wrap (IntKind.i64.wrap (0 - volN r_d_x r_d_y r_d_z (sat (b_x + sat (r_o_x * -1))) (sat (b_y + sat (r_o_y * -1))) (sat (b_z + sat (r_o_z * -1))) (sat (c_x + sat (r_o_x * -1))) (sat (c_y + sat (r_o_y * -1))) (sat (c_z + sat (r_o_z * -1)))) + IntKind.i64.wrap (0 - volN r_d_x r_d_y r_d_z (sat (c_x + sat (r_o_x * -1))) (sat (c_y + sat (r_o_y * -1))) (sat (c_z + sat (r_o_z * -1))) (sat (a_x + sat (r_o_x * -1))) (sat (a_y + sat (r_o_y * -1))) (sat (a_z + sat (r_o_z * -1))))) + IntKind.i64.wrap (0 - volN r_d_x r_d_y r_d_z (sat (a_x + sat (r_o_x * -1))) (sat (a_y + sat (r_o_y * -1))) (sat (a_z + sat (r_o_z * -1))) (sat (b_x + sat (r_o_x * -1))) (sat (b_y + sat (r_o_y * -1))) (sat (b_z + sat (r_o_z * -1))))) == 0) (Tr.leaf (AV.tuple [AV.agg [AV.int IntKind.i64 false 0, AV.int IntKind.i64 false 0], AV.bool false false])) (Tr.node (decide (IntKind.i64.wrap (0 - volN (sat (a_x + sat (r_o_x * -1))) (sat (a_y + sat (r_o_y * -1))) (sat (a_z + sat (r_o_z * -1))) (sat (b_x + sat (r_o_x * -1))) (sat (b_y + sat (r_o_y * -1))) (sat (b_z + sat (r_o_z * -1))) (sat (c_x + sat (r_o_x * -1))) (sat (c_y + sat (r_o_y * -1))) (sat (c_z + sat (r_o_z * -1)))) ≤ 0)) (Tr.leaf (AV.tuple [AV.agg [AV.int IntKind.i64 false 0, AV.int IntKind.i64 false 0], AV.bool false false])) (Tr.leaf (AV.tuple [AV.agg [AV.int IntKind.i64 false (IntKind.i64.wrap (0 - volN (sat (a_x + sat (r_o_x * -1))) (sat (a_y + sat (r_o_y * -1))) (sat (a_z + sat (r_o_z * -1))) (sat (b_x + sat (r_o_x * -1))) (sat (b_y + sat (r_o_y * -1))) (sat (b_z + sat (r_o_z * -1))) (sat (c_x + sat (r_o_x * -1))) (sat (c_y + sat (r_o_y * -1))) (sat (c_z + sat (r_o_z * -1))))), AV.int IntKind.i64 false (IntKind.i64.wrap (IntKind.i64.wrap (IntKind.i64.wrap (0 - volN r_d_x r_d_y r_d_z (sat (b_x + sat (r_o_x * -1))) (sat (b_y + sat (r_o_y * -1))) (sat (b_z + sat (r_o_z * -1))) (sat (c_x + sat (r_o_x * -1))) (sat (c_y + sat (r_o_y * -1))) (sat (c_z + sat (r_o_z * -1)))) + IntKind.i64.wrap (0 - volN r_d_x r_d_y r_d_z (sat (c_x + sat (r_o_x * -1))) (sat (c_y + sat (r_o_y * -1))) (sat (c_z + sat (r_o_z * -1))) (sat (a_x + sat (r_o_x * -1))) (sat (a_y + sat (r_o_y * -1))) (sat (a_z + sat (r_o_z * -1))))) + IntKind.i64.wrap (0 - volN r_d_x r_d_y r_d_z (sat (a_x + sat (r_o_x * -1))) (sat (a_y + sat (r_o_y * -1))) (sat (a_z + sat (r_o_z * -1))) (sat (b_x + sat (r_o_x * -1))) (sat (b_y + sat (r_o_y * -1))) (sat (b_z + sat (r_o_z * -1))))))], AV.bool false true]))))))) (Tr.node (decide (volN r_d_x r_d_y r_d_z (sat (b_x + sat (r_o_x * -1))) (sat (b_y + sat (r_o_y * -1))) (sat (b_z + sat (r_o_z * -1))) (sat (c_x + sat (r_o_x * -1))) (sat (c_y + sat (r_o_y * -1))) (sat (c_z + sat (r_o_z * -1))) < 0)) (Tr.leaf (AV.tuple [AV.agg [AV.int IntKind.i64 false 0, AV.int IntKind.i64 false 0], AV.bool false false])) (Tr.node (decide (volN r_d_x r_d_y r_d_z (sat (c_x + sat (r_o_x * -1))) (sat (c_y + sat (r_o_y * -1))) (sat (c_z + sat (r_o_z * -1))) (sat (a_x + sat (r_o_x * -1))) (sat (a_y + sat (r_o_y * -1))) (sat (a_z + sat (r_o_z * -1))) < 0)) (Tr.leaf (AV.tuple [AV.agg [AV.int IntKind.i64 false 0, AV.int IntKind.i64 false 0], AV.bool false false])) (Tr.node (decide (volN r_d_x r_d_y r_d_z (sat (a_x + sat (r_o_x * -1))) (sat (a_y + sat (r_o_y * -1))) (sat (a_z + sat (r_o_z * -1))) (sat (b_x + sat (r_o_x * -1))) (sat (b_y + sat (r_o_y * -1))) (sat (b_z + sat (r_o_z * -1))) < 0)) (Tr.leaf (AV.tuple [AV.agg [AV.int IntKind.i64 false 0, AV.int IntKind.i64 false 0], AV.bool false false])) (Tr.node (IntKind.i64.wrap (IntKind.i64.wrap (volN r_d_x r_d_y r_d_z (sat (b_x + sat (r_o_x * -1))) (sat (b_y + sat (r_o_y * -1))) (sat (b_z + sat (r_o_z * -1))) (sat (c_x + sat (r_o_x * -1))) (sat (c_y + sat (r_o_y * -1))) (sat (c_z + sat (r_o_z * -1))) + volN r_d_x r_d_y r_d_z (sat (c_x + sat (r_o_x * -1))) (sat (c_y + sat (r_o_y * -1))) (sat (c_z + sat (r_o_z * -1))) (sat (a_x + sat (r_o_x * -1))) (sat (a_y + sat (r_o_y * -1))) (sat (a_z + sat (r_o_z * -1)))) + volN r_d_x r_d_y r_d_z (sat (a_x + sat (r_o_x * -1))) (sat (a_y + sat (r_o_y * -1))) (sat (a_z + sat (r_o_z * -1))) (sat (b_x + sat (r_o_x * -1))) (sat (b_y + sat (r_o_y * -1))) (sat (b_z + sat (r_o_z * -1)))) == 0) (Tr.leaf (AV.tuple [AV.agg [AV.int IntKind.i64 false 0, AV.int IntKind.i64 false 0], AV.bool false false])) (Tr.node (decide (volN (sat (a_x + sat (r_o_x * -1))) (sat (a_y + sat (r_o_y * -1))) (sat (a_z + sat (r_o_z * -1))) (sat (b_x + sat (r_o_x * -1))) (sat (b_y + sat (r_o_y * -1))) (sat (b_z + sat (r_o_z * -1))) (sat (c_x + sat (r_o_x * -1))) (sat (c_y + sat (r_o_y * -1))) (sat (c_z + sat (r_o_z * -1))) ≤ 0)) (Tr.leaf (AV.tuple [AV.agg [AV.int IntKind.i64 false 0, AV.int IntKind.i64 false 0], AV.bool false false])) (Tr.leaf (AV.tuple [AV.agg [AV.int IntKind.i64 false (volN (sat (a_x + sat (r_o_x * -1))) (sat (a_y + sat (r_o_y * -1))) (sat (a_z + sat (r_o_z * -1))) (sat (b_x + sat (r_o_x * -1))) (sat (b_y + sat (r_o_y * -1))) (sat (b_z + sat (r_o_z * -1))) (sat (c_x + sat (r_o_x * -1))) (sat (c_y + sat (r_o_y * -1))) (sat (c_z + sat (r_o_z * -1)))), AV.int IntKind.i64 false (c_skylightref11_Hit_1 a_x a_y a_z b_x b_y b_z c_x c_y c_z r_o_x r_o_y r_o_z r_d_x r_d_y r_d_z)], AV.bool false true])))))))) (Tr.node (decide (volN r_d_x r_d_y r_d_z (sat (b_x + sat (r_o_x * -1))) (sat (b_y + sat (r_o_y * -1))) (sat (b_z + sat (r_o_z * -1))) (sat (c_x + sat (r_o_x * -1))) (sat (c_y + sat (r_o_y * -1))) (sat (c_z + sat (r_o_z * -1))) < 0)) (Tr.leaf (AV.tuple [AV.agg [AV.int IntKind.i64 false 0, AV.int IntKind.i64 false 0], AV.bool false false])) (Tr.node (decide (volN r_d_x r_d_y r_d_z (sat (c_x + sat (r_o_x * -1))) (sat (c_y + sat (r_o_y * -1))) (sat (c_z + sat (r_o_z * -1))) (sat (a_x + sat (r_o_x * -1))) (sat (a_y + sat (r_o_y * -1))) (sat (a_z + sat (r_o_z * -1))) < 0)) (Tr.leaf (AV.tuple [AV.agg [AV.int IntKind.i64 false 0, AV.int IntKind.i64 false 0], AV.bool false false])) (Tr.node (decide (volN r_d_x r_d_y r_d_z (sat (a_x + sat (r_o_x * -1))) (sat (a_y + sat (r_o_y * -1))) (sat (a_z + sat (r_o_z * -1))) (sat (b_x + sat (r_o_x * -1))) (sat (b_y + sat (r_o_y * -1))) (sat (b_z + sat (r_o_z * -1))) < 0)) (Tr.leaf (AV.tuple [AV.agg [AV.int IntKind.i64 false 0, AV.int IntKind.i64 false 0], AV.bool false false])) (Tr.node (IntKind.i64.wrap (IntKind.i64.wrap (volN r_d_x r_d_y r_d_z (sat (b_x + sat (r_o_x * -1))) (sat (b_y + sat (r_o_y * -1))) (sat (b_z + sat (r_o_z * -1))) (sat (c_x + sat (r_o_x * -1))) (sat (c_y + sat (r_o_y * -1))) (sat (c_z + sat (r_o_z * -1))) + volN r_d_x r_d_y r_d_z (sat (c_x + sat (r_o_x * -1))) (sat (c_y + sat (r_o_y * -1))) (sat (c_z + sat (r_o_z * -1))) (sat (a_x + sat (r_o_x * -1))) (sat (a_y + sat (r_o_y * -1))) (sat (a_z + sat (r_o_z * -1)))) + volN r_d_x r_d_y r_d_z (sat (a_x + sat (r_o_x * -1))) (sat (a_y + sat (r_o_y * -1))) (sat (a_z + sat (r_o_z * -1))) (sat (b_x + sat (r_o_x * -1))) (sat (b_y + sat (r_o_y * -1))) (sat (b_z + sat (r_o_z * -1)))) == 0) (Tr.leaf (AV.tuple [AV.agg [AV.int IntKind.i64 false 0, AV.int IntKind.i64 false 0], AV.bool false false])) (Tr.node (decide (volN (sat (a_x + sat (r_o_x * -1))) (sat (a_y + sat (r_o_y * -1))) (sat (a_z + sat (r_o_z * -1))) (sat (b_x + sat (r_o_x * -1))) (sat (b_y + sat (r_o_y * -1))) (sat (b_z + sat (r_o_z * -1))) (sat (c_x + sat (r_o_x * -1))) (sat (c_y + sat (r_o_y * -1))) (sat (c_z + sat (r_o_z * -1))) ≤ 0)) (Tr.leaf (AV.tuple [AV.agg [AV.int IntKind.i64 false 0, AV.int IntKind.i64 false 0], AV.bool false false])) (Tr.leaf (AV.tuple [AV.agg [AV.int IntKind.i64 false (volN (sat (a_x + sat (r_o_x * -1))) (sat (a_y + sat (r_o_y * -1))) (sat (a_z + sat (r_o_z * -1))) (sat (b_x + sat (r_o_x * -1))) (sat (b_y + sat (r_o_y * -1))) (sat (b_z + sat (r_o_z * -1))) (sat (c_x + sat (r_o_x * -1))) (sat (c_y + sat (r_o_y * -1))) (sat (c_z + sat (r_o_z * -1)))), AV.int IntKind.i64 false (c_skylightref11_Hit_1 a_x a_y a_z b_x b_y b_z c_x c_y c_z r_o_x r_o_y r_o_z r_d_x r_d_y r_d_z)], AV.bool false true])))))))) (Tr.node (decide (volN r_d_x r_d_y r_d_z (sat (b_x + sat (r_o_x * -1))) (sat (b_y + sat (r_o_y * -1))) (sat (b_z + sat (r_o_z * -1))) (sat (c_x + sat (r_o_x * -1))) (sat (c_y + sat (r_o_y * -1))) (sat (c_z + sat (r_o_z * -1))) < 0)) (Tr.leaf (AV.tuple [AV.agg [AV.int IntKind.i64 false 0, AV.int IntKind.i64 false 0], AV.bool false false])) (Tr.node (decide (volN r_d_x r_d_y r_d_z (sat (c_x + sat (r_o_x * -1))) (sat (c_y + sat (r_o_y * -1))) (sat (c_z + sat (r_o_z * -1))) (sat (a_x + sat (r_o_x * -1))) (sat (a_y + sat (r_o_y * -1))) (sat (a_z + sat (r_o_z * -1))) < 0)) (Tr.leaf (AV.tuple [AV.agg [AV.int IntKind.i64 false 0, AV.int IntKind.i64 false 0], AV.bool false false])) (Tr.node (decide (volN r_d_x r_d_y r_d_z (sat (a_x + sat (r_o_x * -1))) (sat (a_y + sat (r_o_y * -1))) (sat (a_z + sat (r_o_z * -1))) (sat (b_x + sat (r_o_x * -1))) (sat (b_y + sat (r_o_y * -1))) (sat (b_z + sat (r_o_z * -1))) < 0)) (Tr.leaf (AV.tuple [AV.agg [AV.int IntKind.i64 false 0, AV.int IntKind.i64 false 0], AV.bool false false])) (Tr.node (IntKind.i64.wrap (IntKind.i64.wrap (volN r_d_x r_d_y r_d_z (sat (b_x + sat (r_o_x * -1))) (sat (b_y + sat (r_o_y * -1))) (sat (b_z + sat (r_o_z * -1))) (sat (c_x + sat (r_o_x * -1))) (sat (c_y + sat (r_o_y * -1))) (sat (c_z + sat (r_o_z * -1))) + volN r_d_x r_d_y r_d_z (sat (c_x + sat (r_o_x * -1))) (sat (c_y + sat (r_o_y * -1))) (sat (c_z + sat (r_o_z * -1))) (sat (a_x + sat (r_o_x * -1))) (sat (a_y + sat (r_o_y * -1))) (sat (a_z + sat (r_o_z * -1)))) + volN r_d_x r_d_y r_d_z (sat (a_x + sat (r_o_x * -1))) (sat (a_y + sat (r_o_y * -1))) (sat (a_z + sat (r_o_z * -1))) (sat (b_x + sat (r_o_x * -1))) (sat (b_y + sat (r_o_y * -1))) (sat (b_z + sat (r_o_z * -1)))) == 0) (Tr.leaf (AV.tuple [AV.agg [AV.int IntKind.i64 false 0, AV.int IntKind.i64 false 0], AV.bool false false])) (Tr.node (decide (volN (sat (a_x + sat (r_o_x * -1))) (sat (a_y + sat (r_o_y * -1))) (sat (a_z + sat (r_o_z * -1))) (sat (b_x + sat (r_o_x * -1))) (sat (b_y + sat (r_o_y * -1))) (sat (b_z + sat (r_o_z * -1))) (sat (c_x + sat (r_o_x * -1))) (sat (c_y + sat (r_o_y * -1))) (sat (c_z + sat (r_o_z * -1))) ≤ 0)) (Tr.leaf (AV.tuple [AV.agg [AV.int IntKind.i64 false 0, AV.int IntKind.i64 false 0], AV.bool false false])) (Tr.leaf (AV.tuple [AV.agg [AV.int IntKind.i64 false (volN (sat (a_x + sat (r_o_x * -1))) (sat (a_y + sat (r_o_y * -1))) (sat (a_z + sat (r_o_z * -1))) (sat (b_x + sat (r_o_x * -1))) (sat (b_y + sat (r_o_y * -1))) (sat (b_z + sat (r_o_z * -1))) (sat (c_x + sat (r_o_x * -1))) (sat (c_y + sat (r_o_y * -1))) (sat (c_z + sat (r_o_z * -1)))), AV.int IntKind.i64 false (c_skylightref11_Hit_1 a_x a_y a_z b_x b_y b_z c_x c_y c_z r_o_x r_o_y r_o_z r_d_x r_d_y r_d_z)], AV.bool false true]))))))))))) (Tr.leaf (AV.tuple [AV.agg [AV.int IntKind.i64 false 0, AV.int IntKind.i64 false 0], AV.bool false false]))) (Tr.leaf (AV.tuple [AV.agg [AV.int IntKind.i64 false 0, AV.int IntKind.i64 false 0], AV.bool false false]))
set_option maxHeartbeats 2000000 in
theorem run_skylightref11_Hit (a_x : Int) (a_y : Int) (a_z : Int) (b_x : Int) (b_y : Int) (b_z : Int) (c_x : Int) (c_y : Int) (c_z : Int) (r_o_x : Int) (r_o_y : Int) (r_o_z : Int) (r_d_x : Int) (r_d_y : Int) (r_d_z : Int) (r_f : Int) (h_a_x : InR .i64 a_x) (h_a_y : InR .i64 a_y) (h_a_z : InR .i64 a_z) (h_b_x : InR .i64 b_x) (h_b_y : InR .i64 b_y) (h_b_z : InR .i64 b_z) (h_c_x : InR .i64 c_x) (h_c_y : InR .i64 c_y) (h_c_z : InR .i64 c_z) (h_r_o_x : InR .i64 r_o_x) (h_r_o_y : InR .i64 r_o_y) (h_r_o_z : InR .i64 r_o_z) (h_r_d_x : InR .i64 r_d_x) (h_r_d_y : InR .i64 r_d_y) (h_r_d_z : InR .i64 r_d_z) (h_r_f : InR .i64 r_f) : (tr_skylightref11_Hit a_x a_y a_z b_x b_y b_z c_x c_y c_z r_o_x r_o_y r_o_z r_d_x r_d_y r_d_z r_f).run = some (.tuple [frA (tNum a_x a_y a_z b_x b_y b_z c_x c_y c_z r_o_x r_o_y r_o_z r_d_x r_d_y r_d_z) (tDen a_x a_y a_z b_x b_y b_z c_x c_y c_z r_o_x r_o_y r_o_z r_d_x r_d_y r_d_z), bb (tOk a_x a_y a_z b_x b_y b_z c_x c_y c_z r_o_x r_o_y r_o_z r_d_x r_d_y r_d_z)]) := by
  unfold tr_skylightref11_Hit
  by_cases hm : tMay a_x a_y a_z b_x b_y b_z c_x c_y c_z r_o_x r_o_y r_o_z r_d_x r_d_y r_d_z = true
  rotate_left
  · have ok : tOk a_x a_y a_z b_x b_y b_z c_x c_y c_z r_o_x r_o_y r_o_z r_d_x r_d_y r_d_z = false := by unfold tOk; rw [Bool.not_eq_true] at hm; rw [hm]; rfl
    unfold tNum tDen
    rw [ok]
    cases h1 : placeB a_x a_y a_z
    · rfl
    cases h2 : placeB b_x b_y b_z
    · rfl
    cases h3 : placeB c_x c_y c_z
    · rfl
    cases h4 : placeB r_o_x r_o_y r_o_z
    · rfl
    cases h5 : nearB r_d_x r_d_y r_d_z
    · rfl
    exact absurd (by unfold tMay placesB; rw [h1, h2, h3, h4, h5]; rfl) hm
  obtain ⟨⟨ha, hb, hc⟩, ho, hd⟩ := tMay_r hm
  obtain ⟨⟨e1, e2, e3⟩, ne⟩ := way3 ha hb
  obtain ⟨⟨f1, f2, f3⟩, nf⟩ := way3 ha hc
  obtain ⟨⟨s1, s2, s3⟩, ns⟩ := way3 ha ho
  obtain ⟨⟨p1, p2, p3⟩, np⟩ := way3 ho ha
  obtain ⟨⟨q1, q2, q3⟩, nq⟩ := way3 ho hb
  obtain ⟨⟨t1, t2, t3⟩, nt⟩ := way3 ho hc
  obtain ⟨⟨v1, v2, v3_, v4⟩, ⟨w1, w2, w3, w4⟩, x1, x2, x3, x4, x5⟩ := tri_facts hm
  simp only [c_skylightref11_Hit_1, e1, e2, e3, f1, f2, f3, s1, s2, s3, p1, p2, p3, q1, q2, q3, t1, t2, t3, v1, v2, v3_, v4, w1, w2, w3, w4, ha, hb, hc, ho, hd]
  have ok : tOk a_x a_y a_z b_x b_y b_z c_x c_y c_z r_o_x r_o_y r_o_z r_d_x r_d_y r_d_z = decide (oneSign (tX a_x a_y a_z b_x b_y b_z c_x c_y c_z r_o_x r_o_y r_o_z r_d_x r_d_y r_d_z) (tY a_x a_y a_z b_x b_y b_z c_x c_y c_z r_o_x r_o_y r_o_z r_d_x r_d_y r_d_z) (tZ a_x a_y a_z b_x b_y b_z c_x c_y c_z r_o_x r_o_y r_o_z r_d_x r_d_y r_d_z) (tN a_x a_y a_z b_x b_y b_z c_x c_y c_z r_o_x r_o_y r_o_z)) := by unfold tOk; rw [hm]; rfl
  unfold tNum tDen
  rw [ok]
  clear ok
  generalize tX a_x a_y a_z b_x b_y b_z c_x c_y c_z r_o_x r_o_y r_o_z r_d_x r_d_y r_d_z = X at *
  generalize tY a_x a_y a_z b_x b_y b_z c_x c_y c_z r_o_x r_o_y r_o_z r_d_x r_d_y r_d_z = Y at *
  generalize tZ a_x a_y a_z b_x b_y b_z c_x c_y c_z r_o_x r_o_y r_o_z r_d_x r_d_y r_d_z = Z at *
  generalize tN a_x a_y a_z b_x b_y b_z c_x c_y c_z r_o_x r_o_y r_o_z = N at *
  
  have y1 : IntKind.i64.wrap (0 - X) = -X := by rw [wrap_i64_id (by omega)]; omega
  have y2 : IntKind.i64.wrap (0 - N) = -N := by rw [wrap_i64_id (by omega)]; omega
  have y3 : IntKind.i64.wrap (0 - Y) = -Y := by rw [wrap_i64_id (by omega)]; omega
  have y4 : IntKind.i64.wrap (0 - Z) = -Z := by rw [wrap_i64_id (by omega)]; omega
  have y5 : IntKind.i64.wrap (IntKind.i64.wrap (X + Y) + Z) = X + Y + Z := by simp only [wrap_i64]; omega
  have y6 : IntKind.i64.wrap (IntKind.i64.wrap (-X + -Y) + -Z) = -(X + Y + Z) := by simp only [wrap_i64]; omega
  simp only [y1, y2, y3, y4, y5, y6]
  by_cases C1 : 0 ≤ X ∧ 0 ≤ Y ∧ 0 ≤ Z ∧ 0 < X + Y + Z ∧ 0 < N
  · rw [decide_eq_true (show oneSign X Y Z N from .inl C1), if_pos rfl, if_pos rfl, show sz N = N by unfold sz; omega, show sz (X + Y + Z) = X + Y + Z by unfold sz; omega]
    by_cases g1 : X ≤ 0
    · by_cases g2 : Y ≤ 0
      · repeat (first | refine (run_t (by first | rfl | (simp only [decide_eq_true_eq, decide_eq_false_iff_not, Bool.not_eq_true', Bool.not_eq_false', beq_iff_eq, beq_eq_false_iff_ne, mm2_lt, mm2_gt, min_r, ne_eq]; omega))).trans ?_ | refine (run_f (by first | rfl | (simp only [decide_eq_true_eq, decide_eq_false_iff_not, Bool.not_eq_true', Bool.not_eq_false', beq_iff_eq, beq_eq_false_iff_ne, mm2_lt, mm2_gt, min_r, ne_eq]; omega))).trans ?_)
        rfl
      · repeat (first | refine (run_t (by first | rfl | (simp only [decide_eq_true_eq, decide_eq_false_iff_not, Bool.not_eq_true', Bool.not_eq_false', beq_iff_eq, beq_eq_false_iff_ne, mm2_lt, mm2_gt, min_r, ne_eq]; omega))).trans ?_ | refine (run_f (by first | rfl | (simp only [decide_eq_true_eq, decide_eq_false_iff_not, Bool.not_eq_true', Bool.not_eq_false', beq_iff_eq, beq_eq_false_iff_ne, mm2_lt, mm2_gt, min_r, ne_eq]; omega))).trans ?_)
        rfl
    · repeat (first | refine (run_t (by first | rfl | (simp only [decide_eq_true_eq, decide_eq_false_iff_not, Bool.not_eq_true', Bool.not_eq_false', beq_iff_eq, beq_eq_false_iff_ne, mm2_lt, mm2_gt, min_r, ne_eq]; omega))).trans ?_ | refine (run_f (by first | rfl | (simp only [decide_eq_true_eq, decide_eq_false_iff_not, Bool.not_eq_true', Bool.not_eq_false', beq_iff_eq, beq_eq_false_iff_ne, mm2_lt, mm2_gt, min_r, ne_eq]; omega))).trans ?_)
      rfl
  by_cases C2 : X ≤ 0 ∧ Y ≤ 0 ∧ Z ≤ 0 ∧ X + Y + Z < 0 ∧ N < 0
  · rw [decide_eq_true (show oneSign X Y Z N from .inr C2), if_pos rfl, if_pos rfl, show sz N = -N by unfold sz; omega, show sz (X + Y + Z) = -(X + Y + Z) by unfold sz; omega]
    repeat (first | refine (run_t (by first | rfl | (simp only [decide_eq_true_eq, decide_eq_false_iff_not, Bool.not_eq_true', Bool.not_eq_false', beq_iff_eq, beq_eq_false_iff_ne, mm2_lt, mm2_gt, min_r, ne_eq]; omega))).trans ?_ | refine (run_f (by first | rfl | (simp only [decide_eq_true_eq, decide_eq_false_iff_not, Bool.not_eq_true', Bool.not_eq_false', beq_iff_eq, beq_eq_false_iff_ne, mm2_lt, mm2_gt, min_r, ne_eq]; omega))).trans ?_)
    rfl
  · rw [decide_eq_false (show ¬ oneSign X Y Z N from fun h => h.elim C1 C2), if_neg (by decide), if_neg (by decide)]
    repeat' (first | refine (run_t (by first | rfl | (simp only [decide_eq_true_eq, decide_eq_false_iff_not, Bool.not_eq_true', Bool.not_eq_false', beq_iff_eq, beq_eq_false_iff_ne, mm2_lt, mm2_gt, min_r, ne_eq]; omega))).trans ?_ | refine (run_f (by first | rfl | (simp only [decide_eq_true_eq, decide_eq_false_iff_not, Bool.not_eq_true', Bool.not_eq_false', beq_iff_eq, beq_eq_false_iff_ne, mm2_lt, mm2_gt, min_r, ne_eq]; omega))).trans ?_ | refine run_split (fun _ => ?_) (fun _ => ?_) | refine run_split_eq (fun _ => ?_) (fun _ => ?_) | rfl)
    all_goals (exfalso; omega)

/-! tri.At -/
def tr_tri_At (a_x : Int) (a_y : Int) (a_z : Int) (b_x : Int) (b_y : Int) (b_z : Int) (c_x : Int) (c_y : Int) (c_z : Int) (u : Int) (v : Int) : Tr AV := Tr.node (!placeB a_x a_y a_z) (Tr.leaf (AV.agg [AV.int IntKind.i64 false 0, AV.int IntKind.i64 false 0, AV.int IntKind.i64 false 0])) (Tr.node (!placeB b_x b_y b_z) (Tr.leaf (AV.agg [AV.int IntKind.i64 false 0, AV.int IntKind.i64 false 0, AV.int IntKind.i64 false 0])) (Tr.node (!placeB c_x c_y c_z) (Tr.leaf (AV.agg [AV.int IntKind.i64 false 0, AV.int IntKind.i64 false 0, AV.int IntKind.i64 false 0])) (Tr.node (decide (mm false u v < 0)) (Tr.leaf (AV.agg [AV.int IntKind.i64 false 0, AV.int IntKind.i64 false 0, AV.int IntKind.i64 false 0])) (Tr.node (decide (mm true u v > 65536)) (Tr.leaf (AV.agg [AV.int IntKind.i64 false 0, AV.int IntKind.i64 false 0, AV.int IntKind.i64 false 0])) (Tr.node (decide (IntKind.i64.wrap (u + v) > 65536)) (Tr.leaf (AV.agg [AV.int IntKind.i64 false (sat (a_x + (IntKind.i64.wrap (IntKind.i64.wrap (sat (b_x + sat (a_x * -1)) * IntKind.i64.wrap (65536 - u)) + IntKind.i64.wrap (sat (c_x + sat (a_x * -1)) * IntKind.i64.wrap (65536 - v)))).fdiv 65536)), AV.int IntKind.i64 false (sat (a_y + (IntKind.i64.wrap (IntKind.i64.wrap (sat (b_y + sat (a_y * -1)) * IntKind.i64.wrap (65536 - u)) + IntKind.i64.wrap (sat (c_y + sat (a_y * -1)) * IntKind.i64.wrap (65536 - v)))).fdiv 65536)), AV.int IntKind.i64 false (sat (a_z + (IntKind.i64.wrap (IntKind.i64.wrap (sat (b_z + sat (a_z * -1)) * IntKind.i64.wrap (65536 - u)) + IntKind.i64.wrap (sat (c_z + sat (a_z * -1)) * IntKind.i64.wrap (65536 - v)))).fdiv 65536))])) (Tr.leaf (AV.agg [AV.int IntKind.i64 false (sat (a_x + (IntKind.i64.wrap (IntKind.i64.wrap (sat (b_x + sat (a_x * -1)) * u) + IntKind.i64.wrap (sat (c_x + sat (a_x * -1)) * v))).fdiv 65536)), AV.int IntKind.i64 false (sat (a_y + (IntKind.i64.wrap (IntKind.i64.wrap (sat (b_y + sat (a_y * -1)) * u) + IntKind.i64.wrap (sat (c_y + sat (a_y * -1)) * v))).fdiv 65536)), AV.int IntKind.i64 false (sat (a_z + (IntKind.i64.wrap (IntKind.i64.wrap (sat (b_z + sat (a_z * -1)) * u) + IntKind.i64.wrap (sat (c_z + sat (a_z * -1)) * v))).fdiv 65536))])))))))
theorem run_tri_At (a_x : Int) (a_y : Int) (a_z : Int) (b_x : Int) (b_y : Int) (b_z : Int) (c_x : Int) (c_y : Int) (c_z : Int) (u : Int) (v : Int) (h_a_x : InR .i64 a_x) (h_a_y : InR .i64 a_y) (h_a_z : InR .i64 a_z) (h_b_x : InR .i64 b_x) (h_b_y : InR .i64 b_y) (h_b_z : InR .i64 b_z) (h_c_x : InR .i64 c_x) (h_c_y : InR .i64 c_y) (h_c_z : InR .i64 c_z) (h_u : InR .i64 u) (h_v : InR .i64 v) : (tr_tri_At a_x a_y a_z b_x b_y b_z c_x c_y c_z u v).run = some (v3 (ptC a_x b_x c_x a_x a_y a_z b_x b_y b_z c_x c_y c_z u v) (ptC a_y b_y c_y a_x a_y a_z b_x b_y b_z c_x c_y c_z u v) (ptC a_z b_z c_z a_x a_y a_z b_x b_y b_z c_x c_y c_z u v)) := by
  unfold tr_tri_At
  by_cases hp : (placeB a_x a_y a_z = true ∧ placeB b_x b_y b_z = true ∧ placeB c_x c_y c_z = true) ∧ ((0 ≤ u ∧ u ≤ 65536) ∧ (0 ≤ v ∧ v ≤ 65536))
  rotate_left
  · have ok : ptOk a_x a_y a_z b_x b_y b_z c_x c_y c_z u v = false := by
      unfold ptOk; rw [← Bool.not_eq_true]; intro h; simp only [Bool.and_eq_true, decide_eq_true_eq] at h; exact hp ⟨places_r h.1, h.2⟩
    unfold ptC
    rw [ok]
    cases h1 : placeB a_x a_y a_z
    · rfl
    cases h2 : placeB b_x b_y b_z
    · rfl
    cases h3 : placeB c_x c_y c_z
    · rfl
    have hq : ¬ ((0 ≤ u ∧ u ≤ 65536) ∧ (0 ≤ v ∧ v ≤ 65536)) := fun h => hp ⟨⟨h1, h2, h3⟩, h⟩
    (try simp only [mm2_lt, mm2_gt])
    (repeat' (first | rfl | (refine run_guard (fun _ => ?_) (fun _ => ?_)))) <;> (exfalso; simp only [Bool.not_true, Bool.false_eq_true, decide_eq_true_eq, decide_eq_false_iff_not] at *; omega)
  obtain ⟨⟨ha, hb, hc⟩, hu, hv⟩ := hp
  have hz : placesB a_x a_y a_z b_x b_y b_z c_x c_y c_z = true := by unfold placesB; rw [ha, hb, hc]; rfl
  have ok : ptOk a_x a_y a_z b_x b_y b_z c_x c_y c_z u v = true := by unfold ptOk; rw [hz, decide_eq_true (show (0 ≤ u ∧ u ≤ 65536) ∧ (0 ≤ v ∧ v ≤ 65536) from ⟨hu, hv⟩)]; rfl
  have ra := place_r ha
  have rb := place_r hb
  have rc := place_r hc
  unfold ptC ptS
  rw [ok, ha, hb, hc]
  (try simp only [mm2_lt, mm2_gt])
  rw [wrap_i64_id (n := u + v) (by omega), wrap_i64_id (n := 65536 - u) (by omega), wrap_i64_id (n := 65536 - v) (by omega)]
  by_cases huv : u + v > 65536
  · simp only [if_pos huv]
    rw [share_prog ra.1 rb.1 rc.1 (u := 65536 - u) (v := 65536 - v) (by omega) (by omega), share_prog ra.2.1 rb.2.1 rc.2.1 (u := 65536 - u) (v := 65536 - v) (by omega) (by omega), share_prog ra.2.2 rb.2.2 rc.2.2 (u := 65536 - u) (v := 65536 - v) (by omega) (by omega)]
    repeat (first | refine (run_t (by first | rfl | (simp only [decide_eq_true_eq, decide_eq_false_iff_not, Bool.not_eq_true', Bool.not_eq_false', beq_iff_eq, beq_eq_false_iff_ne, mm2_lt, mm2_gt, min_r, ne_eq]; omega))).trans ?_ | refine (run_f (by first | rfl | (simp only [decide_eq_true_eq, decide_eq_false_iff_not, Bool.not_eq_true', Bool.not_eq_false', beq_iff_eq, beq_eq_false_iff_ne, mm2_lt, mm2_gt, min_r, ne_eq]; omega))).trans ?_)
    rfl
  · simp only [if_neg huv]
    rw [share_prog ra.1 rb.1 rc.1 hu hv, share_prog ra.2.1 rb.2.1 rc.2.1 hu hv, share_prog ra.2.2 rb.2.2 rc.2.2 hu hv]
    repeat (first | refine (run_t (by first | rfl | (simp only [decide_eq_true_eq, decide_eq_false_iff_not, Bool.not_eq_true', Bool.not_eq_false', beq_iff_eq, beq_eq_false_iff_ne, mm2_lt, mm2_gt, min_r, ne_eq]; omega))).trans ?_ | refine (run_f (by first | rfl | (simp only [decide_eq_true_eq, decide_eq_false_iff_not, Bool.not_eq_true', Bool.not_eq_false', beq_iff_eq, beq_eq_false_iff_ne, mm2_lt, mm2_gt, min_r, ne_eq]; omega))).trans ?_)
    rfl

/-! skylightref11.At -/
def tr_skylightref11_At (a_x : Int) (a_y : Int) (a_z : Int) (b_x : Int) (b_y : Int) (b_z : Int) (c_x : Int) (c_y : Int) (c_z : Int) (u : Int) (v : Int) : Tr AV := Tr.node (placeB a_x a_y a_z) (Tr.node (placeB b_x b_y b_z) (Tr.node (!placeB c_x c_y c_z) (Tr.leaf (AV.agg [AV.int IntKind.i64 false 0, AV.int IntKind.i64 false 0, AV.int IntKind.i64 false 0])) (Tr.node (decide (u < 0)) (Tr.leaf (AV.agg [AV.int IntKind.i64 false 0, AV.int IntKind.i64 false 0, AV.int IntKind.i64 false 0])) (Tr.node (decide (v < 0)) (Tr.leaf (AV.agg [AV.int IntKind.i64 false 0, AV.int IntKind.i64 false 0, AV.int IntKind.i64 false 0])) (Tr.node (decide (u > 65536)) (Tr.leaf (AV.agg [AV.int IntKind.i64 false 0, AV.int IntKind.i64 false 0, AV.int IntKind.i64 false 0])) (Tr.node (decide (v > 65536)) (Tr.leaf (AV.agg [AV.int IntKind.i64 false 0, AV.int IntKind.i64 false 0, AV.int IntKind.i64 false 0])) (Tr.node (decide (IntKind.i64.wrap (u + v) > 65536)) (Tr.leaf (AV.agg [AV.int IntKind.i64 false (IntKind.i64.wrap (a_x + if (1 : Int) ≤ 65536 then IntKind.i64.wrap (IntKind.i64.wrap (IntKind.i64.wrap (b_x - a_x) * IntKind.i64.wrap (65536 - u)) + IntKind.i64.wrap (IntKind.i64.wrap (c_x - a_x) * IntKind.i64.wrap (65536 - v))) / 65536 else 0)), AV.int IntKind.i64 false (IntKind.i64.wrap (a_y + if (1 : Int) ≤ 65536 then IntKind.i64.wrap (IntKind.i64.wrap (IntKind.i64.wrap (b_y - a_y) * IntKind.i64.wrap (65536 - u)) + IntKind.i64.wrap (IntKind.i64.wrap (c_y - a_y) * IntKind.i64.wrap (65536 - v))) / 65536 else 0)), AV.int IntKind.i64 false (IntKind.i64.wrap (a_z + if (1 : Int) ≤ 65536 then IntKind.i64.wrap (IntKind.i64.wrap (IntKind.i64.wrap (b_z - a_z) * IntKind.i64.wrap (65536 - u)) + IntKind.i64.wrap (IntKind.i64.wrap (c_z - a_z) * IntKind.i64.wrap (65536 - v))) / 65536 else 0))])) (Tr.leaf (AV.agg [AV.int IntKind.i64 false (IntKind.i64.wrap (a_x + if (1 : Int) ≤ 65536 then IntKind.i64.wrap (IntKind.i64.wrap (IntKind.i64.wrap (b_x - a_x) * u) + IntKind.i64.wrap (IntKind.i64.wrap (c_x - a_x) * v)) / 65536 else 0)), AV.int IntKind.i64 false (IntKind.i64.wrap (a_y + if (1 : Int) ≤ 65536 then IntKind.i64.wrap (IntKind.i64.wrap (IntKind.i64.wrap (b_y - a_y) * u) + IntKind.i64.wrap (IntKind.i64.wrap (c_y - a_y) * v)) / 65536 else 0)), AV.int IntKind.i64 false (IntKind.i64.wrap (a_z + if (1 : Int) ≤ 65536 then IntKind.i64.wrap (IntKind.i64.wrap (IntKind.i64.wrap (b_z - a_z) * u) + IntKind.i64.wrap (IntKind.i64.wrap (c_z - a_z) * v)) / 65536 else 0))])))))))) (Tr.leaf (AV.agg [AV.int IntKind.i64 false 0, AV.int IntKind.i64 false 0, AV.int IntKind.i64 false 0]))) (Tr.leaf (AV.agg [AV.int IntKind.i64 false 0, AV.int IntKind.i64 false 0, AV.int IntKind.i64 false 0]))
theorem run_skylightref11_At (a_x : Int) (a_y : Int) (a_z : Int) (b_x : Int) (b_y : Int) (b_z : Int) (c_x : Int) (c_y : Int) (c_z : Int) (u : Int) (v : Int) (h_a_x : InR .i64 a_x) (h_a_y : InR .i64 a_y) (h_a_z : InR .i64 a_z) (h_b_x : InR .i64 b_x) (h_b_y : InR .i64 b_y) (h_b_z : InR .i64 b_z) (h_c_x : InR .i64 c_x) (h_c_y : InR .i64 c_y) (h_c_z : InR .i64 c_z) (h_u : InR .i64 u) (h_v : InR .i64 v) : (tr_skylightref11_At a_x a_y a_z b_x b_y b_z c_x c_y c_z u v).run = some (v3 (ptC a_x b_x c_x a_x a_y a_z b_x b_y b_z c_x c_y c_z u v) (ptC a_y b_y c_y a_x a_y a_z b_x b_y b_z c_x c_y c_z u v) (ptC a_z b_z c_z a_x a_y a_z b_x b_y b_z c_x c_y c_z u v)) := by
  unfold tr_skylightref11_At
  by_cases hp : (placeB a_x a_y a_z = true ∧ placeB b_x b_y b_z = true ∧ placeB c_x c_y c_z = true) ∧ ((0 ≤ u ∧ u ≤ 65536) ∧ (0 ≤ v ∧ v ≤ 65536))
  rotate_left
  · have ok : ptOk a_x a_y a_z b_x b_y b_z c_x c_y c_z u v = false := by
      unfold ptOk; rw [← Bool.not_eq_true]; intro h; simp only [Bool.and_eq_true, decide_eq_true_eq] at h; exact hp ⟨places_r h.1, h.2⟩
    unfold ptC
    rw [ok]
    cases h1 : placeB a_x a_y a_z
    · rfl
    cases h2 : placeB b_x b_y b_z
    · rfl
    cases h3 : placeB c_x c_y c_z
    · rfl
    have hq : ¬ ((0 ≤ u ∧ u ≤ 65536) ∧ (0 ≤ v ∧ v ≤ 65536)) := fun h => hp ⟨⟨h1, h2, h3⟩, h⟩
    (try simp only [mm2_lt, mm2_gt])
    (repeat' (first | rfl | (refine run_guard (fun _ => ?_) (fun _ => ?_)))) <;> (exfalso; simp only [Bool.not_true, Bool.false_eq_true, decide_eq_true_eq, decide_eq_false_iff_not] at *; omega)
  obtain ⟨⟨ha, hb, hc⟩, hu, hv⟩ := hp
  have hz : placesB a_x a_y a_z b_x b_y b_z c_x c_y c_z = true := by unfold placesB; rw [ha, hb, hc]; rfl
  have ok : ptOk a_x a_y a_z b_x b_y b_z c_x c_y c_z u v = true := by unfold ptOk; rw [hz, decide_eq_true (show (0 ≤ u ∧ u ≤ 65536) ∧ (0 ≤ v ∧ v ≤ 65536) from ⟨hu, hv⟩)]; rfl
  have ra := place_r ha
  have rb := place_r hb
  have rc := place_r hc
  unfold ptC ptS
  rw [ok, ha, hb, hc]
  (try simp only [mm2_lt, mm2_gt])
  rw [wrap_i64_id (n := u + v) (by omega), wrap_i64_id (n := 65536 - u) (by omega), wrap_i64_id (n := 65536 - v) (by omega)]
  by_cases huv : u + v > 65536
  · simp only [if_pos huv]
    rw [share_ref ra.1 rb.1 rc.1 (u := 65536 - u) (v := 65536 - v) (by omega) (by omega), share_ref ra.2.1 rb.2.1 rc.2.1 (u := 65536 - u) (v := 65536 - v) (by omega) (by omega), share_ref ra.2.2 rb.2.2 rc.2.2 (u := 65536 - u) (v := 65536 - v) (by omega) (by omega)]
    repeat (first | refine (run_t (by first | rfl | (simp only [decide_eq_true_eq, decide_eq_false_iff_not, Bool.not_eq_true', Bool.not_eq_false', beq_iff_eq, beq_eq_false_iff_ne, mm2_lt, mm2_gt, min_r, ne_eq]; omega))).trans ?_ | refine (run_f (by first | rfl | (simp only [decide_eq_true_eq, decide_eq_false_iff_not, Bool.not_eq_true', Bool.not_eq_false', beq_iff_eq, beq_eq_false_iff_ne, mm2_lt, mm2_gt, min_r, ne_eq]; omega))).trans ?_)
    rfl
  · simp only [if_neg huv]
    rw [share_ref ra.1 rb.1 rc.1 hu hv, share_ref ra.2.1 rb.2.1 rc.2.1 hu hv, share_ref ra.2.2 rb.2.2 rc.2.2 hu hv]
    repeat (first | refine (run_t (by first | rfl | (simp only [decide_eq_true_eq, decide_eq_false_iff_not, Bool.not_eq_true', Bool.not_eq_false', beq_iff_eq, beq_eq_false_iff_ne, mm2_lt, mm2_gt, min_r, ne_eq]; omega))).trans ?_ | refine (run_f (by first | rfl | (simp only [decide_eq_true_eq, decide_eq_false_iff_not, Bool.not_eq_true', Bool.not_eq_false', beq_iff_eq, beq_eq_false_iff_ne, mm2_lt, mm2_gt, min_r, ne_eq]; omega))).trans ?_)
    rfl

end Go.Sky

/- Triangles: the plain laws. -/
set_option linter.unusedSimpArgs false
set_option linter.unusedVariables false
namespace Go.Sky

section
variable {ax ay az bx b_y bz cx cy cz ox oy oz dx dy dz : Int}

theorem up_cyc (a a' b b' c c' : Int) : upC b b' c c' a a' = upC a a' b b' c c' := by unfold upC; grind
theorem up_swap (a a' b b' c c' : Int) : upC a a' c c' b b' = -upC a a' b b' c c' := by unfold upC; grind

theorem places_cyc : placesB bx b_y bz cx cy cz ax ay az = placesB ax ay az bx b_y bz cx cy cz := by
  unfold placesB; cases placeB ax ay az <;> cases placeB bx b_y bz <;> cases placeB cx cy cz <;> rfl
theorem places_swap : placesB ax ay az cx cy cz bx b_y bz = placesB ax ay az bx b_y bz cx cy cz := by
  unfold placesB; cases placeB ax ay az <;> cases placeB bx b_y bz <;> cases placeB cx cy cz <;> rfl

theorem vol_cyc (a b c d e f g h i : Int) : vol3 d e f g h i a b c = vol3 a b c d e f g h i := by unfold vol3 dotI; grind
theorem vol_swap (a b c d e f g h i : Int) : vol3 a b c g h i d e f = -vol3 a b c d e f g h i := by unfold vol3 dotI; grind

/-- What is so of a triangle, in whatever order its corners are told. -/
structure Alike (ax ay az bx b_y bz cx cy cz ax' ay' az' bx' by' bz' cx' cy' cz' ox oy oz dx dy dz : Int) : Prop where
  num : tNum ax' ay' az' bx' by' bz' cx' cy' cz' ox oy oz dx dy dz = tNum ax ay az bx b_y bz cx cy cz ox oy oz dx dy dz
  den : tDen ax' ay' az' bx' by' bz' cx' cy' cz' ox oy oz dx dy dz = tDen ax ay az bx b_y bz cx cy cz ox oy oz dx dy dz
  ok : tOk ax' ay' az' bx' by' bz' cx' cy' cz' ox oy oz dx dy dz = tOk ax ay az bx b_y bz cx cy cz ox oy oz dx dy dz
  flat : flatB ax' ay' az' bx' by' bz' cx' cy' cz' = flatB ax ay az bx b_y bz cx cy cz
  area : areaN ax' ay' az' bx' by' bz' cx' cy' cz' = areaN ax ay az bx b_y bz cx cy cz

theorem Alike.trans {ax ay az bx b_y bz cx cy cz ax' ay' az' bx' by' bz' cx' cy' cz' a2 a3 a4 b2 b3 b4 c2 c3 c4 ox oy oz dx dy dz : Int} (h : Alike ax ay az bx b_y bz cx cy cz ax' ay' az' bx' by' bz' cx' cy' cz' ox oy oz dx dy dz)
    (k : Alike ax' ay' az' bx' by' bz' cx' cy' cz' a2 a3 a4 b2 b3 b4 c2 c3 c4 ox oy oz dx dy dz) : Alike ax ay az bx b_y bz cx cy cz a2 a3 a4 b2 b3 b4 c2 c3 c4 ox oy oz dx dy dz :=
  ⟨k.num.trans h.num, k.den.trans h.den, k.ok.trans h.ok, k.flat.trans h.flat, k.area.trans h.area⟩

theorem alike_cyc : Alike ax ay az bx b_y bz cx cy cz bx b_y bz cx cy cz ax ay az ox oy oz dx dy dz := by
  have hX : tX bx b_y bz cx cy cz ax ay az ox oy oz dx dy dz = tY ax ay az bx b_y bz cx cy cz ox oy oz dx dy dz := rfl
  have hY : tY bx b_y bz cx cy cz ax ay az ox oy oz dx dy dz = tZ ax ay az bx b_y bz cx cy cz ox oy oz dx dy dz := rfl
  have hZ : tZ bx b_y bz cx cy cz ax ay az ox oy oz dx dy dz = tX ax ay az bx b_y bz cx cy cz ox oy oz dx dy dz := rfl
  have hN : tN bx b_y bz cx cy cz ax ay az ox oy oz = tN ax ay az bx b_y bz cx cy cz ox oy oz := by unfold tN; exact vol_cyc _ _ _ _ _ _ _ _ _
  have hok : tOk bx b_y bz cx cy cz ax ay az ox oy oz dx dy dz = tOk ax ay az bx b_y bz cx cy cz ox oy oz dx dy dz := by
    unfold tOk tMay
    rw [places_cyc, hX, hY, hZ, hN]
    congr 1
    rw [decide_eq_decide]
    unfold oneSign
    omega
  refine ⟨?_, ?_, hok, ?_, ?_⟩
  · unfold tNum; rw [hok, hN]
  · unfold tDen; rw [hok, hX, hY, hZ]
    congr 2; omega
  · unfold flatB; rw [places_cyc, up_cyc ay az b_y bz cy cz, up_cyc az ax bz bx cz cx, up_cyc ax ay bx b_y cx cy]
  · unfold areaN up2; rw [places_cyc, up_cyc ay az b_y bz cy cz, up_cyc az ax bz bx cz cx, up_cyc ax ay bx b_y cx cy]

theorem dotI_nn (x y z a b c : Int) : dotI (-x) (-y) (-z) (-a) (-b) (-c) = dotI x y z a b c := by unfold dotI; rw [Int.neg_mul_neg, Int.neg_mul_neg, Int.neg_mul_neg]

theorem alike_swap : Alike ax ay az bx b_y bz cx cy cz ax ay az cx cy cz bx b_y bz ox oy oz dx dy dz := by
  have hX : tX ax ay az cx cy cz bx b_y bz ox oy oz dx dy dz = -tX ax ay az bx b_y bz cx cy cz ox oy oz dx dy dz := by unfold tX; exact vol_swap _ _ _ _ _ _ _ _ _
  have hY : tY ax ay az cx cy cz bx b_y bz ox oy oz dx dy dz = -tZ ax ay az bx b_y bz cx cy cz ox oy oz dx dy dz := by unfold tY tZ; exact vol_swap _ _ _ _ _ _ _ _ _
  have hZ : tZ ax ay az cx cy cz bx b_y bz ox oy oz dx dy dz = -tY ax ay az bx b_y bz cx cy cz ox oy oz dx dy dz := by unfold tY tZ; exact vol_swap _ _ _ _ _ _ _ _ _
  have hN : tN ax ay az cx cy cz bx b_y bz ox oy oz = -tN ax ay az bx b_y bz cx cy cz ox oy oz := by unfold tN; exact vol_swap _ _ _ _ _ _ _ _ _
  have hok : tOk ax ay az cx cy cz bx b_y bz ox oy oz dx dy dz = tOk ax ay az bx b_y bz cx cy cz ox oy oz dx dy dz := by
    unfold tOk tMay
    rw [places_swap, hX, hY, hZ, hN]
    congr 1
    rw [decide_eq_decide]
    unfold oneSign
    omega
  refine ⟨?_, ?_, hok, ?_, ?_⟩
  · unfold tNum; rw [hok, hN]
    congr 1; unfold sz; omega
  · unfold tDen; rw [hok, hX, hY, hZ]
    congr 1; unfold sz; omega
  · unfold flatB; rw [places_swap, up_swap ay az b_y bz cy cz, up_swap az ax bz bx cz cx, up_swap ax ay bx b_y cx cy]
    congr 1
    rw [decide_eq_decide]
    omega
  · unfold areaN up2; rw [places_swap, up_swap ay az b_y bz cy cz, up_swap az ax bz bx cz cx, up_swap ax ay bx b_y cx cy, dotI_nn]

theorem moved {x y z : Int} (h1 : placesB ax ay az bx b_y bz cx cy cz = true) (h2 : placeB ox oy oz = true) (k1 : placesB (ax + x) (ay + y) (az + z) (bx + x) (b_y + y) (bz + z) (cx + x) (cy + y) (cz + z) = true) (k2 : placeB (ox + x) (oy + y) (oz + z) = true) :
    tNum (ax + x) (ay + y) (az + z) (bx + x) (b_y + y) (bz + z) (cx + x) (cy + y) (cz + z) (ox + x) (oy + y) (oz + z) dx dy dz = tNum ax ay az bx b_y bz cx cy cz ox oy oz dx dy dz ∧
    tDen (ax + x) (ay + y) (az + z) (bx + x) (b_y + y) (bz + z) (cx + x) (cy + y) (cz + z) (ox + x) (oy + y) (oz + z) dx dy dz = tDen ax ay az bx b_y bz cx cy cz ox oy oz dx dy dz ∧
    tOk (ax + x) (ay + y) (az + z) (bx + x) (b_y + y) (bz + z) (cx + x) (cy + y) (cz + z) (ox + x) (oy + y) (oz + z) dx dy dz = tOk ax ay az bx b_y bz cx cy cz ox oy oz dx dy dz := by
  have e : ∀ a o w : Int, a + w - (o + w) = a - o := fun a o w => by omega
  have hok : tOk (ax + x) (ay + y) (az + z) (bx + x) (b_y + y) (bz + z) (cx + x) (cy + y) (cz + z) (ox + x) (oy + y) (oz + z) dx dy dz = tOk ax ay az bx b_y bz cx cy cz ox oy oz dx dy dz := by
    unfold tOk tMay
    rw [h1, h2, k1, k2]
    unfold tX tY tZ tN
    simp only [e]
  refine ⟨?_, ?_, hok⟩
  · unfold tNum; rw [hok]; unfold tN; simp only [e]
  · unfold tDen; rw [hok]; unfold tX tY tZ; simp only [e]

end

end Go.Sky

/- Balls: the plain laws. -/
set_option linter.unusedSimpArgs false
set_option linter.unusedVariables false
namespace Go.Sky

theorem cmp0 {V : Int} (h : -170141183460469231731687303715884105728 ≤ V ∧ V < 170141183460469231731687303715884105728) : (cmpI (wv (whi V) (wlo V)) 0 ≤ 0 ↔ V ≤ 0) ∧ (cmpI (wv (whi V) (wlo V)) 0 > 0 ↔ V > 0) := by
  rw [wv_sg, sg_id h]
  unfold cmpI
  constructor <;> (split <;> (try split)) <;> omega

theorem tmod_r (x : Int) {m : Int} (hm : 0 < m) : -m < x.tmod m ∧ x.tmod m < m := by
  rcases Int.lt_or_le x 0 with h | h
  · have e : x.tmod m = -((-x).tmod m) := by
      have := Int.neg_tmod (-x) m
      rw [Int.neg_neg] at this
      exact this
    rw [e, Int.tmod_eq_emod_of_nonneg (by omega)]
    have h1 := Int.emod_nonneg (-x) (show m ≠ 0 by omega)
    have h2 := Int.emod_lt_of_pos (-x) hm
    omega
  · rw [Int.tmod_eq_emod_of_nonneg h]
    have h1 := Int.emod_nonneg x (show m ≠ 0 by omega)
    have h2 := Int.emod_lt_of_pos x hm
    omega

/-- What is so where a ball is met. -/
theorem hit_facts {cx cy cz r ox oy oz dx dy dz : Int} (h : hitOk cx cy cz r ox oy oz dx dy dz = true) :
    mayE cx cy cz r ox oy oz dx dy dz = true ∧ 0 < bA dx dy dz ∧ hitD cx cy cz r ox oy oz dx dy dz = bA dx dy dz ∧ 1 ≤ hitN cx cy cz r ox oy oz dx dy dz ∧ 0 ≤ bDisc cx cy cz r ox oy oz dx dy dz ∧
    ((bQ cx cy cz r ox oy oz > 0 ∧ hitN cx cy cz r ox oy oz dx dy dz = -bB cx cy cz ox oy oz dx dy dz - bS cx cy cz r ox oy oz dx dy dz) ∨
     (bQ cx cy cz r ox oy oz ≤ 0 ∧ hitN cx cy cz r ox oy oz dx dy dz = bS cx cy cz r ox oy oz dx dy dz - bB cx cy cz ox oy oz dx dy dz)) ∧
    0 ≤ bS cx cy cz r ox oy oz dx dy dz ∧ bS cx cy cz r ox oy oz dx dy dz * bS cx cy cz r ox oy oz dx dy dz ≤ bDisc cx cy cz r ox oy oz dx dy dz ∧
    bDisc cx cy cz r ox oy oz dx dy dz < (bS cx cy cz r ox oy oz dx dy dz + 1) * (bS cx cy cz r ox oy oz dx dy dz + 1) := by
  have h0 := h
  unfold hitOk at h
  simp only [Bool.and_eq_true, decide_eq_true_eq] at h
  obtain ⟨⟨hm, hD⟩, hc⟩ := h
  rw [bMay_iff] at hm
  simp only [Bool.and_eq_true, Bool.not_eq_true', decide_eq_false_iff_not] at hm
  obtain ⟨hm, hd0⟩ := hm
  obtain ⟨_, _, _, _, r1, r2, r3, r4⟩ := ball_facts hm
  obtain ⟨d1, d2, d3, d4⟩ := disc_r r1 r2 r3
  obtain ⟨w1, w2, w3⟩ := root_w ⟨d1, d2⟩
  have ha : 0 < bA dx dy dz := by
    have : bA dx dy dz ≠ 0 := fun h => hd0 (r4.1 h)
    omega
  have hD' := hD
  unfold bDisc at hD'
  obtain ⟨_, s0, _, s1, s2⟩ := w2 hD'
  have eS : bS cx cy cz r ox oy oz dx dy dz = isq (bB cx cy cz ox oy oz dx dy dz * bB cx cy cz ox oy oz dx dy dz - bA dx dy dz * bQ cx cy cz r ox oy oz) := rfl
  rw [← eS] at s0 s1 s2
  have eD : hitD cx cy cz r ox oy oz dx dy dz = bA dx dy dz := by unfold hitD; rw [if_pos h0]
  have eN : hitN cx cy cz r ox oy oz dx dy dz = if bQ cx cy cz r ox oy oz > 0 then -bB cx cy cz ox oy oz dx dy dz - bS cx cy cz r ox oy oz dx dy dz else bS cx cy cz r ox oy oz dx dy dz - bB cx cy cz ox oy oz dx dy dz := by unfold hitN; rw [if_pos h0]
  refine ⟨hm, ha, eD, ?_, hD, ?_, s0, s1, s2⟩
  · rw [eN]
    rcases hc with ⟨h1, h2⟩ | ⟨h1, h2⟩
    · rw [if_pos h1]
      have := hit_pos ha s0 s1 h1 h2
      omega
    · rw [if_neg (by omega)]; omega
  · rcases hc with ⟨h1, h2⟩ | ⟨h1, h2⟩
    · exact .inl ⟨h1, by rw [eN, if_pos h1]⟩
    · exact .inr ⟨h1, by rw [eN, if_neg (by omega)]⟩

theorem vP_eq {cx cy cz r ox oy oz dx dy dz n : Int} : vP cx cy cz r ox oy oz dx dy dz n (bA dx dy dz) =
    bA dx dy dz * ((n + bB cx cy cz ox oy oz dx dy dz) * (n + bB cx cy cz ox oy oz dx dy dz) - bDisc cx cy cz r ox oy oz dx dy dz) := by
  unfold vP bDisc; grind

/-- Bounds of small ones. -/
theorem small_r {cx cy cz r ox oy oz dx dy dz : Int} (hc : (-2000 < cx ∧ cx < 2000) ∧ (-2000 < cy ∧ cy < 2000) ∧ (-2000 < cz ∧ cz < 2000)) (hr : 4 ≤ r ∧ r ≤ 2003)
    (ho : (-2000 < ox ∧ ox < 2000) ∧ (-2000 < oy ∧ oy < 2000) ∧ (-2000 < oz ∧ oz < 2000)) (hd : (-2000 < dx ∧ dx < 2000) ∧ (-2000 < dy ∧ dy < 2000) ∧ (-2000 < dz ∧ dz < 2000)) :
    bA dx dy dz ≤ 12000000 ∧ (-24000000 ≤ bB cx cy cz ox oy oz dx dy dz ∧ bB cx cy cz ox oy oz dx dy dz ≤ 24000000) ∧ (-4012009 ≤ bQ cx cy cz r ox oy oz ∧ bQ cx cy cz r ox oy oz ≤ 48000000) := by
  have f : ∀ {x y : Int}, (-4000 ≤ x ∧ x ≤ 4000) → (-2000 ≤ y ∧ y ≤ 2000) → -8000000 ≤ x * y ∧ x * y ≤ 8000000 := fun h k => mul_abs h k
  have g : ∀ {x y : Int}, (-4000 ≤ x ∧ x ≤ 4000) → (-4000 ≤ y ∧ y ≤ 4000) → -16000000 ≤ x * y ∧ x * y ≤ 16000000 := fun h k => mul_abs h k
  have k : ∀ {x y : Int}, (-2000 ≤ x ∧ x ≤ 2000) → (-2000 ≤ y ∧ y ≤ 2000) → -4000000 ≤ x * y ∧ x * y ≤ 4000000 := fun h k => mul_abs h k
  have a1 := k (x := dx) (y := dx) (by omega) (by omega); have a2 := k (x := dy) (y := dy) (by omega) (by omega); have a3 := k (x := dz) (y := dz) (by omega) (by omega)
  have b1 := f (x := ox - cx) (y := dx) (by omega) (by omega); have b2 := f (x := oy - cy) (y := dy) (by omega) (by omega); have b3 := f (x := oz - cz) (y := dz) (by omega) (by omega)
  have c1 := g (x := ox - cx) (y := ox - cx) (by omega) (by omega); have c2 := g (x := oy - cy) (y := oy - cy) (by omega) (by omega); have c3 := g (x := oz - cz) (y := oz - cz) (by omega) (by omega)
  have s1 := sq_nonneg (ox - cx); have s2 := sq_nonneg (oy - cy); have s3 := sq_nonneg (oz - cz)
  have rr := mul_mono (a := r) (b := 2003) (c := r) (d := 2003) (by omega) hr.2 (by omega) hr.2
  unfold bA bB bQ dotI
  omega

theorem met_core {a b q s n D : Int} (ha : 0 < a ∧ a ≤ 12000000) (hb : -24000000 ≤ b ∧ b ≤ 24000000) (hq : -4012009 ≤ q ∧ q ≤ 48000000) (eD : D = b * b - a * q) (hD : 0 ≤ D) (s0 : 0 ≤ s) (s1 : s * s ≤ D) (s2 : D < (s + 1) * (s + 1))
    (hn : (q > 0 ∧ n = -b - s) ∨ (q ≤ 0 ∧ n = s - b)) :
    n ≤ 60000000 ∧ (a * ((n + b) * (n + b) - D) ≤ 0 ∧ -170141183460469231731687303715884105728 ≤ a * ((n + b) * (n + b) - D)) ∧
    (q ≤ 0 → a * ((n + 1 + b) * (n + 1 + b) - D) > 0 ∧ a * ((n + 1 + b) * (n + 1 + b) - D) < 170141183460469231731687303715884105728) ∧
    (q > 0 → a * ((n - 1 + b) * (n - 1 + b) - D) > 0 ∧ a * ((n - 1 + b) * (n - 1 + b) - D) < 170141183460469231731687303715884105728) := by
  have b1 := mul_abs hb hb
  have a1 := mul_abs (x := a) (y := q) (m := 12000000) (k := 48000000) (by omega) (by omega)
  have hs : s < 33941126 := sq_lt s0 (by decide) (by omega)
  have t : (s + 1) * (s + 1) = s * s + 2 * s + 1 := by grind
  have e1 : (n + b) * (n + b) = s * s := by
    rcases hn with ⟨_, h⟩ | ⟨_, h⟩ <;> subst h <;> grind
  have up : ∀ X : Int, 0 < X → X ≤ 100000000 → 0 < a * X ∧ a * X < 170141183460469231731687303715884105728 := by
    intro X h1 h2
    have := Int.mul_le_mul ha.2 h2 (by omega) (by omega)
    exact ⟨Int.mul_pos ha.1 h1, by omega⟩
  refine ⟨by omega, ?_, fun h => ?_, fun h => ?_⟩
  · rw [e1]
    have := mul_abs (x := a) (y := s * s - D) (m := 12000000) (k := 2000000000000000) (by omega) (by omega)
    refine ⟨?_, by omega⟩
    have h2 : a * (D - s * s) ≥ 0 := Int.mul_nonneg (by omega) (by omega)
    rw [show a * (s * s - D) = -(a * (D - s * s)) by grind]
    omega
  · have e2 : (n + 1 + b) * (n + 1 + b) = (s + 1) * (s + 1) := by
      rcases hn with ⟨h', _⟩ | ⟨_, h⟩
      · omega
      · subst h; grind
    rw [e2]
    exact up _ (by omega) (by omega)
  · have e2 : (n - 1 + b) * (n - 1 + b) = (s + 1) * (s + 1) := by
      rcases hn with ⟨_, h⟩ | ⟨h', _⟩
      · subst h; grind
      · omega
    rw [e2]
    exact up _ (by omega) (by omega)

theorem upS_pos : ∀ (k : Nat) (x m : Int), 0 ≤ x → 0 ≤ upS k x m
  | 0, x, m, h => h
  | k + 1, x, m, h => by
    simp only [upS]
    split
    · exact upS_pos k _ _ (by omega)
    · exact h
theorem downS_pos : ∀ (k : Nat) (x m : Int), 0 ≤ x → 0 ≤ downS k x m
  | 0, x, m, h => h
  | k + 1, x, m, h => by
    simp only [downS]
    split
    · exact downS_pos k _ _ ((tdiv2 x).1 h).1
    · exact h

/-- A direction's coordinate bears the vector's sign. -/
theorem unitC_sign {x y z : Int} (h : okU x y z = true) (c : Int) : 0 ≤ unitC x y z c * c := by
  have e : unitC x y z c = (nrm x y z c * 16384).tdiv (lenU x y z) := by unfold unitC; rw [if_pos h]
  obtain ⟨_, l1, _⟩ := len_spec h
  have pos : ∀ c : Int, 0 ≤ c → 0 ≤ nrm x y z c := fun c hc => downS_pos _ _ _ (upS_pos _ _ _ hc)
  have neg : ∀ c : Int, nrm x y z (-c) = -(nrm x y z c) := fun c => by unfold nrm; rw [upS_neg, downS_neg]
  rw [e]
  rcases Int.lt_or_le c 0 with hc | hc
  · have h1 := pos (-c) (by omega)
    rw [neg] at h1
    have h2 : (nrm x y z c * 16384).tdiv (lenU x y z) ≤ 0 := by
      have := (tdiv_facts (A := nrm x y z c * 16384) (l := lenU x y z) (by omega))
      rcases Int.lt_or_le (nrm x y z c * 16384) 0 with h3 | h3
      · have h4 := (this.2 h3).1
        rcases Int.lt_or_le 0 ((nrm x y z c * 16384).tdiv (lenU x y z)) with h5 | h5
        · have := Int.mul_pos (show 0 < lenU x y z by omega) h5; omega
        · exact h5
      · have : nrm x y z c * 16384 = 0 := by omega
        rw [this]; simp
    exact Int.mul_nonneg_of_nonpos_of_nonpos h2 (by omega)
  · exact Int.mul_nonneg (Int.tdiv_nonneg (by have := pos c hc; omega) (by omega)) hc

theorem unitC_zero {x y z : Int} (h : okU x y z = true) : unitC x y z 0 = 0 := by
  have e : unitC x y z 0 = (nrm x y z 0 * 16384).tdiv (lenU x y z) := by unfold unitC; rw [if_pos h]
  have n0 : nrm x y z 0 = -(nrm x y z 0) := by
    have : nrm x y z (-0) = -(nrm x y z 0) := by unfold nrm; rw [upS_neg, downS_neg]
    simpa using this
  rw [e, show nrm x y z 0 = 0 by omega]; simp

/-- A direction looks along its vector. -/
theorem unit_along {x y z : Int} (h : okU x y z = true) : 0 < unitC x y z x * x + unitC x y z y * y + unitC x y z z * z := by
  obtain ⟨u1, _⟩ := unitC_r h
  have sx := unitC_sign h x; have sy := unitC_sign h y; have sz := unitC_sign h z
  have key : ∀ c : Int, unitC x y z c * c = 0 → unitC x y z c * unitC x y z c = 0 := by
    intro c hc
    rcases Int.mul_eq_zero.1 hc with h1 | h1
    · rw [h1]; rfl
    · rw [h1, unitC_zero h]; rfl
  rcases Int.lt_or_le 0 (unitC x y z x * x + unitC x y z y * y + unitC x y z z * z) with h1 | h1
  · exact h1
  · exfalso
    have a := key x (by omega); have b := key y (by omega); have c := key z (by omega)
    omega

/-- Through its middle a ball is met. -/
theorem through_mid {cx cy cz r ox oy oz : Int} (hR : bRight cx cy cz r = true) (hP : placeB ox oy oz = true) (hne : ¬ (ox = cx ∧ oy = cy ∧ oz = cz))
    (h1 : (-131072 ≤ cx - ox ∧ cx - ox ≤ 131072) ∧ (-131072 ≤ cy - oy ∧ cy - oy ≤ 131072) ∧ (-131072 ≤ cz - oz ∧ cz - oz ≤ 131072)) :
    hitOk cx cy cz r ox oy oz (cx - ox) (cy - oy) (cz - oz) = true ∧ thrOk cx cy cz r ox oy oz (cx - ox) (cy - oy) (cz - oz) = true ∧
    thrN cx cy cz r ox oy oz (cx - ox) (cy - oy) (cz - oz) = 2 * thrD cx cy cz r ox oy oz (cx - ox) (cy - oy) (cz - oz) ∧ 0 ≤ thrD cx cy cz r ox oy oz (cx - ox) (cy - oy) (cz - oz) ∧ thrD cx cy cz r ox oy oz (cx - ox) (cy - oy) (cz - oz) ≤ 3298534883328 := by
  have nd : nearB (cx - ox) (cy - oy) (cz - oz) = true := by unfold nearB; exact decide_eq_true (by omega)
  have hm : mayE cx cy cz r ox oy oz (cx - ox) (cy - oy) (cz - oz) = true := by unfold mayE; rw [hR, hP, nd]; rfl
  have hd0 : ¬ (cx - ox = 0 ∧ cy - oy = 0 ∧ cz - oz = 0) := by omega
  have may : bMay cx cy cz r ox oy oz (cx - ox) (cy - oy) (cz - oz) = true := by rw [bMay_iff, hm, decide_eq_false hd0]; rfl
  obtain ⟨_, _, _, _, r1, r2, r3, r4⟩ := ball_facts hm
  obtain ⟨d1, d2, d3, d4⟩ := disc_r r1 r2 r3
  obtain ⟨w1, w2, w3⟩ := root_w ⟨d1, d2⟩
  have ha : 0 < bA (cx - ox) (cy - oy) (cz - oz) := by
    have : bA (cx - ox) (cy - oy) (cz - oz) ≠ 0 := fun h => hd0 (r4.1 h)
    omega
  have eB : bB cx cy cz ox oy oz (cx - ox) (cy - oy) (cz - oz) = -bA (cx - ox) (cy - oy) (cz - oz) := by unfold bB bA dotI; grind
  have eQ : bQ cx cy cz r ox oy oz = bA (cx - ox) (cy - oy) (cz - oz) - r * r := by unfold bQ bA dotI; grind
  have eD : bDisc cx cy cz r ox oy oz (cx - ox) (cy - oy) (cz - oz) = bA (cx - ox) (cy - oy) (cz - oz) * (r * r) := by unfold bDisc; rw [eB, eQ]; grind
  have hD : 0 ≤ bDisc cx cy cz r ox oy oz (cx - ox) (cy - oy) (cz - oz) := by rw [eD]; exact Int.mul_nonneg (by omega) (sq_nonneg r)
  have hS : 0 ≤ bS cx cy cz r ox oy oz (cx - ox) (cy - oy) (cz - oz) := (w2 hD).2.1
  have hok : hitOk cx cy cz r ox oy oz (cx - ox) (cy - oy) (cz - oz) = true := by
    unfold hitOk; rw [may, decide_eq_true hD, Bool.true_and, Bool.true_and, eB]
    apply decide_eq_true
    rcases Int.lt_or_le 0 (bQ cx cy cz r ox oy oz) with h | h
    · exact .inl ⟨h, by omega⟩
    · exact .inr ⟨h, by omega⟩
  have tok : thrOk cx cy cz r ox oy oz (cx - ox) (cy - oy) (cz - oz) = true := by
    unfold thrOk; rw [may, eB, Bool.true_and]; exact decide_eq_true (by omega)
  refine ⟨hok, tok, ?_, ?_, ?_⟩
  · unfold thrN thrD; rw [if_pos tok, if_pos tok, eB]; omega
  · unfold thrD; rw [if_pos tok]; omega
  · unfold thrD; rw [if_pos tok]; omega

end Go.Sky

/- Triangles: a point of one is met. -/
set_option linter.unusedSimpArgs false
set_option linter.unusedVariables false
namespace Go.Sky

theorem vol_lin (u v w a b c d e f g h i : Int) :
    vol3 (u * a + v * d + w * g) (u * b + v * e + w * h) (u * c + v * f + w * i) d e f g h i = u * vol3 a b c d e f g h i ∧
    vol3 (u * a + v * d + w * g) (u * b + v * e + w * h) (u * c + v * f + w * i) g h i a b c = v * vol3 a b c d e f g h i ∧
    vol3 (u * a + v * d + w * g) (u * b + v * e + w * h) (u * c + v * f + w * i) a b c d e f = w * vol3 a b c d e f g h i := by
  refine ⟨?_, ?_, ?_⟩ <;> (unfold vol3 dotI; grind)

theorem vol_small {a b c d e f g h i : Int} (h1 : (-998 ≤ a ∧ a ≤ 998) ∧ (-998 ≤ b ∧ b ≤ 998) ∧ (-998 ≤ c ∧ c ≤ 998)) (h2 : (-998 ≤ d ∧ d ≤ 998) ∧ (-998 ≤ e ∧ e ≤ 998) ∧ (-998 ≤ f ∧ f ≤ 998)) (h3 : (-998 ≤ g ∧ g ≤ 998) ∧ (-998 ≤ h ∧ h ≤ 998) ∧ (-998 ≤ i ∧ i ≤ 998)) :
    -6000000000 ≤ vol3 a b c d e f g h i ∧ vol3 a b c d e f g h i ≤ 6000000000 := by
  have k : ∀ {x y : Int}, (-998 ≤ x ∧ x ≤ 998) → (-998 ≤ y ∧ y ≤ 998) → -996004 ≤ x * y ∧ x * y ≤ 996004 := fun h k => mul_abs h k
  have l : ∀ {x y : Int}, (-998 ≤ x ∧ x ≤ 998) → (-1992008 ≤ y ∧ y ≤ 1992008) → -1988023984 ≤ x * y ∧ x * y ≤ 1988023984 := fun h k => mul_abs h k
  have a1 := k h2.2.1 h3.2.2; have a2 := k h2.2.2 h3.2.1; have a3 := k h2.2.2 h3.1; have a4 := k h2.1 h3.2.2; have a5 := k h2.1 h3.2.1; have a6 := k h2.2.1 h3.1
  have b1 := l (y := e * i - f * h) h1.1 (by omega); have b2 := l (y := f * g - d * i) h1.2.1 (by omega); have b3 := l (y := d * h - e * g) h1.2.2 (by omega)
  unfold vol3 dotI
  omega

/-- What is met of a triangle from beside its plane, by a point's weights. -/
theorem tri_met {ax ay az bx b_y bz cx cy cz ox oy oz u v w : Int} (ha : (-500 < ax ∧ ax < 500) ∧ (-500 < ay ∧ ay < 500) ∧ (-500 < az ∧ az < 500)) (hb : (-500 < bx ∧ bx < 500) ∧ (-500 < b_y ∧ b_y < 500) ∧ (-500 < bz ∧ bz < 500))
    (hc : (-500 < cx ∧ cx < 500) ∧ (-500 < cy ∧ cy < 500) ∧ (-500 < cz ∧ cz < 500)) (ho : (-500 < ox ∧ ox < 500) ∧ (-500 < oy ∧ oy < 500) ∧ (-500 < oz ∧ oz < 500)) (hu : 0 ≤ u ∧ u ≤ 8) (hv : 0 ≤ v ∧ v ≤ 8) (hw : 0 ≤ w ∧ w ≤ 8) (hs : u + v + w ≠ 0) {dx dy dz : Int}
    (ex : dx = u * ax + v * bx + w * cx - (u + v + w) * ox) (ey : dy = u * ay + v * b_y + w * cy - (u + v + w) * oy) (ez : dz = u * az + v * bz + w * cz - (u + v + w) * oz) :
    volN (bx - ax) (b_y - ay) (bz - az) (cx - ax) (cy - ay) (cz - az) (ox - ax) (oy - ay) (oz - az) = -tN ax ay az bx b_y bz cx cy cz ox oy oz ∧
    (tN ax ay az bx b_y bz cx cy cz ox oy oz = 0 → tOk ax ay az bx b_y bz cx cy cz ox oy oz dx dy dz = false) ∧
    (tN ax ay az bx b_y bz cx cy cz ox oy oz ≠ 0 → tOk ax ay az bx b_y bz cx cy cz ox oy oz dx dy dz = true ∧ IntKind.i64.wrap (tNum ax ay az bx b_y bz cx cy cz ox oy oz dx dy dz * (u + v + w)) = tDen ax ay az bx b_y bz cx cy cz ox oy oz dx dy dz ∧ 0 < tDen ax ay az bx b_y bz cx cy cz ox oy oz dx dy dz) := by
  have P : ∀ {x y z : Int}, (-500 < x ∧ x < 500) ∧ (-500 < y ∧ y < 500) ∧ (-500 < z ∧ z < 500) → placeB x y z = true := fun h => by unfold placeB; exact decide_eq_true (by omega)
  have pa := P ha; have pb := P hb; have pc := P hc; have po := P ho
  have m : ∀ {x k : Int}, (-500 < x ∧ x < 500) → (0 ≤ k ∧ k ≤ 24) → -12000 ≤ k * x ∧ k * x ≤ 12000 := fun {x k} h1 h2 => by have := mul_abs (x := k) (y := x) (m := 24) (k := 500) (by omega) (by omega); omega
  have nd : nearB dx dy dz = true := by
    have a1 := m ha.1 (k := u) (by omega); have a2 := m hb.1 (k := v) (by omega); have a3 := m hc.1 (k := w) (by omega); have a4 := m ho.1 (k := u + v + w) (by omega)
    have b1 := m ha.2.1 (k := u) (by omega); have b2 := m hb.2.1 (k := v) (by omega); have b3 := m hc.2.1 (k := w) (by omega); have b4 := m ho.2.1 (k := u + v + w) (by omega)
    have c1 := m ha.2.2 (k := u) (by omega); have c2 := m hb.2.2 (k := v) (by omega); have c3 := m hc.2.2 (k := w) (by omega); have c4 := m ho.2.2 (k := u + v + w) (by omega)
    unfold nearB; exact decide_eq_true (by omega)
  have hm : tMay ax ay az bx b_y bz cx cy cz ox oy oz dx dy dz = true := by unfold tMay placesB; rw [pa, pb, pc, po, nd]; rfl
  obtain ⟨⟨_, _, _, v4⟩, _⟩ := tri_facts hm
  have dx' : dx = u * (ax - ox) + v * (bx - ox) + w * (cx - ox) := by rw [ex]; grind
  have dy' : dy = u * (ay - oy) + v * (b_y - oy) + w * (cy - oy) := by rw [ey]; grind
  have dz' : dz = u * (az - oz) + v * (bz - oz) + w * (cz - oz) := by rw [ez]; grind
  obtain ⟨l1, l2, l3⟩ := vol_lin u v w (ax - ox) (ay - oy) (az - oz) (bx - ox) (b_y - oy) (bz - oz) (cx - ox) (cy - oy) (cz - oz)
  rw [← dx', ← dy', ← dz'] at l1 l2 l3
  have eX : tX ax ay az bx b_y bz cx cy cz ox oy oz dx dy dz = u * tN ax ay az bx b_y bz cx cy cz ox oy oz := l1
  have eY : tY ax ay az bx b_y bz cx cy cz ox oy oz dx dy dz = v * tN ax ay az bx b_y bz cx cy cz ox oy oz := l2
  have eZ : tZ ax ay az bx b_y bz cx cy cz ox oy oz dx dy dz = w * tN ax ay az bx b_y bz cx cy cz ox oy oz := l3
  have rN : -6000000000 ≤ tN ax ay az bx b_y bz cx cy cz ox oy oz ∧ tN ax ay az bx b_y bz cx cy cz ox oy oz ≤ 6000000000 := vol_small ⟨by omega, by omega, by omega⟩ ⟨by omega, by omega, by omega⟩ ⟨by omega, by omega, by omega⟩
  have ok : tOk ax ay az bx b_y bz cx cy cz ox oy oz dx dy dz = decide (oneSign (u * tN ax ay az bx b_y bz cx cy cz ox oy oz) (v * tN ax ay az bx b_y bz cx cy cz ox oy oz) (w * tN ax ay az bx b_y bz cx cy cz ox oy oz) (tN ax ay az bx b_y bz cx cy cz ox oy oz)) := by
    unfold tOk; rw [hm, eX, eY, eZ]; rfl
  have sum : u * tN ax ay az bx b_y bz cx cy cz ox oy oz + v * tN ax ay az bx b_y bz cx cy cz ox oy oz + w * tN ax ay az bx b_y bz cx cy cz ox oy oz = (u + v + w) * tN ax ay az bx b_y bz cx cy cz ox oy oz := by grind
  refine ⟨v4, fun h => ?_, fun h => ?_⟩
  · rw [ok, h]; apply decide_eq_false; unfold oneSign; omega
  · have hok : tOk ax ay az bx b_y bz cx cy cz ox oy oz dx dy dz = true := by
      rw [ok]; apply decide_eq_true; unfold oneSign; rw [sum]
      generalize tN ax ay az bx b_y bz cx cy cz ox oy oz = n at *
      rcases Int.lt_or_gt_of_ne h with h0 | h0
      · exact .inr ⟨Int.mul_nonpos_of_nonneg_of_nonpos hu.1 (by omega), Int.mul_nonpos_of_nonneg_of_nonpos hv.1 (by omega), Int.mul_nonpos_of_nonneg_of_nonpos hw.1 (by omega), Int.mul_neg_of_pos_of_neg (by omega) h0, h0⟩
      · exact .inl ⟨Int.mul_nonneg hu.1 (by omega), Int.mul_nonneg hv.1 (by omega), Int.mul_nonneg hw.1 (by omega), Int.mul_pos (by omega) h0, h0⟩
    have eN : tNum ax ay az bx b_y bz cx cy cz ox oy oz dx dy dz = sz (tN ax ay az bx b_y bz cx cy cz ox oy oz) := by unfold tNum; rw [if_pos hok]
    have eD : tDen ax ay az bx b_y bz cx cy cz ox oy oz dx dy dz = sz (tN ax ay az bx b_y bz cx cy cz ox oy oz) * (u + v + w) := by
      unfold tDen; rw [if_pos hok, eX, eY, eZ, sum]
      generalize tN ax ay az bx b_y bz cx cy cz ox oy oz = n at *
      unfold sz
      rcases Int.lt_or_gt_of_ne h with h0 | h0
      · rw [if_pos (Int.mul_neg_of_pos_of_neg (by omega) h0), if_pos h0]; grind
      · rw [if_neg (by have := Int.mul_pos (show 0 < u + v + w by omega) h0; omega), if_neg (by omega)]; grind
    rw [eN, eD]
    have s1 := sz_r rN
    have s0 : 0 < sz (tN ax ay az bx b_y bz cx cy cz ox oy oz) := by unfold sz; omega
    have m1 := mul_mono s1.1 s1.2 (show 0 ≤ u + v + w by omega) (show u + v + w ≤ 24 by omega)
    exact ⟨hok, wrap_i64_id (by omega), Int.mul_pos s0 (by omega)⟩

theorem d_lin {u v w a b c o : Int} (hu : 0 ≤ u ∧ u ≤ 8) (hv : 0 ≤ v ∧ v ≤ 8) (hw : 0 ≤ w ∧ w ≤ 8) (ha : -500 < a ∧ a < 500) (hb : -500 < b ∧ b < 500) (hc : -500 < c ∧ c < 500) (ho : -500 < o ∧ o < 500) :
    IntKind.i64.wrap (IntKind.i64.wrap (IntKind.i64.wrap (IntKind.i64.wrap (u * a) + IntKind.i64.wrap (v * b)) + IntKind.i64.wrap (w * c)) - IntKind.i64.wrap ((u + v + w) * o)) = u * a + v * b + w * c - (u + v + w) * o := by
  have m : ∀ {x k : Int}, (-500 < x ∧ x < 500) → (0 ≤ k ∧ k ≤ 24) → -12000 ≤ k * x ∧ k * x ≤ 12000 := fun {x k} h1 h2 => by have := mul_abs (x := k) (y := x) (m := 24) (k := 500) (by omega) (by omega); omega
  have a1 := m ha (k := u) (by omega); have a2 := m hb (k := v) (by omega); have a3 := m hc (k := w) (by omega); have a4 := m ho (k := u + v + w) (by omega)
  simp only [wrap_i64]
  omega

end Go.Sky

/- Trees of functions, and what they come to. -/
set_option linter.unusedSimpArgs false
set_option linter.unusedVariables false
namespace Go.Sky
set_option maxRecDepth 100000

/-! skylightlaw11.TriMet -/
def tr_skylightlaw11_TriMet (a_x : Int) (a_y : Int) (a_z : Int) (b_x : Int) (b_y : Int) (b_z : Int) (c_x : Int) (c_y : Int) (c_z : Int) (o_x : Int) (o_y : Int) (o_z : Int) (x : Int) (y : Int) (z : Int) : Tr AV := Tr.node (IntKind.i64.wrap (IntKind.i64.wrap ((IntKind.i64.wrap x).tmod 9 + (IntKind.i64.wrap y).tmod 9) + (IntKind.i64.wrap z).tmod 9) == 0) (Tr.leaf (AV.bool false true)) (Tr.node (flatB (a_x.tmod 500) (a_y.tmod 500) (a_z.tmod 500) (b_x.tmod 500) (b_y.tmod 500) (b_z.tmod 500) (c_x.tmod 500) (c_y.tmod 500) (c_z.tmod 500)) (Tr.leaf (AV.bool false true)) (Tr.node (volN (sat (b_x.tmod 500 + sat (a_x.tmod 500 * -1))) (sat (b_y.tmod 500 + sat (a_y.tmod 500 * -1))) (sat (b_z.tmod 500 + sat (a_z.tmod 500 * -1))) (sat (c_x.tmod 500 + sat (a_x.tmod 500 * -1))) (sat (c_y.tmod 500 + sat (a_y.tmod 500 * -1))) (sat (c_z.tmod 500 + sat (a_z.tmod 500 * -1))) (sat (o_x.tmod 500 + sat (a_x.tmod 500 * -1))) (sat (o_y.tmod 500 + sat (a_y.tmod 500 * -1))) (sat (o_z.tmod 500 + sat (a_z.tmod 500 * -1))) == 0) (Tr.node (!tOk (a_x.tmod 500) (a_y.tmod 500) (a_z.tmod 500) (b_x.tmod 500) (b_y.tmod 500) (b_z.tmod 500) (c_x.tmod 500) (c_y.tmod 500) (c_z.tmod 500) (o_x.tmod 500) (o_y.tmod 500) (o_z.tmod 500) (IntKind.i64.wrap (IntKind.i64.wrap (IntKind.i64.wrap (IntKind.i64.wrap ((IntKind.i64.wrap x).tmod 9 * a_x.tmod 500) + IntKind.i64.wrap ((IntKind.i64.wrap y).tmod 9 * b_x.tmod 500)) + IntKind.i64.wrap ((IntKind.i64.wrap z).tmod 9 * c_x.tmod 500)) - IntKind.i64.wrap (IntKind.i64.wrap (IntKind.i64.wrap ((IntKind.i64.wrap x).tmod 9 + (IntKind.i64.wrap y).tmod 9) + (IntKind.i64.wrap z).tmod 9) * o_x.tmod 500))) (IntKind.i64.wrap (IntKind.i64.wrap (IntKind.i64.wrap (IntKind.i64.wrap ((IntKind.i64.wrap x).tmod 9 * a_y.tmod 500) + IntKind.i64.wrap ((IntKind.i64.wrap y).tmod 9 * b_y.tmod 500)) + IntKind.i64.wrap ((IntKind.i64.wrap z).tmod 9 * c_y.tmod 500)) - IntKind.i64.wrap (IntKind.i64.wrap (IntKind.i64.wrap ((IntKind.i64.wrap x).tmod 9 + (IntKind.i64.wrap y).tmod 9) + (IntKind.i64.wrap z).tmod 9) * o_y.tmod 500))) (IntKind.i64.wrap (IntKind.i64.wrap (IntKind.i64.wrap (IntKind.i64.wrap ((IntKind.i64.wrap x).tmod 9 * a_z.tmod 500) + IntKind.i64.wrap ((IntKind.i64.wrap y).tmod 9 * b_z.tmod 500)) + IntKind.i64.wrap ((IntKind.i64.wrap z).tmod 9 * c_z.tmod 500)) - IntKind.i64.wrap (IntKind.i64.wrap (IntKind.i64.wrap ((IntKind.i64.wrap x).tmod 9 + (IntKind.i64.wrap y).tmod 9) + (IntKind.i64.wrap z).tmod 9) * o_z.tmod 500)))) (Tr.leaf (AV.bool false true)) (Tr.leaf (AV.bool false false))) (Tr.node (tOk (a_x.tmod 500) (a_y.tmod 500) (a_z.tmod 500) (b_x.tmod 500) (b_y.tmod 500) (b_z.tmod 500) (c_x.tmod 500) (c_y.tmod 500) (c_z.tmod 500) (o_x.tmod 500) (o_y.tmod 500) (o_z.tmod 500) (IntKind.i64.wrap (IntKind.i64.wrap (IntKind.i64.wrap (IntKind.i64.wrap ((IntKind.i64.wrap x).tmod 9 * a_x.tmod 500) + IntKind.i64.wrap ((IntKind.i64.wrap y).tmod 9 * b_x.tmod 500)) + IntKind.i64.wrap ((IntKind.i64.wrap z).tmod 9 * c_x.tmod 500)) - IntKind.i64.wrap (IntKind.i64.wrap (IntKind.i64.wrap ((IntKind.i64.wrap x).tmod 9 + (IntKind.i64.wrap y).tmod 9) + (IntKind.i64.wrap z).tmod 9) * o_x.tmod 500))) (IntKind.i64.wrap (IntKind.i64.wrap (IntKind.i64.wrap (IntKind.i64.wrap ((IntKind.i64.wrap x).tmod 9 * a_y.tmod 500) + IntKind.i64.wrap ((IntKind.i64.wrap y).tmod 9 * b_y.tmod 500)) + IntKind.i64.wrap ((IntKind.i64.wrap z).tmod 9 * c_y.tmod 500)) - IntKind.i64.wrap (IntKind.i64.wrap (IntKind.i64.wrap ((IntKind.i64.wrap x).tmod 9 + (IntKind.i64.wrap y).tmod 9) + (IntKind.i64.wrap z).tmod 9) * o_y.tmod 500))) (IntKind.i64.wrap (IntKind.i64.wrap (IntKind.i64.wrap (IntKind.i64.wrap ((IntKind.i64.wrap x).tmod 9 * a_z.tmod 500) + IntKind.i64.wrap ((IntKind.i64.wrap y).tmod 9 * b_z.tmod 500)) + IntKind.i64.wrap ((IntKind.i64.wrap z).tmod 9 * c_z.tmod 500)) - IntKind.i64.wrap (IntKind.i64.wrap (IntKind.i64.wrap ((IntKind.i64.wrap x).tmod 9 + (IntKind.i64.wrap y).tmod 9) + (IntKind.i64.wrap z).tmod 9) * o_z.tmod 500)))) (Tr.node (IntKind.i64.wrap (tNum (a_x.tmod 500) (a_y.tmod 500) (a_z.tmod 500) (b_x.tmod 500) (b_y.tmod 500) (b_z.tmod 500) (c_x.tmod 500) (c_y.tmod 500) (c_z.tmod 500) (o_x.tmod 500) (o_y.tmod 500) (o_z.tmod 500) (IntKind.i64.wrap (IntKind.i64.wrap (IntKind.i64.wrap (IntKind.i64.wrap ((IntKind.i64.wrap x).tmod 9 * a_x.tmod 500) + IntKind.i64.wrap ((IntKind.i64.wrap y).tmod 9 * b_x.tmod 500)) + IntKind.i64.wrap ((IntKind.i64.wrap z).tmod 9 * c_x.tmod 500)) - IntKind.i64.wrap (IntKind.i64.wrap (IntKind.i64.wrap ((IntKind.i64.wrap x).tmod 9 + (IntKind.i64.wrap y).tmod 9) + (IntKind.i64.wrap z).tmod 9) * o_x.tmod 500))) (IntKind.i64.wrap (IntKind.i64.wrap (IntKind.i64.wrap (IntKind.i64.wrap ((IntKind.i64.wrap x).tmod 9 * a_y.tmod 500) + IntKind.i64.wrap ((IntKind.i64.wrap y).tmod 9 * b_y.tmod 500)) + IntKind.i64.wrap ((IntKind.i64.wrap z).tmod 9 * c_y.tmod 500)) - IntKind.i64.wrap (IntKind.i64.wrap (IntKind.i64.wrap ((IntKind.i64.wrap x).tmod 9 + (IntKind.i64.wrap y).tmod 9) + (IntKind.i64.wrap z).tmod 9) * o_y.tmod 500))) (IntKind.i64.wrap (IntKind.i64.wrap (IntKind.i64.wrap (IntKind.i64.wrap ((IntKind.i64.wrap x).tmod 9 * a_z.tmod 500) + IntKind.i64.wrap ((IntKind.i64.wrap y).tmod 9 * b_z.tmod 500)) + IntKind.i64.wrap ((IntKind.i64.wrap z).tmod 9 * c_z.tmod 500)) - IntKind.i64.wrap (IntKind.i64.wrap (IntKind.i64.wrap ((IntKind.i64.wrap x).tmod 9 + (IntKind.i64.wrap y).tmod 9) + (IntKind.i64.wrap z).tmod 9) * o_z.tmod 500))) * IntKind.i64.wrap (IntKind.i64.wrap ((IntKind.i64.wrap x).tmod 9 + (IntKind.i64.wrap y).tmod 9) + (IntKind.i64.wrap z).tmod 9)) == tDen (a_x.tmod 500) (a_y.tmod 500) (a_z.tmod 500) (b_x.tmod 500) (b_y.tmod 500) (b_z.tmod 500) (c_x.tmod 500) (c_y.tmod 500) (c_z.tmod 500) (o_x.tmod 500) (o_y.tmod 500) (o_z.tmod 500) (IntKind.i64.wrap (IntKind.i64.wrap (IntKind.i64.wrap (IntKind.i64.wrap ((IntKind.i64.wrap x).tmod 9 * a_x.tmod 500) + IntKind.i64.wrap ((IntKind.i64.wrap y).tmod 9 * b_x.tmod 500)) + IntKind.i64.wrap ((IntKind.i64.wrap z).tmod 9 * c_x.tmod 500)) - IntKind.i64.wrap (IntKind.i64.wrap (IntKind.i64.wrap ((IntKind.i64.wrap x).tmod 9 + (IntKind.i64.wrap y).tmod 9) + (IntKind.i64.wrap z).tmod 9) * o_x.tmod 500))) (IntKind.i64.wrap (IntKind.i64.wrap (IntKind.i64.wrap (IntKind.i64.wrap ((IntKind.i64.wrap x).tmod 9 * a_y.tmod 500) + IntKind.i64.wrap ((IntKind.i64.wrap y).tmod 9 * b_y.tmod 500)) + IntKind.i64.wrap ((IntKind.i64.wrap z).tmod 9 * c_y.tmod 500)) - IntKind.i64.wrap (IntKind.i64.wrap (IntKind.i64.wrap ((IntKind.i64.wrap x).tmod 9 + (IntKind.i64.wrap y).tmod 9) + (IntKind.i64.wrap z).tmod 9) * o_y.tmod 500))) (IntKind.i64.wrap (IntKind.i64.wrap (IntKind.i64.wrap (IntKind.i64.wrap ((IntKind.i64.wrap x).tmod 9 * a_z.tmod 500) + IntKind.i64.wrap ((IntKind.i64.wrap y).tmod 9 * b_z.tmod 500)) + IntKind.i64.wrap ((IntKind.i64.wrap z).tmod 9 * c_z.tmod 500)) - IntKind.i64.wrap (IntKind.i64.wrap (IntKind.i64.wrap ((IntKind.i64.wrap x).tmod 9 + (IntKind.i64.wrap y).tmod 9) + (IntKind.i64.wrap z).tmod 9) * o_z.tmod 500)))) (Tr.node (decide (tDen (a_x.tmod 500) (a_y.tmod 500) (a_z.tmod 500) (b_x.tmod 500) (b_y.tmod 500) (b_z.tmod 500) (c_x.tmod 500) (c_y.tmod 500) (c_z.tmod 500) (o_x.tmod 500) (o_y.tmod 500) (o_z.tmod 500) (IntKind.i64.wrap (IntKind.i64.wrap (IntKind.i64.wrap (IntKind.i64.wrap ((IntKind.i64.wrap x).tmod 9 * a_x.tmod 500) + IntKind.i64.wrap ((IntKind.i64.wrap y).tmod 9 * b_x.tmod 500)) + IntKind.i64.wrap ((IntKind.i64.wrap z).tmod 9 * c_x.tmod 500)) - IntKind.i64.wrap (IntKind.i64.wrap (IntKind.i64.wrap ((IntKind.i64.wrap x).tmod 9 + (IntKind.i64.wrap y).tmod 9) + (IntKind.i64.wrap z).tmod 9) * o_x.tmod 500))) (IntKind.i64.wrap (IntKind.i64.wrap (IntKind.i64.wrap (IntKind.i64.wrap ((IntKind.i64.wrap x).tmod 9 * a_y.tmod 500) + IntKind.i64.wrap ((IntKind.i64.wrap y).tmod 9 * b_y.tmod 500)) + IntKind.i64.wrap ((IntKind.i64.wrap z).tmod 9 * c_y.tmod 500)) - IntKind.i64.wrap (IntKind.i64.wrap (IntKind.i64.wrap ((IntKind.i64.wrap x).tmod 9 + (IntKind.i64.wrap y).tmod 9) + (IntKind.i64.wrap z).tmod 9) * o_y.tmod 500))) (IntKind.i64.wrap (IntKind.i64.wrap (IntKind.i64.wrap (IntKind.i64.wrap ((IntKind.i64.wrap x).tmod 9 * a_z.tmod 500) + IntKind.i64.wrap ((IntKind.i64.wrap y).tmod 9 * b_z.tmod 500)) + IntKind.i64.wrap ((IntKind.i64.wrap z).tmod 9 * c_z.tmod 500)) - IntKind.i64.wrap (IntKind.i64.wrap (IntKind.i64.wrap ((IntKind.i64.wrap x).tmod 9 + (IntKind.i64.wrap y).tmod 9) + (IntKind.i64.wrap z).tmod 9) * o_z.tmod 500))) > 0)) (Tr.leaf (AV.bool false true)) (Tr.leaf (AV.bool false false))) (Tr.leaf (AV.bool false false))) (Tr.leaf (AV.bool false false)))))
theorem run_skylightlaw11_TriMet (a_x : Int) (a_y : Int) (a_z : Int) (b_x : Int) (b_y : Int) (b_z : Int) (c_x : Int) (c_y : Int) (c_z : Int) (o_x : Int) (o_y : Int) (o_z : Int) (x : Int) (y : Int) (z : Int) (h_a_x : InR .i64 a_x) (h_a_y : InR .i64 a_y) (h_a_z : InR .i64 a_z) (h_b_x : InR .i64 b_x) (h_b_y : InR .i64 b_y) (h_b_z : InR .i64 b_z) (h_c_x : InR .i64 c_x) (h_c_y : InR .i64 c_y) (h_c_z : InR .i64 c_z) (h_o_x : InR .i64 o_x) (h_o_y : InR .i64 o_y) (h_o_z : InR .i64 o_z) (h_x : InR .u8 x) (h_y : InR .u8 y) (h_z : InR .u8 z) : (tr_skylightlaw11_TriMet a_x a_y a_z b_x b_y b_z c_x c_y c_z o_x o_y o_z x y z).run = some (bb true) := by
  unfold tr_skylightlaw11_TriMet
  have hx : 0 ≤ x ∧ x ≤ 255 := h_x
  have hy : 0 ≤ y ∧ y ≤ 255 := h_y
  have hz : 0 ≤ z ∧ z ≤ 255 := h_z
  rw [wrap_i64_id (n := x) (by omega), wrap_i64_id (n := y) (by omega), wrap_i64_id (n := z) (by omega), Int.tmod_eq_emod_of_nonneg hx.1, Int.tmod_eq_emod_of_nonneg hy.1, Int.tmod_eq_emod_of_nonneg hz.1]
  have hu : 0 ≤ x % 9 ∧ x % 9 ≤ 8 := by omega
  have hv : 0 ≤ y % 9 ∧ y % 9 ≤ 8 := by omega
  have hw : 0 ≤ z % 9 ∧ z % 9 ≤ 8 := by omega
  generalize x % 9 = u at *
  generalize y % 9 = v at *
  generalize z % 9 = w at *
  have ta_x := tmod_r a_x (m := 500) (by decide)
  generalize a_x.tmod 500 = ma_x at *
  have ta_y := tmod_r a_y (m := 500) (by decide)
  generalize a_y.tmod 500 = ma_y at *
  have ta_z := tmod_r a_z (m := 500) (by decide)
  generalize a_z.tmod 500 = ma_z at *
  have tb_x := tmod_r b_x (m := 500) (by decide)
  generalize b_x.tmod 500 = mb_x at *
  have tb_y := tmod_r b_y (m := 500) (by decide)
  generalize b_y.tmod 500 = mb_y at *
  have tb_z := tmod_r b_z (m := 500) (by decide)
  generalize b_z.tmod 500 = mb_z at *
  have tc_x := tmod_r c_x (m := 500) (by decide)
  generalize c_x.tmod 500 = mc_x at *
  have tc_y := tmod_r c_y (m := 500) (by decide)
  generalize c_y.tmod 500 = mc_y at *
  have tc_z := tmod_r c_z (m := 500) (by decide)
  generalize c_z.tmod 500 = mc_z at *
  have to_x := tmod_r o_x (m := 500) (by decide)
  generalize o_x.tmod 500 = mo_x at *
  have to_y := tmod_r o_y (m := 500) (by decide)
  generalize o_y.tmod 500 = mo_y at *
  have to_z := tmod_r o_z (m := 500) (by decide)
  generalize o_z.tmod 500 = mo_z at *
  rw [wrap_i64_id (n := u + v) (by omega), wrap_i64_id (n := u + v + w) (by omega)]
  rw [d_lin hu hv hw ta_x tb_x tc_x to_x, d_lin hu hv hw ta_y tb_y tc_y to_y, d_lin hu hv hw ta_z tb_z tc_z to_z]
  have P : ∀ {x y z : Int}, (-500 < x ∧ x < 500) ∧ (-500 < y ∧ y < 500) ∧ (-500 < z ∧ z < 500) → placeB x y z = true := fun h => by unfold placeB; exact decide_eq_true (by omega)
  obtain ⟨⟨e1, e2, e3⟩, _⟩ := way3 (P ⟨ta_x, ta_y, ta_z⟩) (P ⟨tb_x, tb_y, tb_z⟩)
  obtain ⟨⟨f1, f2, f3⟩, _⟩ := way3 (P ⟨ta_x, ta_y, ta_z⟩) (P ⟨tc_x, tc_y, tc_z⟩)
  obtain ⟨⟨g1, g2, g3⟩, _⟩ := way3 (P ⟨ta_x, ta_y, ta_z⟩) (P ⟨to_x, to_y, to_z⟩)
  rw [e1, e2, e3, f1, f2, f3, g1, g2, g3]
  by_cases hs : u + v + w = 0
  · exact run_t (by rw [hs]; rfl)
  refine (run_f (by simpa using hs)).trans ?_
  refine run_guard (fun _ => rfl) (fun _ => ?_)
  obtain ⟨t1, t2, t3⟩ := tri_met ⟨ta_x, ta_y, ta_z⟩ ⟨tb_x, tb_y, tb_z⟩ ⟨tc_x, tc_y, tc_z⟩ ⟨to_x, to_y, to_z⟩ hu hv hw hs rfl rfl rfl
  rw [t1]
  generalize hN : tN ma_x ma_y ma_z mb_x mb_y mb_z mc_x mc_y mc_z mo_x mo_y mo_z = N at *
  by_cases h0 : N = 0
  · rw [t2 h0]
    exact (run_t (by rw [h0]; rfl)).trans rfl
  · obtain ⟨k1, k2, k3⟩ := t3 h0
    rw [k1, k2]
    refine (run_f (by simp; omega)).trans ((run_t rfl).trans ((run_t (by simp)).trans ((run_t (decide_eq_true k3)).trans rfl)))

end Go.Sky
