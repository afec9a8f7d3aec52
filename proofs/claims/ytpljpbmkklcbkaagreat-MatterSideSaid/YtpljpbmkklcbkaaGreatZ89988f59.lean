/- The row of the law MatterSide: whatever the input, it returns true, and the input reads as it did. -/
import Derived.Test.YtpljpbmkklcbkaaGreatRows
import Derived.WalkKit
import Derived.ProofKit
import Derived.OpenShut
import Derived.ChangeOld
import Derived.Below
import Derived.Test.YtpljpbmkklcbkaaGreatZb9e52502
namespace Go.Proofs.YtpljpbmkklcbkaaGreat.matterSide
open Go.ChangeShapes Go.WideShapes Go.ChangeAt Go.RowKit Go.Sky Go.Proofs.YtpljpbmkklcbkaaGreat
set_option linter.unusedVariables false
set_option linter.unusedSimpArgs false
theorem own : ownKnob Tryz.prog.godebug = none := by kernel_rfl
theorem laidOut : laidOutB Tryz.prog = true := by kernel_rfl
set_option maxRecDepth 100000 in
theorem lifted (os : Os) (started : os.Started) (H : Type) (enc : TypeId × Value → H) :
    ReturnsInHanded {} Tryz.checked os 9 .any (Rows.matterSideSpec.pre6 enc Tryz.prog Tryz.f9 Rows.matterSideRow.domain false) (Rows.matterSideSpec.post enc Tryz.prog Tryz.f9 false true false false) := by
  refine returnsInHanded_of_change (C := Tryz.checked) own started (by kernel_rfl) Tryz.func9
    (ChangeSpec.witness6 (enc := enc) (C := Tryz.checked) false ⟨#[], #[.agg #[.int .i64 0, .int .i64 0, .int .i64 0, .int .i64 0, .int .i64 0], .agg #[.int .i64 0, .int .i64 0, .int .i64 0], .agg #[.int .i64 0, .int .i64 0, .int .i64 0], .int .i64 0, .int .i64 0, .int .i64 0], []⟩ 8 (by kernel_rfl) (by kernel_rfl) (by kernel_rfl) (by kernel_rfl)) ?_
  intro W base args ds gs before hval0 hW hcnd _
  have hval : ∀ (j : Nat) t v, Tryz.f9.params[j]? = some t → args[j]? = some v → Value.okWide Tryz.prog W .any base t v := hval0
  have hW' := hW
  obtain ⟨p, q, hA0, hV, rfl, hfz, hnd⟩ := hW
  have hA : DataW.TrodAll enc Tryz.prog W 0 (fun _ => true) true Tryz.f9.params.toList args.toList ds p := hA0
  rw [Tryz.params9] at hA hval
  obtain ⟨v0, vs0, d0, ds0, p0, q0, hargs, rfl, rfl, h0, r0⟩ := trodAll_cons hA
  obtain ⟨v1, vs1, d1, ds1, p1, q1, rfl, rfl, rfl, h1, r1⟩ := trodAll_cons r0
  obtain ⟨v2, vs2, d2, ds2, p2, q2, rfl, rfl, rfl, h2, r2⟩ := trodAll_cons r1
  obtain ⟨v3, vs3, d3, ds3, p3, q3, rfl, rfl, rfl, h3, r3⟩ := trodAll_cons r2
  obtain ⟨v4, vs4, d4, ds4, p4, q4, rfl, rfl, rfl, h4, r4⟩ := trodAll_cons r3
  obtain ⟨v5, vs5, d5, ds5, p5, q5, rfl, rfl, rfl, h5, r5⟩ := trodAll_cons r4
  obtain ⟨rfl, rfl, rfl⟩ := trodAll_nil r5
  obtain rfl : args = #[v0, v1, v2, v3, v4, v5] := by cases args; simp_all
  obtain ⟨rfl, rfl⟩ := trodVars_none hV
  have k0 := h0
  have lt0 : ∀ x ∈ p0, x.block < W.heap.size := by obtain ⟨m, hm⟩ := k0; exact DataW.trod_lt m _ _ _ hm
  obtain ⟨cs0, rfl, ft0, _⟩ := open_flat (l := [.int .i64, .int .i64, .int .i64, .int .i64, .int .i64]) Tryz.underlying78 (by kernel_rfl) (hval 0 78 v0 rfl rfl) h0
  simp only [Fits] at ft0
  obtain ⟨m_k, tl0_0, e0_0, i0_0, m_c_r, tl0_1, e0_1, i0_1, m_c_g, tl0_2, e0_2, i0_2, m_c_b, tl0_3, e0_3, i0_3, m_x, tl0_4, e0_4, i0_4, tz0⟩ := ft0
  subst tz0 e0_4 e0_3 e0_2 e0_1
  have ar0 := arr_of e0_0
  subst ar0
  have k1 := h1
  have lt1 : ∀ x ∈ p1, x.block < W.heap.size := by obtain ⟨m, hm⟩ := k1; exact DataW.trod_lt m _ _ _ hm
  obtain ⟨cs1, rfl, ft1, _⟩ := open_flat (l := [.int .i64, .int .i64, .int .i64]) Tryz.underlying25 (by kernel_rfl) (hval 1 25 v1 rfl rfl) h1
  simp only [Fits] at ft1
  obtain ⟨a_x, tl1_0, e1_0, i1_0, a_y, tl1_1, e1_1, i1_1, a_z, tl1_2, e1_2, i1_2, tz1⟩ := ft1
  subst tz1 e1_2 e1_1
  have ar1 := arr_of e1_0
  subst ar1
  have k2 := h2
  have lt2 : ∀ x ∈ p2, x.block < W.heap.size := by obtain ⟨m, hm⟩ := k2; exact DataW.trod_lt m _ _ _ hm
  obtain ⟨cs2, rfl, ft2, _⟩ := open_flat (l := [.int .i64, .int .i64, .int .i64]) Tryz.underlying25 (by kernel_rfl) (hval 2 25 v2 rfl rfl) h2
  simp only [Fits] at ft2
  obtain ⟨b_x, tl2_0, e2_0, i2_0, b_y, tl2_1, e2_1, i2_1, b_z, tl2_2, e2_2, i2_2, tz2⟩ := ft2
  subst tz2 e2_2 e2_1
  have ar2 := arr_of e2_0
  subst ar2
  obtain ⟨u, rfl, rfl, rfl, w3⟩ := open_int Tryz.underlying3 (hval 3 3 v3 rfl rfl) h3
  have g3 : IntKind.min .i64 ≤ u ∧ u ≤ IntKind.max .i64 := by simpa [Lit.wf] using w3
  obtain ⟨q, rfl, rfl, rfl, w4⟩ := open_int Tryz.underlying3 (hval 4 3 v4 rfl rfl) h4
  have g4 : IntKind.min .i64 ≤ q ∧ q ≤ IntKind.max .i64 := by simpa [Lit.wf] using w4
  obtain ⟨w, rfl, rfl, rfl, w5⟩ := open_int Tryz.underlying3 (hval 5 3 v5 rfl rfl) h5
  have g5 : IntKind.min .i64 ≤ w ∧ w ≤ IntKind.max .i64 := by simpa [Lit.wf] using w5
  clear hA0 hval0
  refine (calls_of_entry progOk ok_skylightlaw25_MatterSide (by kernel_rfl) (args := [.agg [.int .i64 false m_k, .int .i64 false m_c_r, .int .i64 false m_c_g, .int .i64 false m_c_b, .int .i64 false m_x], .agg [.int .i64 false a_x, .int .i64 false a_y, .int .i64 false a_z], .agg [.int .i64 false b_x, .int .i64 false b_y, .int .i64 false b_z], .int .i64 false u, .int .i64 false q, .int .i64 false w]) (v := bb true) rfl rfl (φ := ⟨fun _ => none, fun _ => none, 0⟩) (w := W) (fun c cs h => by cases h) (by simp only [LRel, ARel]; exact ⟨_, _, rfl, ⟨_, rfl, ⟨_, _, rfl, ⟨rfl, i0_0⟩, ⟨_, _, rfl, ⟨rfl, i0_1⟩, ⟨_, _, rfl, ⟨rfl, i0_2⟩, ⟨_, _, rfl, ⟨rfl, i0_3⟩, ⟨_, _, rfl, ⟨rfl, i0_4⟩, rfl⟩⟩⟩⟩⟩⟩, ⟨_, _, rfl, ⟨_, rfl, ⟨_, _, rfl, ⟨rfl, i1_0⟩, ⟨_, _, rfl, ⟨rfl, i1_1⟩, ⟨_, _, rfl, ⟨rfl, i1_2⟩, rfl⟩⟩⟩⟩, ⟨_, _, rfl, ⟨_, rfl, ⟨_, _, rfl, ⟨rfl, i2_0⟩, ⟨_, _, rfl, ⟨rfl, i2_1⟩, ⟨_, _, rfl, ⟨rfl, i2_2⟩, rfl⟩⟩⟩⟩, ⟨_, _, rfl, ⟨rfl, g3⟩, ⟨_, _, rfl, ⟨rfl, g4⟩, ⟨_, _, rfl, ⟨rfl, g5⟩, rfl⟩⟩⟩⟩⟩⟩)).mono fun e W' hx => ?_
  obtain ⟨u, rfl, hu, bel⟩ := hx
  obtain rfl : u = .bool true := by have := hu ⟨fun _ => none, fun _ => none, 0⟩; simpa only [ARel, bb] using this
  exact ⟨_, rfl, _, _, _, [], _, [], hW', trodAll_mk1 (shut_bool Tryz.underlying4 _), (trodAll_cons_mk (Below.trod laidOut (by kernel_rfl) (of_decide_eq_true (by kernel_rfl)) k0 bel lt0) (trodAll_cons_mk (Below.trod laidOut (by kernel_rfl) (of_decide_eq_true (by kernel_rfl)) k1 bel lt1) (trodAll_cons_mk (Below.trod laidOut (by kernel_rfl) (of_decide_eq_true (by kernel_rfl)) k2 bel lt2) (trodAll_cons_mk (shut_int Tryz.underlying3 w3) (trodAll_cons_mk (shut_int Tryz.underlying3 w4) (trodAll_cons_mk (shut_int Tryz.underlying3 w5) trodAll_mk0)))))), rfl, bel.frame _, fun h => by cases h⟩
theorem over : Rows.matterSideRow.holds Tryz.pinned (OpenSpec.ofChange Rows.matterSideSpec) :=
  OpenClaim.holds_of_wide 9 Tryz.f9 rfl rfl rfl rfl rfl rfl rfl ⟨rfl, rfl, rfl, rfl, rfl⟩ rfl rfl rfl rfl rfl (by kernel_rfl) Tryz.func9 (by kernel_rfl)
    (of_decide_eq_true (by kernel_rfl)) (by unfold Func.isWrapper; first | (rw [if_pos (by decide +kernel)]; kernel_rfl) | (rw [if_neg (by decide +kernel)]; exact ⟨rfl, rfl⟩))
    (fun os started H enc _ => lifted os started H enc)
end Go.Proofs.YtpljpbmkklcbkaaGreat.matterSide
namespace Go.Proofs.YtpljpbmkklcbkaaGreat
/-- The row. -/
theorem matterSide_holds : Rows.MatterSideSaid := matterSide.over
#print axioms matterSide_holds
end Go.Proofs.YtpljpbmkklcbkaaGreat
