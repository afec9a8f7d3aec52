/- The row of the law BendTells: whatever the input, it returns true, and the input reads as it did. -/
import Derived.Test.YtfbakgcemnkcpaaRows
import Derived.WalkKit
import Derived.ProofKit
import Derived.OpenShut
import Derived.ChangeOld
import Derived.Below
import Derived.Test.YtfbakgcemnkcpaaZacf62161
namespace Go.Proofs.Ytfbakgcemnkcpaa.bendTells
open Go.ChangeShapes Go.WideShapes Go.ChangeAt Go.RowKit Go.Sky Go.Proofs.Ytfbakgcemnkcpaa
set_option linter.unusedVariables false
set_option linter.unusedSimpArgs false
theorem own : ownKnob Try.prog.godebug = none := by kernel_rfl
theorem laidOut : laidOutB Try.prog = true := by kernel_rfl
set_option maxRecDepth 100000 in
theorem lifted (os : Os) (started : os.Started) (H : Type) (enc : TypeId × Value → H) :
    ReturnsInHanded {} Try.checked os 14 .any (Rows.bendTellsSpec.pre6 enc Try.prog Try.f14 Rows.bendTellsRow.domain false) (Rows.bendTellsSpec.post enc Try.prog Try.f14 false true false false) := by
  refine returnsInHanded_of_change (C := Try.checked) own started (by kernel_rfl) Try.func14
    (ChangeSpec.witness6 (enc := enc) (C := Try.checked) false ⟨#[], #[.agg #[.int .i64 0, .int .i64 0, .int .i64 0], .agg #[.int .i64 0, .int .i64 0, .int .i64 0], .int .i64 0, .int .i64 0, .int .i64 0], []⟩ 8 (by kernel_rfl) (by kernel_rfl) (by kernel_rfl) (by kernel_rfl)) ?_
  intro W base args ds gs before hval0 hW hcnd _
  have hval : ∀ (j : Nat) t v, Try.f14.params[j]? = some t → args[j]? = some v → Value.okWide Try.prog W .any base t v := hval0
  have hW' := hW
  obtain ⟨p, q, hA0, hV, rfl, hfz, hnd⟩ := hW
  have hA : DataW.TrodAll enc Try.prog W 0 (fun _ => true) true Try.f14.params.toList args.toList ds p := hA0
  rw [Try.params14] at hA hval
  obtain ⟨v0, vs0, d0, ds0, p0, q0, hargs, rfl, rfl, h0, r0⟩ := trodAll_cons hA
  obtain ⟨v1, vs1, d1, ds1, p1, q1, rfl, rfl, rfl, h1, r1⟩ := trodAll_cons r0
  obtain ⟨v2, vs2, d2, ds2, p2, q2, rfl, rfl, rfl, h2, r2⟩ := trodAll_cons r1
  obtain ⟨v3, vs3, d3, ds3, p3, q3, rfl, rfl, rfl, h3, r3⟩ := trodAll_cons r2
  obtain ⟨v4, vs4, d4, ds4, p4, q4, rfl, rfl, rfl, h4, r4⟩ := trodAll_cons r3
  obtain ⟨rfl, rfl, rfl⟩ := trodAll_nil r4
  obtain rfl : args = #[v0, v1, v2, v3, v4] := by cases args; simp_all
  obtain ⟨rfl, rfl⟩ := trodVars_none hV
  have k0 := h0
  have lt0 : ∀ x ∈ p0, x.block < W.heap.size := by obtain ⟨m, hm⟩ := k0; exact DataW.trod_lt m _ _ _ hm
  obtain ⟨cs0, rfl, ft0, _⟩ := open_flat (l := [.int .i64, .int .i64, .int .i64]) Try.underlying42 (by kernel_rfl) (hval 0 42 v0 rfl rfl) h0
  simp only [Fits] at ft0
  obtain ⟨d_x, tl0_0, e0_0, i0_0, d_y, tl0_1, e0_1, i0_1, d_z, tl0_2, e0_2, i0_2, tz0⟩ := ft0
  subst tz0 e0_2 e0_1
  have ar0 := arr_of e0_0
  subst ar0
  have k1 := h1
  have lt1 : ∀ x ∈ p1, x.block < W.heap.size := by obtain ⟨m, hm⟩ := k1; exact DataW.trod_lt m _ _ _ hm
  obtain ⟨cs1, rfl, ft1, _⟩ := open_flat (l := [.int .i64, .int .i64, .int .i64]) Try.underlying42 (by kernel_rfl) (hval 1 42 v1 rfl rfl) h1
  simp only [Fits] at ft1
  obtain ⟨n_x, tl1_0, e1_0, i1_0, n_y, tl1_1, e1_1, i1_1, n_z, tl1_2, e1_2, i1_2, tz1⟩ := ft1
  subst tz1 e1_2 e1_1
  have ar1 := arr_of e1_0
  subst ar1
  obtain ⟨a, rfl, rfl, rfl, w2⟩ := open_int Try.underlying3 (hval 2 3 v2 rfl rfl) h2
  have g2 : IntKind.min .i64 ≤ a ∧ a ≤ IntKind.max .i64 := by simpa [Lit.wf] using w2
  obtain ⟨b, rfl, rfl, rfl, w3⟩ := open_int Try.underlying3 (hval 3 3 v3 rfl rfl) h3
  have g3 : IntKind.min .i64 ≤ b ∧ b ≤ IntKind.max .i64 := by simpa [Lit.wf] using w3
  obtain ⟨c, rfl, rfl, rfl, w4⟩ := open_int Try.underlying3 (hval 4 3 v4 rfl rfl) h4
  have g4 : IntKind.min .i64 ≤ c ∧ c ≤ IntKind.max .i64 := by simpa [Lit.wf] using w4
  clear hA0 hval0
  refine (calls_of_entry progOk ok_skylightlaw24_BendTells (by kernel_rfl) (args := [.agg [.int .i64 false d_x, .int .i64 false d_y, .int .i64 false d_z], .agg [.int .i64 false n_x, .int .i64 false n_y, .int .i64 false n_z], .int .i64 false a, .int .i64 false b, .int .i64 false c]) (v := bb true) rfl (φ := fun _ => none) (w := W) (by simp only [LRel, ARel]; exact ⟨_, _, rfl, ⟨_, rfl, ⟨_, _, rfl, ⟨rfl, i0_0⟩, ⟨_, _, rfl, ⟨rfl, i0_1⟩, ⟨_, _, rfl, ⟨rfl, i0_2⟩, rfl⟩⟩⟩⟩, ⟨_, _, rfl, ⟨_, rfl, ⟨_, _, rfl, ⟨rfl, i1_0⟩, ⟨_, _, rfl, ⟨rfl, i1_1⟩, ⟨_, _, rfl, ⟨rfl, i1_2⟩, rfl⟩⟩⟩⟩, ⟨_, _, rfl, ⟨rfl, g2⟩, ⟨_, _, rfl, ⟨rfl, g3⟩, ⟨_, _, rfl, ⟨rfl, g4⟩, rfl⟩⟩⟩⟩⟩)).mono fun e W' hx => ?_
  obtain ⟨u, rfl, hu, bel⟩ := hx
  obtain rfl : u = .bool true := by have := hu (fun _ => none); simpa only [ARel, bb] using this
  exact ⟨_, rfl, _, _, _, [], _, [], hW', trodAll_mk1 (shut_bool Try.underlying4 _), (trodAll_cons_mk (Below.trod laidOut (by kernel_rfl) (of_decide_eq_true (by kernel_rfl)) k0 bel lt0) (trodAll_cons_mk (Below.trod laidOut (by kernel_rfl) (of_decide_eq_true (by kernel_rfl)) k1 bel lt1) (trodAll_cons_mk (shut_int Try.underlying3 w2) (trodAll_cons_mk (shut_int Try.underlying3 w3) (trodAll_cons_mk (shut_int Try.underlying3 w4) trodAll_mk0))))), rfl, bel.frame _, fun h => by cases h⟩
theorem over : Rows.bendTellsRow.holds Try.pinned (OpenSpec.ofChange Rows.bendTellsSpec) :=
  OpenClaim.holds_of_wide 14 Try.f14 rfl rfl rfl rfl rfl rfl rfl ⟨rfl, rfl, rfl, rfl, rfl⟩ rfl rfl rfl rfl rfl (by kernel_rfl) Try.func14 (by kernel_rfl)
    (of_decide_eq_true (by kernel_rfl)) (by unfold Func.isWrapper; first | (rw [if_pos (by decide +kernel)]; kernel_rfl) | (rw [if_neg (by decide +kernel)]; exact ⟨rfl, rfl⟩))
    (fun os started H enc _ => lifted os started H enc)
end Go.Proofs.Ytfbakgcemnkcpaa.bendTells
namespace Go.Proofs.Ytfbakgcemnkcpaa
/-- The row. -/
theorem bendTells_holds : Rows.BendTellsSaid := bendTells.over
#print axioms bendTells_holds
end Go.Proofs.Ytfbakgcemnkcpaa
