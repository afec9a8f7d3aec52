/- The row of the law VecUnit: whatever the input, it returns true, and the input reads as it did. -/
import Derived.Test.YtfbakgcemnkcpaaRows
import Derived.Test.YtfbakgcemnkcpaaZEntVec3
import Derived.WalkKit
import Derived.ProofKit
import Derived.OpenShut
import Derived.ChangeOld
import Derived.Below
namespace Go.Proofs.Ytfbakgcemnkcpaa.vecUnit
open Go.ChangeShapes Go.WideShapes Go.ChangeAt Go.RowKit Go.Sky Go.Proofs.Ytfbakgcemnkcpaa
set_option linter.unusedVariables false
set_option linter.unusedSimpArgs false
theorem own : ownKnob Try.prog.godebug = none := by kernel_rfl
theorem laidOut : laidOutB Try.prog = true := by kernel_rfl
set_option maxRecDepth 100000 in
theorem lifted (os : Os) (started : os.Started) (H : Type) (enc : TypeId × Value → H) :
    ReturnsInHanded {} Try.checked os 4 .any (Rows.vecUnitSpec.pre6 enc Try.prog Try.f4 Rows.vecUnitRow.domain false) (Rows.vecUnitSpec.post enc Try.prog Try.f4 false true false false) := by
  refine returnsInHanded_of_change (C := Try.checked) own started (by kernel_rfl) Try.func4
    (ChangeSpec.witness6 (enc := enc) (C := Try.checked) false ⟨#[], #[.agg #[.int .i64 0, .int .i64 0, .int .i64 0]], []⟩ 8 (by kernel_rfl) (by kernel_rfl) (by kernel_rfl) (by kernel_rfl)) ?_
  intro W base args ds gs before hval0 hW hcnd _
  have hval : ∀ (j : Nat) t v, Try.f4.params[j]? = some t → args[j]? = some v → Value.okWide Try.prog W .any base t v := hval0
  have hW' := hW
  obtain ⟨p, q, hA0, hV, rfl, hfz, hnd⟩ := hW
  have hA : DataW.TrodAll enc Try.prog W 0 (fun _ => true) true Try.f4.params.toList args.toList ds p := hA0
  rw [Try.params4] at hA hval
  obtain ⟨v0, vs0, d0, ds0, p0, q0, hargs, rfl, rfl, h0, r0⟩ := trodAll_cons hA
  obtain ⟨rfl, rfl, rfl⟩ := trodAll_nil r0
  obtain rfl : args = #[v0] := by cases args; simp_all
  obtain ⟨rfl, rfl⟩ := trodVars_none hV
  have k0 := h0
  have lt0 : ∀ x ∈ p0, x.block < W.heap.size := by obtain ⟨m, hm⟩ := k0; exact DataW.trod_lt m _ _ _ hm
  obtain ⟨cs0, rfl, ft0, _⟩ := open_flat (l := [.int .i64, .int .i64, .int .i64]) Try.underlying42 (by kernel_rfl) (hval 0 42 v0 rfl rfl) h0
  simp only [Fits] at ft0
  obtain ⟨v_x, tl0_0, e0_0, i0_0, v_y, tl0_1, e0_1, i0_1, v_z, tl0_2, e0_2, i0_2, tz0⟩ := ft0
  subst tz0 e0_2 e0_1
  have ar0 := arr_of e0_0
  subst ar0
  clear hA0 hval0
  refine (calls_of_entry progOk ok_skylightlaw06_VecUnit (by kernel_rfl) (args := [.agg [.int .i64 false v_x, .int .i64 false v_y, .int .i64 false v_z]]) (v := bb true) rfl (φ := fun _ => none) (w := W) (by simp only [LRel, ARel]; exact ⟨_, _, rfl, ⟨_, rfl, ⟨_, _, rfl, ⟨rfl, i0_0⟩, ⟨_, _, rfl, ⟨rfl, i0_1⟩, ⟨_, _, rfl, ⟨rfl, i0_2⟩, rfl⟩⟩⟩⟩, rfl⟩)).mono fun e W' hx => ?_
  obtain ⟨u, rfl, hu, bel⟩ := hx
  obtain rfl : u = .bool true := by have := hu (fun _ => none); simpa only [ARel, bb] using this
  exact ⟨_, rfl, _, _, _, [], _, [], hW', trodAll_mk1 (shut_bool Try.underlying4 _), (trodAll_cons_mk (Below.trod laidOut (by kernel_rfl) (of_decide_eq_true (by kernel_rfl)) k0 bel lt0) trodAll_mk0), rfl, bel.frame _, fun h => by cases h⟩
theorem over : Rows.vecUnitRow.holds Try.pinned (OpenSpec.ofChange Rows.vecUnitSpec) :=
  OpenClaim.holds_of_wide 4 Try.f4 rfl rfl rfl rfl rfl rfl rfl ⟨rfl, rfl, rfl, rfl, rfl⟩ rfl rfl rfl rfl rfl (by kernel_rfl) Try.func4 (by kernel_rfl)
    (of_decide_eq_true (by kernel_rfl)) (by unfold Func.isWrapper; first | (rw [if_pos (by decide +kernel)]; kernel_rfl) | (rw [if_neg (by decide +kernel)]; exact ⟨rfl, rfl⟩))
    (fun os started H enc _ => lifted os started H enc)
end Go.Proofs.Ytfbakgcemnkcpaa.vecUnit
namespace Go.Proofs.Ytfbakgcemnkcpaa
/-- The row. -/
theorem vecUnit_holds : Rows.VecUnitSaid := vecUnit.over
#print axioms vecUnit_holds
end Go.Proofs.Ytfbakgcemnkcpaa
