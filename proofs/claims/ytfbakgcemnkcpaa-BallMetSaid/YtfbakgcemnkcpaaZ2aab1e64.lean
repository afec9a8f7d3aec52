/- The row of the law BallMet: whatever the input, it returns true, and the input reads as it did. -/
import Derived.Test.YtfbakgcemnkcpaaRows
import Derived.WalkKit
import Derived.ProofKit
import Derived.OpenShut
import Derived.ChangeOld
import Derived.Below
import Derived.Test.YtfbakgcemnkcpaaZ91908f6b
namespace Go.Proofs.Ytfbakgcemnkcpaa.ballMet
open Go.ChangeShapes Go.WideShapes Go.ChangeAt Go.RowKit Go.Sky Go.Proofs.Ytfbakgcemnkcpaa
set_option linter.unusedVariables false
set_option linter.unusedSimpArgs false
theorem own : ownKnob Try.prog.godebug = none := by kernel_rfl
theorem laidOut : laidOutB Try.prog = true := by kernel_rfl
set_option maxRecDepth 100000 in
theorem lifted (os : Os) (started : os.Started) (H : Type) (enc : TypeId × Value → H) :
    ReturnsInHanded {} Try.checked os 9 .any (Rows.ballMetSpec.pre6 enc Try.prog Try.f9 Rows.ballMetRow.domain false) (Rows.ballMetSpec.post enc Try.prog Try.f9 false true false false) := by
  refine returnsInHanded_of_change (C := Try.checked) own started (by kernel_rfl) Try.func9
    (ChangeSpec.witness6 (enc := enc) (C := Try.checked) false ⟨#[], #[.agg #[.int .i64 0, .int .i64 0, .int .i64 0], .int .u16 0, .agg #[.int .i64 0, .int .i64 0, .int .i64 0, .int .i64 0, .int .i64 0, .int .i64 0, .int .i64 0]], []⟩ 8 (by kernel_rfl) (by kernel_rfl) (by kernel_rfl) (by kernel_rfl)) ?_
  intro W base args ds gs before hval0 hW hcnd _
  have hval : ∀ (j : Nat) t v, Try.f9.params[j]? = some t → args[j]? = some v → Value.okWide Try.prog W .any base t v := hval0
  have hW' := hW
  obtain ⟨p, q, hA0, hV, rfl, hfz, hnd⟩ := hW
  have hA : DataW.TrodAll enc Try.prog W 0 (fun _ => true) true Try.f9.params.toList args.toList ds p := hA0
  rw [Try.params9] at hA hval
  obtain ⟨v0, vs0, d0, ds0, p0, q0, hargs, rfl, rfl, h0, r0⟩ := trodAll_cons hA
  obtain ⟨v1, vs1, d1, ds1, p1, q1, rfl, rfl, rfl, h1, r1⟩ := trodAll_cons r0
  obtain ⟨v2, vs2, d2, ds2, p2, q2, rfl, rfl, rfl, h2, r2⟩ := trodAll_cons r1
  obtain ⟨rfl, rfl, rfl⟩ := trodAll_nil r2
  obtain rfl : args = #[v0, v1, v2] := by cases args; simp_all
  obtain ⟨rfl, rfl⟩ := trodVars_none hV
  have k0 := h0
  have lt0 : ∀ x ∈ p0, x.block < W.heap.size := by obtain ⟨m, hm⟩ := k0; exact DataW.trod_lt m _ _ _ hm
  obtain ⟨cs0, rfl, ft0, _⟩ := open_flat (l := [.int .i64, .int .i64, .int .i64]) Try.underlying42 (by kernel_rfl) (hval 0 42 v0 rfl rfl) h0
  simp only [Fits] at ft0
  obtain ⟨c_x, tl0_0, e0_0, i0_0, c_y, tl0_1, e0_1, i0_1, c_z, tl0_2, e0_2, i0_2, tz0⟩ := ft0
  subst tz0 e0_2 e0_1
  have ar0 := arr_of e0_0
  subst ar0
  obtain ⟨r, rfl, rfl, rfl, w1⟩ := open_int Try.underlying77 (hval 1 77 v1 rfl rfl) h1
  have g1 : IntKind.min .u16 ≤ r ∧ r ≤ IntKind.max .u16 := by simpa [Lit.wf] using w1
  have k2 := h2
  have lt2 : ∀ x ∈ p2, x.block < W.heap.size := by obtain ⟨m, hm⟩ := k2; exact DataW.trod_lt m _ _ _ hm
  obtain ⟨cs2, rfl, ft2, _⟩ := open_flat (l := [.int .i64, .int .i64, .int .i64, .int .i64, .int .i64, .int .i64, .int .i64]) Try.underlying55 (by kernel_rfl) (hval 2 55 v2 rfl rfl) h2
  simp only [Fits] at ft2
  obtain ⟨x_o_x, tl2_0, e2_0, i2_0, x_o_y, tl2_1, e2_1, i2_1, x_o_z, tl2_2, e2_2, i2_2, x_d_x, tl2_3, e2_3, i2_3, x_d_y, tl2_4, e2_4, i2_4, x_d_z, tl2_5, e2_5, i2_5, x_f, tl2_6, e2_6, i2_6, tz2⟩ := ft2
  subst tz2 e2_6 e2_5 e2_4 e2_3 e2_2 e2_1
  have ar2 := arr_of e2_0
  subst ar2
  clear hA0 hval0
  refine (calls_of_entry progOk ok_skylightlaw12_BallMet (by kernel_rfl) (args := [.agg [.int .i64 false c_x, .int .i64 false c_y, .int .i64 false c_z], .int .u16 false r, .agg [.int .i64 false x_o_x, .int .i64 false x_o_y, .int .i64 false x_o_z, .int .i64 false x_d_x, .int .i64 false x_d_y, .int .i64 false x_d_z, .int .i64 false x_f]]) (v := bb true) rfl (φ := fun _ => none) (w := W) (by simp only [LRel, ARel]; exact ⟨_, _, rfl, ⟨_, rfl, ⟨_, _, rfl, ⟨rfl, i0_0⟩, ⟨_, _, rfl, ⟨rfl, i0_1⟩, ⟨_, _, rfl, ⟨rfl, i0_2⟩, rfl⟩⟩⟩⟩, ⟨_, _, rfl, ⟨rfl, g1⟩, ⟨_, _, rfl, ⟨_, rfl, ⟨_, _, rfl, ⟨rfl, i2_0⟩, ⟨_, _, rfl, ⟨rfl, i2_1⟩, ⟨_, _, rfl, ⟨rfl, i2_2⟩, ⟨_, _, rfl, ⟨rfl, i2_3⟩, ⟨_, _, rfl, ⟨rfl, i2_4⟩, ⟨_, _, rfl, ⟨rfl, i2_5⟩, ⟨_, _, rfl, ⟨rfl, i2_6⟩, rfl⟩⟩⟩⟩⟩⟩⟩⟩, rfl⟩⟩⟩)).mono fun e W' hx => ?_
  obtain ⟨u, rfl, hu, bel⟩ := hx
  obtain rfl : u = .bool true := by have := hu (fun _ => none); simpa only [ARel, bb] using this
  exact ⟨_, rfl, _, _, _, [], _, [], hW', trodAll_mk1 (shut_bool Try.underlying4 _), (trodAll_cons_mk (Below.trod laidOut (by kernel_rfl) (of_decide_eq_true (by kernel_rfl)) k0 bel lt0) (trodAll_cons_mk (shut_int Try.underlying77 w1) (trodAll_cons_mk (Below.trod laidOut (by kernel_rfl) (of_decide_eq_true (by kernel_rfl)) k2 bel lt2) trodAll_mk0))), rfl, bel.frame _, fun h => by cases h⟩
theorem over : Rows.ballMetRow.holds Try.pinned (OpenSpec.ofChange Rows.ballMetSpec) :=
  OpenClaim.holds_of_wide 9 Try.f9 rfl rfl rfl rfl rfl rfl rfl ⟨rfl, rfl, rfl, rfl, rfl⟩ rfl rfl rfl rfl rfl (by kernel_rfl) Try.func9 (by kernel_rfl)
    (of_decide_eq_true (by kernel_rfl)) (by unfold Func.isWrapper; first | (rw [if_pos (by decide +kernel)]; kernel_rfl) | (rw [if_neg (by decide +kernel)]; exact ⟨rfl, rfl⟩))
    (fun os started H enc _ => lifted os started H enc)
end Go.Proofs.Ytfbakgcemnkcpaa.ballMet
namespace Go.Proofs.Ytfbakgcemnkcpaa
/-- The row. -/
theorem ballMet_holds : Rows.BallMetSaid := ballMet.over
#print axioms ballMet_holds
end Go.Proofs.Ytfbakgcemnkcpaa
