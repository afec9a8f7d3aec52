/- The row of the law BendThrough: whatever the input, it returns true, and the input reads as it did. -/
import Derived.Test.YtpljpbmkklcbkaaRows
import Derived.WalkKit
import Derived.ProofKit
import Derived.OpenShut
import Derived.ChangeOld
import Derived.Below
import Derived.Test.YtpljpbmkklcbkaaZf6b728cb
namespace Go.Proofs.Ytpljpbmkklcbkaa.bendThrough
open Go.ChangeShapes Go.WideShapes Go.ChangeAt Go.RowKit Go.Sky Go.Proofs.Ytpljpbmkklcbkaa
set_option linter.unusedVariables false
set_option linter.unusedSimpArgs false
theorem own : ownKnob Try.prog.godebug = none := by kernel_rfl
theorem laidOut : laidOutB Try.prog = true := by kernel_rfl
set_option maxRecDepth 100000 in
theorem lifted (os : Os) (started : os.Started) (H : Type) (enc : TypeId × Value → H) :
    ReturnsInHanded {} Try.checked os 3 .any (Rows.bendThroughSpec.pre6 enc Try.prog Try.f3 Rows.bendThroughRow.domain false) (Rows.bendThroughSpec.post enc Try.prog Try.f3 false true false false) := by
  refine returnsInHanded_of_change (C := Try.checked) own started (by kernel_rfl) Try.func3
    (ChangeSpec.witness6 (enc := enc) (C := Try.checked) false ⟨#[], #[.agg #[.int .i64 0, .int .i64 0, .int .i64 0], .agg #[.int .i64 0, .int .i64 0, .int .i64 0], .int .u16 0, .int .u16 0], []⟩ 8 (by kernel_rfl) (by kernel_rfl) (by kernel_rfl) (by kernel_rfl)) ?_
  intro W base args ds gs before hval0 hW hcnd _
  have hval : ∀ (j : Nat) t v, Try.f3.params[j]? = some t → args[j]? = some v → Value.okWide Try.prog W .any base t v := hval0
  have hW' := hW
  obtain ⟨p, q, hA0, hV, rfl, hfz, hnd⟩ := hW
  have hA : DataW.TrodAll enc Try.prog W 0 (fun _ => true) true Try.f3.params.toList args.toList ds p := hA0
  rw [Try.params3] at hA hval
  obtain ⟨v0, vs0, d0, ds0, p0, q0, hargs, rfl, rfl, h0, r0⟩ := trodAll_cons hA
  obtain ⟨v1, vs1, d1, ds1, p1, q1, rfl, rfl, rfl, h1, r1⟩ := trodAll_cons r0
  obtain ⟨v2, vs2, d2, ds2, p2, q2, rfl, rfl, rfl, h2, r2⟩ := trodAll_cons r1
  obtain ⟨v3, vs3, d3, ds3, p3, q3, rfl, rfl, rfl, h3, r3⟩ := trodAll_cons r2
  obtain ⟨rfl, rfl, rfl⟩ := trodAll_nil r3
  obtain rfl : args = #[v0, v1, v2, v3] := by cases args; simp_all
  obtain ⟨rfl, rfl⟩ := trodVars_none hV
  have k0 := h0
  have lt0 : ∀ x ∈ p0, x.block < W.heap.size := by obtain ⟨m, hm⟩ := k0; exact DataW.trod_lt m _ _ _ hm
  obtain ⟨cs0, rfl, ft0, _⟩ := open_flat (l := [.int .i64, .int .i64, .int .i64]) Try.underlying23 (by kernel_rfl) (hval 0 23 v0 rfl rfl) h0
  simp only [Fits] at ft0
  obtain ⟨v_x, tl0_0, e0_0, i0_0, v_y, tl0_1, e0_1, i0_1, v_z, tl0_2, e0_2, i0_2, tz0⟩ := ft0
  subst tz0 e0_2 e0_1
  have ar0 := arr_of e0_0
  subst ar0
  have k1 := h1
  have lt1 : ∀ x ∈ p1, x.block < W.heap.size := by obtain ⟨m, hm⟩ := k1; exact DataW.trod_lt m _ _ _ hm
  obtain ⟨cs1, rfl, ft1, _⟩ := open_flat (l := [.int .i64, .int .i64, .int .i64]) Try.underlying23 (by kernel_rfl) (hval 1 23 v1 rfl rfl) h1
  simp only [Fits] at ft1
  obtain ⟨w_x, tl1_0, e1_0, i1_0, w_y, tl1_1, e1_1, i1_1, w_z, tl1_2, e1_2, i1_2, tz1⟩ := ft1
  subst tz1 e1_2 e1_1
  have ar1 := arr_of e1_0
  subst ar1
  obtain ⟨n, rfl, rfl, rfl, w2⟩ := open_int Try.underlying24 (hval 2 24 v2 rfl rfl) h2
  have g2 : IntKind.min .u16 ≤ n ∧ n ≤ IntKind.max .u16 := by simpa [Lit.wf] using w2
  obtain ⟨m, rfl, rfl, rfl, w3⟩ := open_int Try.underlying24 (hval 3 24 v3 rfl rfl) h3
  have g3 : IntKind.min .u16 ≤ m ∧ m ≤ IntKind.max .u16 := by simpa [Lit.wf] using w3
  clear hA0 hval0
  refine (calls_of_entry progOk ok_skylightlaw24_BendThrough (by kernel_rfl) (args := [.agg [.int .i64 false v_x, .int .i64 false v_y, .int .i64 false v_z], .agg [.int .i64 false w_x, .int .i64 false w_y, .int .i64 false w_z], .int .u16 false n, .int .u16 false m]) (v := bb true) rfl (φ := fun _ => none) (w := W) (by simp only [LRel, ARel]; exact ⟨_, _, rfl, ⟨_, rfl, ⟨_, _, rfl, ⟨rfl, i0_0⟩, ⟨_, _, rfl, ⟨rfl, i0_1⟩, ⟨_, _, rfl, ⟨rfl, i0_2⟩, rfl⟩⟩⟩⟩, ⟨_, _, rfl, ⟨_, rfl, ⟨_, _, rfl, ⟨rfl, i1_0⟩, ⟨_, _, rfl, ⟨rfl, i1_1⟩, ⟨_, _, rfl, ⟨rfl, i1_2⟩, rfl⟩⟩⟩⟩, ⟨_, _, rfl, ⟨rfl, g2⟩, ⟨_, _, rfl, ⟨rfl, g3⟩, rfl⟩⟩⟩⟩)).mono fun e W' hx => ?_
  obtain ⟨u, rfl, hu, bel⟩ := hx
  obtain rfl : u = .bool true := by have := hu (fun _ => none); simpa only [ARel, bb] using this
  exact ⟨_, rfl, _, _, _, [], _, [], hW', trodAll_mk1 (shut_bool Try.underlying4 _), (trodAll_cons_mk (Below.trod laidOut (by kernel_rfl) (of_decide_eq_true (by kernel_rfl)) k0 bel lt0) (trodAll_cons_mk (Below.trod laidOut (by kernel_rfl) (of_decide_eq_true (by kernel_rfl)) k1 bel lt1) (trodAll_cons_mk (shut_int Try.underlying24 w2) (trodAll_cons_mk (shut_int Try.underlying24 w3) trodAll_mk0)))), rfl, bel.frame _, fun h => by cases h⟩
theorem over : Rows.bendThroughRow.holds Try.pinned (OpenSpec.ofChange Rows.bendThroughSpec) :=
  OpenClaim.holds_of_wide 3 Try.f3 rfl rfl rfl rfl rfl rfl rfl ⟨rfl, rfl, rfl, rfl, rfl⟩ rfl rfl rfl rfl rfl (by kernel_rfl) Try.func3 (by kernel_rfl)
    (of_decide_eq_true (by kernel_rfl)) (by unfold Func.isWrapper; first | (rw [if_pos (by decide +kernel)]; kernel_rfl) | (rw [if_neg (by decide +kernel)]; exact ⟨rfl, rfl⟩))
    (fun os started H enc _ => lifted os started H enc)
end Go.Proofs.Ytpljpbmkklcbkaa.bendThrough
namespace Go.Proofs.Ytpljpbmkklcbkaa
/-- The row. -/
theorem bendThrough_holds : Rows.BendThroughSaid := bendThrough.over
#print axioms bendThrough_holds
end Go.Proofs.Ytpljpbmkklcbkaa
