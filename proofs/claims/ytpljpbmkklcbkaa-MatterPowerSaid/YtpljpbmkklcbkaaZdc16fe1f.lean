/- The row of the law MatterPower: whatever the input, it returns true, and the input reads as it did. -/
import Derived.Test.YtpljpbmkklcbkaaRows
import Derived.WalkKit
import Derived.ProofKit
import Derived.OpenShut
import Derived.ChangeOld
import Derived.Below
import Derived.Test.YtpljpbmkklcbkaaZd64112bc
namespace Go.Proofs.Ytpljpbmkklcbkaa.matterPower
open Go.ChangeShapes Go.WideShapes Go.ChangeAt Go.RowKit Go.Sky Go.Proofs.Ytpljpbmkklcbkaa
set_option linter.unusedVariables false
set_option linter.unusedSimpArgs false
theorem own : ownKnob Try.prog.godebug = none := by kernel_rfl
theorem laidOut : laidOutB Try.prog = true := by kernel_rfl
set_option maxRecDepth 100000 in
theorem lifted (os : Os) (started : os.Started) (H : Type) (enc : TypeId × Value → H) :
    ReturnsInHanded {} Try.checked os 7 .any (Rows.matterPowerSpec.pre6 enc Try.prog Try.f7 Rows.matterPowerRow.domain false) (Rows.matterPowerSpec.post enc Try.prog Try.f7 false true false false) := by
  refine returnsInHanded_of_change (C := Try.checked) own started (by kernel_rfl) Try.func7
    (ChangeSpec.witness6 (enc := enc) (C := Try.checked) false ⟨#[], #[.int .u16 0, .int .u16 0, .int .u8 0], []⟩ 8 (by kernel_rfl) (by kernel_rfl) (by kernel_rfl) (by kernel_rfl)) ?_
  intro W base args ds gs before hval0 hW hcnd _
  have hval : ∀ (j : Nat) t v, Try.f7.params[j]? = some t → args[j]? = some v → Value.okWide Try.prog W .any base t v := hval0
  have hW' := hW
  obtain ⟨p, q, hA0, hV, rfl, hfz, hnd⟩ := hW
  have hA : DataW.TrodAll enc Try.prog W 0 (fun _ => true) true Try.f7.params.toList args.toList ds p := hA0
  rw [Try.params7] at hA hval
  obtain ⟨v0, vs0, d0, ds0, p0, q0, hargs, rfl, rfl, h0, r0⟩ := trodAll_cons hA
  obtain ⟨v1, vs1, d1, ds1, p1, q1, rfl, rfl, rfl, h1, r1⟩ := trodAll_cons r0
  obtain ⟨v2, vs2, d2, ds2, p2, q2, rfl, rfl, rfl, h2, r2⟩ := trodAll_cons r1
  obtain ⟨rfl, rfl, rfl⟩ := trodAll_nil r2
  obtain rfl : args = #[v0, v1, v2] := by cases args; simp_all
  obtain ⟨rfl, rfl⟩ := trodVars_none hV
  obtain ⟨c, rfl, rfl, rfl, w0⟩ := open_int Try.underlying24 (hval 0 24 v0 rfl rfl) h0
  have g0 : IntKind.min .u16 ≤ c ∧ c ≤ IntKind.max .u16 := by simpa [Lit.wf] using w0
  obtain ⟨d, rfl, rfl, rfl, w1⟩ := open_int Try.underlying24 (hval 1 24 v1 rfl rfl) h1
  have g1 : IntKind.min .u16 ≤ d ∧ d ≤ IntKind.max .u16 := by simpa [Lit.wf] using w1
  obtain ⟨e, rfl, rfl, rfl, w2⟩ := open_int Try.underlying5 (hval 2 5 v2 rfl rfl) h2
  have g2 : IntKind.min .u8 ≤ e ∧ e ≤ IntKind.max .u8 := by simpa [Lit.wf] using w2
  clear hA0 hval0
  refine (calls_of_entry progOk ok_skylightlaw25_MatterPower (by kernel_rfl) (args := [.int .u16 false c, .int .u16 false d, .int .u8 false e]) (v := bb true) rfl (φ := fun _ => none) (w := W) (by simp only [LRel, ARel]; exact ⟨_, _, rfl, ⟨rfl, g0⟩, ⟨_, _, rfl, ⟨rfl, g1⟩, ⟨_, _, rfl, ⟨rfl, g2⟩, rfl⟩⟩⟩)).mono fun e W' hx => ?_
  obtain ⟨u, rfl, hu, bel⟩ := hx
  obtain rfl : u = .bool true := by have := hu (fun _ => none); simpa only [ARel, bb] using this
  exact ⟨_, rfl, _, _, _, [], _, [], hW', trodAll_mk1 (shut_bool Try.underlying4 _), (trodAll_cons_mk (shut_int Try.underlying24 w0) (trodAll_cons_mk (shut_int Try.underlying24 w1) (trodAll_cons_mk (shut_int Try.underlying5 w2) trodAll_mk0))), rfl, bel.frame _, fun h => by cases h⟩
theorem over : Rows.matterPowerRow.holds Try.pinned (OpenSpec.ofChange Rows.matterPowerSpec) :=
  OpenClaim.holds_of_wide 7 Try.f7 rfl rfl rfl rfl rfl rfl rfl ⟨rfl, rfl, rfl, rfl, rfl⟩ rfl rfl rfl rfl rfl (by kernel_rfl) Try.func7 (by kernel_rfl)
    (of_decide_eq_true (by kernel_rfl)) (by unfold Func.isWrapper; first | (rw [if_pos (by decide +kernel)]; kernel_rfl) | (rw [if_neg (by decide +kernel)]; exact ⟨rfl, rfl⟩))
    (fun os started H enc _ => lifted os started H enc)
end Go.Proofs.Ytpljpbmkklcbkaa.matterPower
namespace Go.Proofs.Ytpljpbmkklcbkaa
/-- The row. -/
theorem matterPower_holds : Rows.MatterPowerSaid := matterPower.over
#print axioms matterPower_holds
end Go.Proofs.Ytpljpbmkklcbkaa
