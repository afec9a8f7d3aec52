/- Trees of functions, and what they come to. -/
import Derived.Test.YtfbakgcemnkcpaaQSkyO
import Derived.Test.YtfbakgcemnkcpaaQSkyPart
set_option linter.unusedSimpArgs false
set_option linter.unusedVariables false
namespace Go.Sky
set_option maxRecDepth 100000

/-! skylightref06.Even, block 0 -/
def st_skylightref06_Even_0 (t_x : Int) (t_y : Int) (t_z : Int) (q_x : Int) (q_y : Int) (q_z : Int) (x0 x2 x3 x4 x5 x6 x7 x8 x9 x10 x11 x12 x13 x14 x15 x16 x17 x18 x19 x20 x21 x22 x23 x24 x25 x26 x27 x28 : AV) : St := ⟨[x0, .ptr (some (0, 0)), x2, x3, x4, x5, x6, x7, x8, x9, x10, x11, x12, x13, x14, x15, x16, x17, x18, x19, x20, x21, x22, x23, x24, x25, x26, x27, x28], [[.int .i64 false t_x, .int .i64 false t_y, .int .i64 false t_z], [.int .i64 false q_x, .int .i64 false q_y, .int .i64 false q_z]]⟩
def kl_skylightref06_Even_0 (t_x : Int) (t_y : Int) (t_z : Int) (q_x : Int) (q_y : Int) (q_z : Int) (x0 x2 x3 x4 x5 x6 x7 x8 x9 x10 x11 x12 x13 x14 x15 x16 x17 x18 x19 x20 x21 x22 x23 x24 x25 x26 x27 x28 : AV) : List AV := [untag x0, untag (.ptr (some (0, 0))), untag x2, .undef, .undef, .undef, .undef, .undef, .undef, .undef, .undef, .undef, .undef, .undef, .undef, untag x15, untag x16, untag x17, untag x18, untag x19, untag x20, untag x21, untag x22, untag x23, untag x24, untag x25, untag x26, untag x27, untag x28]
def sl_skylightref06_Even_0_0 (t_x : Int) (t_y : Int) (t_z : Int) (q_x : Int) (q_y : Int) (q_z : Int) (x0 x2 x3 x4 x5 x6 x7 x8 x9 x10 x11 x12 x13 x14 x15 x16 x17 x18 x19 x20 x21 x22 x23 x24 x25 x26 x27 x28 : AV) : St := ⟨[x0, AV.ptr (some (0, 0)), x2, AV.agg [AV.int IntKind.i64 false t_x, AV.int IntKind.i64 false t_y, AV.int IntKind.i64 false t_z], AV.bool false (decide ((-524287 ≤ t_x ∧ t_x ≤ 524287) ∧ (-524287 ≤ t_y ∧ t_y ≤ 524287) ∧ -524287 ≤ t_z ∧ t_z ≤ 524287)), AV.ptr (some (0, 0)), AV.int IntKind.i64 false t_x, AV.int IntKind.i64 false (IntKind.i64.wrap (2 * t_x)), AV.ptr (some (0, 1)), AV.int IntKind.i64 false t_y, AV.int IntKind.i64 false (IntKind.i64.wrap (2 * t_y)), AV.ptr (some (0, 2)), AV.int IntKind.i64 false t_z, AV.int IntKind.i64 false (IntKind.i64.wrap (2 * t_z)), AV.agg [AV.int IntKind.i64 false (IntKind.i64.wrap (2 * t_x)), AV.int IntKind.i64 false (IntKind.i64.wrap (2 * t_y)), AV.int IntKind.i64 false (IntKind.i64.wrap (2 * t_z))], x15, x16, x17, x18, x19, x20, x21, x22, x23, x24, x25, x26, x27, x28], [[AV.int IntKind.i64 false (IntKind.i64.wrap (2 * t_x)), AV.int IntKind.i64 false (IntKind.i64.wrap (2 * t_y)), AV.int IntKind.i64 false (IntKind.i64.wrap (2 * t_z))], [AV.int IntKind.i64 false q_x, AV.int IntKind.i64 false q_y, AV.int IntKind.i64 false q_z]]⟩
def sl_skylightref06_Even_0_1 (t_x : Int) (t_y : Int) (t_z : Int) (q_x : Int) (q_y : Int) (q_z : Int) (x0 x2 x3 x4 x5 x6 x7 x8 x9 x10 x11 x12 x13 x14 x15 x16 x17 x18 x19 x20 x21 x22 x23 x24 x25 x26 x27 x28 : AV) : St := ⟨[x0, AV.ptr (some (0, 0)), x2, AV.agg [AV.int IntKind.i64 false t_x, AV.int IntKind.i64 false t_y, AV.int IntKind.i64 false t_z], AV.bool false (decide ((-524287 ≤ t_x ∧ t_x ≤ 524287) ∧ (-524287 ≤ t_y ∧ t_y ≤ 524287) ∧ -524287 ≤ t_z ∧ t_z ≤ 524287)), x5, x6, x7, x8, x9, x10, x11, x12, x13, x14, x15, x16, x17, x18, x19, x20, x21, x22, x23, x24, x25, x26, x27, x28], [[AV.int IntKind.i64 false t_x, AV.int IntKind.i64 false t_y, AV.int IntKind.i64 false t_z], [AV.int IntKind.i64 false q_x, AV.int IntKind.i64 false q_y, AV.int IntKind.i64 false q_z]]⟩
def rd_skylightref06_Even_0 (t_x : Int) (t_y : Int) (t_z : Int) (q_x : Int) (q_y : Int) (q_z : Int) (x0 x2 x3 x4 x5 x6 x7 x8 x9 x10 x11 x12 x13 x14 x15 x16 x17 x18 x19 x20 x21 x22 x23 x24 x25 x26 x27 x28 : AV) : Tr (Ex × St) := Tr.node true (Tr.node (decide ((-524287 ≤ t_x ∧ t_x ≤ 524287) ∧ (-524287 ≤ t_y ∧ t_y ≤ 524287) ∧ -524287 ≤ t_z ∧ t_z ≤ 524287)) (Tr.leaf (Ex.normal, sl_skylightref06_Even_0_0 t_x t_y t_z q_x q_y q_z x0 x2 x3 x4 x5 x6 x7 x8 x9 x10 x11 x12 x13 x14 x15 x16 x17 x18 x19 x20 x21 x22 x23 x24 x25 x26 x27 x28)) (Tr.leaf (Ex.exit 0, sl_skylightref06_Even_0_1 t_x t_y t_z q_x q_y q_z x0 x2 x3 x4 x5 x6 x7 x8 x9 x10 x11 x12 x13 x14 x15 x16 x17 x18 x19 x20 x21 x22 x23 x24 x25 x26 x27 x28))) (Tr.bad)
def g_skylightref06_Even_0 : PieceTold := fun l h => match l, h with | [.ptr (some (0, 0))], [[.int .i64 false t_x, .int .i64 false t_y, .int .i64 false t_z], [.int .i64 false q_x, .int .i64 false q_y, .int .i64 false q_z]] => .node (decide (1 ≤ mostI t_x t_y t_z ∧ mostI t_x t_y t_z ≤ 4611686018427387904)) (.leaf (.normal, [], [[i6 (upS 20 t_x (mostI t_x t_y t_z)), i6 (upS 20 t_y (mostI t_x t_y t_z)), i6 (upS 20 t_z (mostI t_x t_y t_z))], [.int .i64 false q_x, .int .i64 false q_y, .int .i64 false q_z]])) .bad | _, _ => .bad
def HR_skylightref06_Even_0 (rnd : Nat → St → Tr (Ex × St)) : Prop := ∀ L (t_x : Int) (t_y : Int) (t_z : Int) (q_x : Int) (q_y : Int) (q_z : Int) (x0 x2 x3 x4 x5 x6 x7 x8 x9 x10 x11 x12 x13 x14 x15 x16 x17 x18 x19 x20 x21 x22 x23 x24 x25 x26 x27 x28 : AV), rnd L (st_skylightref06_Even_0 t_x t_y t_z q_x q_y q_z x0 x2 x3 x4 x5 x6 x7 x8 x9 x10 x11 x12 x13 x14 x15 x16 x17 x18 x19 x20 x21 x22 x23 x24 x25 x26 x27 x28) = rd_skylightref06_Even_0 t_x t_y t_z q_x q_y q_z x0 x2 x3 x4 x5 x6 x7 x8 x9 x10 x11 x12 x13 x14 x15 x16 x17 x18 x19 x20 x21 x22 x23 x24 x25 x26 x27 x28
/-- From here the loop ends so. -/
def Fin_skylightref06_Even_0 (rnd : Nat → St → Tr (Ex × St)) (t_x : Int) (t_y : Int) (t_z : Int) (q_x : Int) (q_y : Int) (q_z : Int) (e : Ex) (outs : List (Nat × AV)) (hp : AH → AH) : Prop := ∀ (x0 x2 x3 x4 x5 x6 x7 x8 x9 x10 x11 x12 x13 x14 x15 x16 x17 x18 x19 x20 x21 x22 x23 x24 x25 x26 x27 x28 : AV),
    ∃ N s', (∀ L, (loopIter (rnd L) (N + 1) (st_skylightref06_Even_0 t_x t_y t_z q_x q_y q_z x0 x2 x3 x4 x5 x6 x7 x8 x9 x10 x11 x12 x13 x14 x15 x16 x17 x18 x19 x20 x21 x22 x23 x24 x25 x26 x27 x28)).run = some (e, s')) ∧ Leaves 29 [3, 4, 5, 6, 7, 8, 9, 10, 11, 12, 13, 14] (st_skylightref06_Even_0 t_x t_y t_z q_x q_y q_z x0 x2 x3 x4 x5 x6 x7 x8 x9 x10 x11 x12 x13 x14 x15 x16 x17 x18 x19 x20 x21 x22 x23 x24 x25 x26 x27 x28).tmps outs (hp ([[.int .i64 false t_x, .int .i64 false t_y, .int .i64 false t_z], [.int .i64 false q_x, .int .i64 false q_y, .int .i64 false q_z]])) s'
theorem step_skylightref06_Even_0_0 {rnd : Nat → St → Tr (Ex × St)} (hr : HR_skylightref06_Even_0 rnd) (t_x : Int) (t_y : Int) (t_z : Int) (q_x : Int) (q_y : Int) (q_z : Int) (c0 : true = true) (c1 : (decide ((-524287 ≤ t_x ∧ t_x ≤ 524287) ∧ (-524287 ≤ t_y ∧ t_y ≤ 524287) ∧ -524287 ≤ t_z ∧ t_z ≤ 524287)) = true) {e : Ex} {outs : List (Nat × AV)} {hp : AH → AH} (hh : hp ([[AV.int IntKind.i64 false (IntKind.i64.wrap (2 * t_x)), AV.int IntKind.i64 false (IntKind.i64.wrap (2 * t_y)), AV.int IntKind.i64 false (IntKind.i64.wrap (2 * t_z))], [AV.int IntKind.i64 false q_x, AV.int IntKind.i64 false q_y, AV.int IntKind.i64 false q_z]]) = hp ([[.int .i64 false t_x, .int .i64 false t_y, .int .i64 false t_z], [.int .i64 false q_x, .int .i64 false q_y, .int .i64 false q_z]])) (hn : Fin_skylightref06_Even_0 rnd ((IntKind.i64.wrap (2 * t_x))) ((IntKind.i64.wrap (2 * t_y))) ((IntKind.i64.wrap (2 * t_z))) (q_x) (q_y) (q_z) e outs hp) : Fin_skylightref06_Even_0 rnd t_x t_y t_z q_x q_y q_z e outs hp := by
  intro x0 x2 x3 x4 x5 x6 x7 x8 x9 x10 x11 x12 x13 x14 x15 x16 x17 x18 x19 x20 x21 x22 x23 x24 x25 x26 x27 x28
  obtain ⟨N, s', h1, h2⟩ := hn (x0) (x2) (AV.agg [AV.int IntKind.i64 false t_x, AV.int IntKind.i64 false t_y, AV.int IntKind.i64 false t_z]) (AV.bool false (decide ((-524287 ≤ t_x ∧ t_x ≤ 524287) ∧ (-524287 ≤ t_y ∧ t_y ≤ 524287) ∧ -524287 ≤ t_z ∧ t_z ≤ 524287))) (AV.ptr (some (0, 0))) (AV.int IntKind.i64 false t_x) (AV.int IntKind.i64 false (IntKind.i64.wrap (2 * t_x))) (AV.ptr (some (0, 1))) (AV.int IntKind.i64 false t_y) (AV.int IntKind.i64 false (IntKind.i64.wrap (2 * t_y))) (AV.ptr (some (0, 2))) (AV.int IntKind.i64 false t_z) (AV.int IntKind.i64 false (IntKind.i64.wrap (2 * t_z))) (AV.agg [AV.int IntKind.i64 false (IntKind.i64.wrap (2 * t_x)), AV.int IntKind.i64 false (IntKind.i64.wrap (2 * t_y)), AV.int IntKind.i64 false (IntKind.i64.wrap (2 * t_z))]) (x15) (x16) (x17) (x18) (x19) (x20) (x21) (x22) (x23) (x24) (x25) (x26) (x27) (x28)
  refine ⟨N + 1, s', fun L => ?_, hh ▸ h2.of ((show _ = kl_skylightref06_Even_0 t_x t_y t_z q_x q_y q_z x0 x2 x3 x4 x5 x6 x7 x8 x9 x10 x11 x12 x13 x14 x15 x16 x17 x18 x19 x20 x21 x22 x23 x24 x25 x26 x27 x28 from rfl).trans (show kl_skylightref06_Even_0 t_x t_y t_z q_x q_y q_z x0 x2 x3 x4 x5 x6 x7 x8 x9 x10 x11 x12 x13 x14 x15 x16 x17 x18 x19 x20 x21 x22 x23 x24 x25 x26 x27 x28 = _ from rfl))⟩
  rw [loopIter, hr L t_x t_y t_z q_x q_y q_z x0 x2 x3 x4 x5 x6 x7 x8 x9 x10 x11 x12 x13 x14 x15 x16 x17 x18 x19 x20 x21 x22 x23 x24 x25 x26 x27 x28, Tr.run_bind, show (rd_skylightref06_Even_0 t_x t_y t_z q_x q_y q_z x0 x2 x3 x4 x5 x6 x7 x8 x9 x10 x11 x12 x13 x14 x15 x16 x17 x18 x19 x20 x21 x22 x23 x24 x25 x26 x27 x28).run = some (.normal, sl_skylightref06_Even_0_0 t_x t_y t_z q_x q_y q_z x0 x2 x3 x4 x5 x6 x7 x8 x9 x10 x11 x12 x13 x14 x15 x16 x17 x18 x19 x20 x21 x22 x23 x24 x25 x26 x27 x28) from (run_t c0).trans ((run_t c1).trans (rfl))]
  exact h1 L
theorem stop_skylightref06_Even_0_1 {rnd : Nat → St → Tr (Ex × St)} (hr : HR_skylightref06_Even_0 rnd) (t_x : Int) (t_y : Int) (t_z : Int) (q_x : Int) (q_y : Int) (q_z : Int) (c0 : true = true) (c1 : (decide ((-524287 ≤ t_x ∧ t_x ≤ 524287) ∧ (-524287 ≤ t_y ∧ t_y ≤ 524287) ∧ -524287 ≤ t_z ∧ t_z ≤ 524287)) = false) {outs : List (Nat × AV)} {hp : AH → AH} (ho : ∀ (x0 x2 x3 x4 x5 x6 x7 x8 x9 x10 x11 x12 x13 x14 x15 x16 x17 x18 x19 x20 x21 x22 x23 x24 x25 x26 x27 x28 : AV), outs.map (fun p => untag ((sl_skylightref06_Even_0_1 t_x t_y t_z q_x q_y q_z x0 x2 x3 x4 x5 x6 x7 x8 x9 x10 x11 x12 x13 x14 x15 x16 x17 x18 x19 x20 x21 x22 x23 x24 x25 x26 x27 x28).tmps.getD p.1 .undef)) = outs.map (fun p => untag p.2)) (hh : ∀ h : AH, ([[AV.int IntKind.i64 false t_x, AV.int IntKind.i64 false t_y, AV.int IntKind.i64 false t_z], [AV.int IntKind.i64 false q_x, AV.int IntKind.i64 false q_y, AV.int IntKind.i64 false q_z]]).map untagL = (hp ([[.int .i64 false t_x, .int .i64 false t_y, .int .i64 false t_z], [.int .i64 false q_x, .int .i64 false q_y, .int .i64 false q_z]])).map untagL) : Fin_skylightref06_Even_0 rnd t_x t_y t_z q_x q_y q_z (.exit 0) outs hp := by
  intro x0 x2 x3 x4 x5 x6 x7 x8 x9 x10 x11 x12 x13 x14 x15 x16 x17 x18 x19 x20 x21 x22 x23 x24 x25 x26 x27 x28
  refine ⟨0, sl_skylightref06_Even_0_1 t_x t_y t_z q_x q_y q_z x0 x2 x3 x4 x5 x6 x7 x8 x9 x10 x11 x12 x13 x14 x15 x16 x17 x18 x19 x20 x21 x22 x23 x24 x25 x26 x27 x28, fun L => ?_, ⟨hh [], rfl, ho x0 x2 x3 x4 x5 x6 x7 x8 x9 x10 x11 x12 x13 x14 x15 x16 x17 x18 x19 x20 x21 x22 x23 x24 x25 x26 x27 x28, ((show _ = kl_skylightref06_Even_0 t_x t_y t_z q_x q_y q_z x0 x2 x3 x4 x5 x6 x7 x8 x9 x10 x11 x12 x13 x14 x15 x16 x17 x18 x19 x20 x21 x22 x23 x24 x25 x26 x27 x28 from rfl).trans (show kl_skylightref06_Even_0 t_x t_y t_z q_x q_y q_z x0 x2 x3 x4 x5 x6 x7 x8 x9 x10 x11 x12 x13 x14 x15 x16 x17 x18 x19 x20 x21 x22 x23 x24 x25 x26 x27 x28 = _ from rfl))⟩⟩
  rw [loopIter, hr L t_x t_y t_z q_x q_y q_z x0 x2 x3 x4 x5 x6 x7 x8 x9 x10 x11 x12 x13 x14 x15 x16 x17 x18 x19 x20 x21 x22 x23 x24 x25 x26 x27 x28, Tr.run_bind, show (rd_skylightref06_Even_0 t_x t_y t_z q_x q_y q_z x0 x2 x3 x4 x5 x6 x7 x8 x9 x10 x11 x12 x13 x14 x15 x16 x17 x18 x19 x20 x21 x22 x23 x24 x25 x26 x27 x28).run = some (.exit 0, sl_skylightref06_Even_0_1 t_x t_y t_z q_x q_y q_z x0 x2 x3 x4 x5 x6 x7 x8 x9 x10 x11 x12 x13 x14 x15 x16 x17 x18 x19 x20 x21 x22 x23 x24 x25 x26 x27 x28) from (run_t c0).trans ((run_f c1).trans (rfl))]
  rfl
theorem core_skylightref06_Even_0 (rnd : Nat → St → Tr (Ex × St)) (hr : HR_skylightref06_Even_0 rnd) : ∀ (t_x : Int) (t_y : Int) (t_z : Int) (q_x : Int) (q_y : Int) (q_z : Int), 1 ≤ mostI t_x t_y t_z ∧ mostI t_x t_y t_z ≤ 4611686018427387904 → Fin_skylightref06_Even_0 rnd t_x t_y t_z q_x q_y q_z (.exit 0) [] (fun _ => [[i6 (upS 20 t_x (mostI t_x t_y t_z)), i6 (upS 20 t_y (mostI t_x t_y t_z)), i6 (upS 20 t_z (mostI t_x t_y t_z))], [.int .i64 false q_x, .int .i64 false q_y, .int .i64 false q_z]]) := by
  have key : ∀ (k : Nat) (t_x t_y t_z q_x q_y q_z : Int), (1 ≤ mostI t_x t_y t_z ∧ mostI t_x t_y t_z ≤ 4611686018427387904) ∧ 524288 ≤ mostI t_x t_y t_z * 2 ^ k →
      Fin_skylightref06_Even_0 rnd t_x t_y t_z q_x q_y q_z (.exit 0) [] (fun _ => [[i6 (upS k t_x (mostI t_x t_y t_z)), i6 (upS k t_y (mostI t_x t_y t_z)), i6 (upS k t_z (mostI t_x t_y t_z))], [.int .i64 false q_x, .int .i64 false q_y, .int .i64 false q_z]]) := by
    intro k
    induction k with
    | zero =>
      intro t_x t_y t_z q_x q_y q_z ⟨⟨h1, h2⟩, hk⟩
      obtain ⟨hx, hy, hz, hm⟩ := most_spec h2
      exact stop_skylightref06_Even_0_1 hr t_x t_y t_z q_x q_y q_z rfl (decide_eq_false (by omega)) (by intros; rfl) (fun h => rfl)
    | succ k ih =>
      intro t_x t_y t_z q_x q_y q_z ⟨⟨h1, h2⟩, hk⟩
      obtain ⟨hx, hy, hz, hm⟩ := most_spec h2
      by_cases hc : mostI t_x t_y t_z < 524288
      · refine step_skylightref06_Even_0_0 hr t_x t_y t_z q_x q_y q_z rfl (decide_eq_true (by omega)) rfl ?_
        rw [wrap_i64_id (n := 2 * t_x) (by omega), wrap_i64_id (n := 2 * t_y) (by omega), wrap_i64_id (n := 2 * t_z) (by omega)]
        simp only [upS, if_pos hc]
        have hd := most_double (x := t_x) (y := t_y) (z := t_z) (by omega)
        have := ih (2 * t_x) (2 * t_y) (2 * t_z) q_x q_y q_z (by
          rw [hd]
          have : mostI t_x t_y t_z * 2 ^ (k + 1) = 2 * mostI t_x t_y t_z * 2 ^ k := by rw [Int.pow_succ]; grind
          omega)
        rw [hd] at this
        exact this
      · refine stop_skylightref06_Even_0_1 hr t_x t_y t_z q_x q_y q_z rfl (decide_eq_false (by omega)) (by intros; rfl) (fun h => ?_)
        simp only [upS, if_neg hc]; rfl
  exact fun t_x t_y t_z q_x q_y q_z hc => key 20 t_x t_y t_z q_x q_y q_z ⟨hc, by omega⟩
theorem piece_skylightref06_Even_0 {P : Program} {T : Table} {O' : Known} {f : FuncId} (hb : blockOf P f 0 = .loop (loopOf P f 0)) (hid : O' 0 = none)
    (hr : HR_skylightref06_Even_0 (fun L => evCode P (evCall P T 16 6) L O' (loopOf P f 0))) :
    ∀ (s : St) (e : Ex) (outs : List (Nat × AV)) (hp : AH), s.tmps.length = 29 → (g_skylightref06_Even_0 (([1] : List Nat).map fun j => untag (s.tmps.getD j .undef)) (s.heap.map untagL)).run = some (e, outs, hp) → ∃ s', Good P T O' f 0 29 [3, 4, 5, 6, 7, 8, 9, 10, 11, 12, 13, 14] s e outs hp s' := by
  intro s e outs hp hk hg
  obtain ⟨tm, h⟩ := s
  have htm : untagL tm = [untag (tm.getD 0 .undef), untag (tm.getD 1 .undef), untag (tm.getD 2 .undef), untag (tm.getD 3 .undef), untag (tm.getD 4 .undef), untag (tm.getD 5 .undef), untag (tm.getD 6 .undef), untag (tm.getD 7 .undef), untag (tm.getD 8 .undef), untag (tm.getD 9 .undef), untag (tm.getD 10 .undef), untag (tm.getD 11 .undef), untag (tm.getD 12 .undef), untag (tm.getD 13 .undef), untag (tm.getD 14 .undef), untag (tm.getD 15 .undef), untag (tm.getD 16 .undef), untag (tm.getD 17 .undef), untag (tm.getD 18 .undef), untag (tm.getD 19 .undef), untag (tm.getD 20 .undef), untag (tm.getD 21 .undef), untag (tm.getD 22 .undef), untag (tm.getD 23 .undef), untag (tm.getD 24 .undef), untag (tm.getD 25 .undef), untag (tm.getD 26 .undef), untag (tm.getD 27 .undef), untag (tm.getD 28 .undef)] := tmps_eq hk
  unfold g_skylightref06_Even_0 at hg
  simp only [List.map_cons, List.map_nil] at hg
  split at hg
  · rename_i t_x t_y t_z q_x q_y q_z heq hheap
    simp only [List.cons.injEq, and_true] at heq
    have e1 := heq
    simp only [Tr.run] at hg
    split at hg
    · rename_i hc
      simp only [Option.some.injEq, Prod.mk.injEq] at hg
      obtain ⟨rfl, rfl, rfl⟩ := hg
      rw [e1] at htm
      obtain ⟨N, s', h1, h2⟩ := core_skylightref06_Even_0 (fun L => evCode P (evCall P T 16 6) L O' (loopOf P f 0)) hr t_x t_y t_z q_x q_y q_z (of_decide_eq_true hc) (untag (tm.getD 0 .undef)) (untag (tm.getD 2 .undef)) (untag (tm.getD 3 .undef)) (untag (tm.getD 4 .undef)) (untag (tm.getD 5 .undef)) (untag (tm.getD 6 .undef)) (untag (tm.getD 7 .undef)) (untag (tm.getD 8 .undef)) (untag (tm.getD 9 .undef)) (untag (tm.getD 10 .undef)) (untag (tm.getD 11 .undef)) (untag (tm.getD 12 .undef)) (untag (tm.getD 13 .undef)) (untag (tm.getD 14 .undef)) (untag (tm.getD 15 .undef)) (untag (tm.getD 16 .undef)) (untag (tm.getD 17 .undef)) (untag (tm.getD 18 .undef)) (untag (tm.getD 19 .undef)) (untag (tm.getD 20 .undef)) (untag (tm.getD 21 .undef)) (untag (tm.getD 22 .undef)) (untag (tm.getD 23 .undef)) (untag (tm.getD 24 .undef)) (untag (tm.getD 25 .undef)) (untag (tm.getD 26 .undef)) (untag (tm.getD 27 .undef)) (untag (tm.getD 28 .undef)) 
      exact ⟨s', good_loop (e1 := .exit 0) hb hid 16 6 N (by rw [htm, hheap]; exact h1) (by rw [htm]; exact h2)⟩
    · cases hg
  · cases hg

/-! skylightref06.Even, block 2 -/
def st_skylightref06_Even_2 (t_x : Int) (t_y : Int) (t_z : Int) (q_x : Int) (q_y : Int) (q_z : Int) (x0 x2 x3 x4 x5 x6 x7 x8 x9 x10 x11 x12 x13 x14 x15 x16 x17 x18 x19 x20 x21 x22 x23 x24 x25 x26 x27 x28 : AV) : St := ⟨[x0, .ptr (some (0, 0)), x2, x3, x4, x5, x6, x7, x8, x9, x10, x11, x12, x13, x14, x15, x16, x17, x18, x19, x20, x21, x22, x23, x24, x25, x26, x27, x28], [[.int .i64 false t_x, .int .i64 false t_y, .int .i64 false t_z], [.int .i64 false q_x, .int .i64 false q_y, .int .i64 false q_z]]⟩
def kl_skylightref06_Even_2 (t_x : Int) (t_y : Int) (t_z : Int) (q_x : Int) (q_y : Int) (q_z : Int) (x0 x2 x3 x4 x5 x6 x7 x8 x9 x10 x11 x12 x13 x14 x15 x16 x17 x18 x19 x20 x21 x22 x23 x24 x25 x26 x27 x28 : AV) : List AV := [untag x0, untag (.ptr (some (0, 0))), untag x2, untag x3, untag x4, untag x5, untag x6, untag x7, untag x8, untag x9, untag x10, untag x11, untag x12, untag x13, untag x14, .undef, .undef, .undef, .undef, .undef, .undef, .undef, .undef, .undef, .undef, .undef, .undef, .undef, untag x28]
def sl_skylightref06_Even_2_0 (t_x : Int) (t_y : Int) (t_z : Int) (q_x : Int) (q_y : Int) (q_z : Int) (x0 x2 x3 x4 x5 x6 x7 x8 x9 x10 x11 x12 x13 x14 x15 x16 x17 x18 x19 x20 x21 x22 x23 x24 x25 x26 x27 x28 : AV) : St := ⟨[x0, AV.ptr (some (0, 0)), x2, x3, x4, x5, x6, x7, x8, x9, x10, x11, x12, x13, x14, AV.agg [AV.int IntKind.i64 false t_x, AV.int IntKind.i64 false t_y, AV.int IntKind.i64 false t_z], AV.bool false (decide ((-1048575 ≤ t_x ∧ t_x ≤ 1048575) ∧ (-1048575 ≤ t_y ∧ t_y ≤ 1048575) ∧ -1048575 ≤ t_z ∧ t_z ≤ 1048575)), AV.bool false !decide ((-1048575 ≤ t_x ∧ t_x ≤ 1048575) ∧ (-1048575 ≤ t_y ∧ t_y ≤ 1048575) ∧ -1048575 ≤ t_z ∧ t_z ≤ 1048575), AV.ptr (some (0, 0)), AV.int IntKind.i64 false t_x, AV.int IntKind.i64 false (towS t_x 2), AV.ptr (some (0, 1)), AV.int IntKind.i64 false t_y, AV.int IntKind.i64 false (towS t_y 2), AV.ptr (some (0, 2)), AV.int IntKind.i64 false t_z, AV.int IntKind.i64 false (towS t_z 2), AV.agg [AV.int IntKind.i64 false (towS t_x 2), AV.int IntKind.i64 false (towS t_y 2), AV.int IntKind.i64 false (towS t_z 2)], x28], [[AV.int IntKind.i64 false (towS t_x 2), AV.int IntKind.i64 false (towS t_y 2), AV.int IntKind.i64 false (towS t_z 2)], [AV.int IntKind.i64 false q_x, AV.int IntKind.i64 false q_y, AV.int IntKind.i64 false q_z]]⟩
def sl_skylightref06_Even_2_1 (t_x : Int) (t_y : Int) (t_z : Int) (q_x : Int) (q_y : Int) (q_z : Int) (x0 x2 x3 x4 x5 x6 x7 x8 x9 x10 x11 x12 x13 x14 x15 x16 x17 x18 x19 x20 x21 x22 x23 x24 x25 x26 x27 x28 : AV) : St := ⟨[x0, AV.ptr (some (0, 0)), x2, x3, x4, x5, x6, x7, x8, x9, x10, x11, x12, x13, x14, AV.agg [AV.int IntKind.i64 false t_x, AV.int IntKind.i64 false t_y, AV.int IntKind.i64 false t_z], AV.bool false (decide ((-1048575 ≤ t_x ∧ t_x ≤ 1048575) ∧ (-1048575 ≤ t_y ∧ t_y ≤ 1048575) ∧ -1048575 ≤ t_z ∧ t_z ≤ 1048575)), AV.bool false !decide ((-1048575 ≤ t_x ∧ t_x ≤ 1048575) ∧ (-1048575 ≤ t_y ∧ t_y ≤ 1048575) ∧ -1048575 ≤ t_z ∧ t_z ≤ 1048575), x18, x19, x20, x21, x22, x23, x24, x25, x26, x27, x28], [[AV.int IntKind.i64 false t_x, AV.int IntKind.i64 false t_y, AV.int IntKind.i64 false t_z], [AV.int IntKind.i64 false q_x, AV.int IntKind.i64 false q_y, AV.int IntKind.i64 false q_z]]⟩
def rd_skylightref06_Even_2 (t_x : Int) (t_y : Int) (t_z : Int) (q_x : Int) (q_y : Int) (q_z : Int) (x0 x2 x3 x4 x5 x6 x7 x8 x9 x10 x11 x12 x13 x14 x15 x16 x17 x18 x19 x20 x21 x22 x23 x24 x25 x26 x27 x28 : AV) : Tr (Ex × St) := Tr.node true (Tr.node (!decide ((-1048575 ≤ t_x ∧ t_x ≤ 1048575) ∧ (-1048575 ≤ t_y ∧ t_y ≤ 1048575) ∧ -1048575 ≤ t_z ∧ t_z ≤ 1048575)) (Tr.leaf (Ex.normal, sl_skylightref06_Even_2_0 t_x t_y t_z q_x q_y q_z x0 x2 x3 x4 x5 x6 x7 x8 x9 x10 x11 x12 x13 x14 x15 x16 x17 x18 x19 x20 x21 x22 x23 x24 x25 x26 x27 x28)) (Tr.leaf (Ex.exit 2, sl_skylightref06_Even_2_1 t_x t_y t_z q_x q_y q_z x0 x2 x3 x4 x5 x6 x7 x8 x9 x10 x11 x12 x13 x14 x15 x16 x17 x18 x19 x20 x21 x22 x23 x24 x25 x26 x27 x28))) (Tr.bad)
def g_skylightref06_Even_2 : PieceTold := fun l h => match l, h with | [.ptr (some (0, 0))], [[.int .i64 false t_x, .int .i64 false t_y, .int .i64 false t_z], [.int .i64 false q_x, .int .i64 false q_y, .int .i64 false q_z]] => .node (decide (mostI t_x t_y t_z ≤ 4611686018427387904)) (.leaf (.normal, [], [[i6 (downS 45 t_x (mostI t_x t_y t_z)), i6 (downS 45 t_y (mostI t_x t_y t_z)), i6 (downS 45 t_z (mostI t_x t_y t_z))], [.int .i64 false q_x, .int .i64 false q_y, .int .i64 false q_z]])) .bad | _, _ => .bad
def HR_skylightref06_Even_2 (rnd : Nat → St → Tr (Ex × St)) : Prop := ∀ L (t_x : Int) (t_y : Int) (t_z : Int) (q_x : Int) (q_y : Int) (q_z : Int) (x0 x2 x3 x4 x5 x6 x7 x8 x9 x10 x11 x12 x13 x14 x15 x16 x17 x18 x19 x20 x21 x22 x23 x24 x25 x26 x27 x28 : AV), rnd L (st_skylightref06_Even_2 t_x t_y t_z q_x q_y q_z x0 x2 x3 x4 x5 x6 x7 x8 x9 x10 x11 x12 x13 x14 x15 x16 x17 x18 x19 x20 x21 x22 x23 x24 x25 x26 x27 x28) = rd_skylightref06_Even_2 t_x t_y t_z q_x q_y q_z x0 x2 x3 x4 x5 x6 x7 x8 x9 x10 x11 x12 x13 x14 x15 x16 x17 x18 x19 x20 x21 x22 x23 x24 x25 x26 x27 x28
/-- From here the loop ends so. -/
def Fin_skylightref06_Even_2 (rnd : Nat → St → Tr (Ex × St)) (t_x : Int) (t_y : Int) (t_z : Int) (q_x : Int) (q_y : Int) (q_z : Int) (e : Ex) (outs : List (Nat × AV)) (hp : AH → AH) : Prop := ∀ (x0 x2 x3 x4 x5 x6 x7 x8 x9 x10 x11 x12 x13 x14 x15 x16 x17 x18 x19 x20 x21 x22 x23 x24 x25 x26 x27 x28 : AV),
    ∃ N s', (∀ L, (loopIter (rnd L) (N + 1) (st_skylightref06_Even_2 t_x t_y t_z q_x q_y q_z x0 x2 x3 x4 x5 x6 x7 x8 x9 x10 x11 x12 x13 x14 x15 x16 x17 x18 x19 x20 x21 x22 x23 x24 x25 x26 x27 x28)).run = some (e, s')) ∧ Leaves 29 [15, 16, 17, 18, 19, 20, 21, 22, 23, 24, 25, 26, 27] (st_skylightref06_Even_2 t_x t_y t_z q_x q_y q_z x0 x2 x3 x4 x5 x6 x7 x8 x9 x10 x11 x12 x13 x14 x15 x16 x17 x18 x19 x20 x21 x22 x23 x24 x25 x26 x27 x28).tmps outs (hp ([[.int .i64 false t_x, .int .i64 false t_y, .int .i64 false t_z], [.int .i64 false q_x, .int .i64 false q_y, .int .i64 false q_z]])) s'
theorem step_skylightref06_Even_2_0 {rnd : Nat → St → Tr (Ex × St)} (hr : HR_skylightref06_Even_2 rnd) (t_x : Int) (t_y : Int) (t_z : Int) (q_x : Int) (q_y : Int) (q_z : Int) (c0 : true = true) (c1 : (!decide ((-1048575 ≤ t_x ∧ t_x ≤ 1048575) ∧ (-1048575 ≤ t_y ∧ t_y ≤ 1048575) ∧ -1048575 ≤ t_z ∧ t_z ≤ 1048575)) = true) {e : Ex} {outs : List (Nat × AV)} {hp : AH → AH} (hh : hp ([[AV.int IntKind.i64 false (towS t_x 2), AV.int IntKind.i64 false (towS t_y 2), AV.int IntKind.i64 false (towS t_z 2)], [AV.int IntKind.i64 false q_x, AV.int IntKind.i64 false q_y, AV.int IntKind.i64 false q_z]]) = hp ([[.int .i64 false t_x, .int .i64 false t_y, .int .i64 false t_z], [.int .i64 false q_x, .int .i64 false q_y, .int .i64 false q_z]])) (hn : Fin_skylightref06_Even_2 rnd ((towS t_x 2)) ((towS t_y 2)) ((towS t_z 2)) (q_x) (q_y) (q_z) e outs hp) : Fin_skylightref06_Even_2 rnd t_x t_y t_z q_x q_y q_z e outs hp := by
  intro x0 x2 x3 x4 x5 x6 x7 x8 x9 x10 x11 x12 x13 x14 x15 x16 x17 x18 x19 x20 x21 x22 x23 x24 x25 x26 x27 x28
  obtain ⟨N, s', h1, h2⟩ := hn (x0) (x2) (x3) (x4) (x5) (x6) (x7) (x8) (x9) (x10) (x11) (x12) (x13) (x14) (AV.agg [AV.int IntKind.i64 false t_x, AV.int IntKind.i64 false t_y, AV.int IntKind.i64 false t_z]) (AV.bool false (decide ((-1048575 ≤ t_x ∧ t_x ≤ 1048575) ∧ (-1048575 ≤ t_y ∧ t_y ≤ 1048575) ∧ -1048575 ≤ t_z ∧ t_z ≤ 1048575))) (AV.bool false !decide ((-1048575 ≤ t_x ∧ t_x ≤ 1048575) ∧ (-1048575 ≤ t_y ∧ t_y ≤ 1048575) ∧ -1048575 ≤ t_z ∧ t_z ≤ 1048575)) (AV.ptr (some (0, 0))) (AV.int IntKind.i64 false t_x) (AV.int IntKind.i64 false (towS t_x 2)) (AV.ptr (some (0, 1))) (AV.int IntKind.i64 false t_y) (AV.int IntKind.i64 false (towS t_y 2)) (AV.ptr (some (0, 2))) (AV.int IntKind.i64 false t_z) (AV.int IntKind.i64 false (towS t_z 2)) (AV.agg [AV.int IntKind.i64 false (towS t_x 2), AV.int IntKind.i64 false (towS t_y 2), AV.int IntKind.i64 false (towS t_z 2)]) (x28)
  refine ⟨N + 1, s', fun L => ?_, hh ▸ h2.of ((show _ = kl_skylightref06_Even_2 t_x t_y t_z q_x q_y q_z x0 x2 x3 x4 x5 x6 x7 x8 x9 x10 x11 x12 x13 x14 x15 x16 x17 x18 x19 x20 x21 x22 x23 x24 x25 x26 x27 x28 from rfl).trans (show kl_skylightref06_Even_2 t_x t_y t_z q_x q_y q_z x0 x2 x3 x4 x5 x6 x7 x8 x9 x10 x11 x12 x13 x14 x15 x16 x17 x18 x19 x20 x21 x22 x23 x24 x25 x26 x27 x28 = _ from rfl))⟩
  rw [loopIter, hr L t_x t_y t_z q_x q_y q_z x0 x2 x3 x4 x5 x6 x7 x8 x9 x10 x11 x12 x13 x14 x15 x16 x17 x18 x19 x20 x21 x22 x23 x24 x25 x26 x27 x28, Tr.run_bind, show (rd_skylightref06_Even_2 t_x t_y t_z q_x q_y q_z x0 x2 x3 x4 x5 x6 x7 x8 x9 x10 x11 x12 x13 x14 x15 x16 x17 x18 x19 x20 x21 x22 x23 x24 x25 x26 x27 x28).run = some (.normal, sl_skylightref06_Even_2_0 t_x t_y t_z q_x q_y q_z x0 x2 x3 x4 x5 x6 x7 x8 x9 x10 x11 x12 x13 x14 x15 x16 x17 x18 x19 x20 x21 x22 x23 x24 x25 x26 x27 x28) from (run_t c0).trans ((run_t c1).trans (rfl))]
  exact h1 L
theorem stop_skylightref06_Even_2_1 {rnd : Nat → St → Tr (Ex × St)} (hr : HR_skylightref06_Even_2 rnd) (t_x : Int) (t_y : Int) (t_z : Int) (q_x : Int) (q_y : Int) (q_z : Int) (c0 : true = true) (c1 : (!decide ((-1048575 ≤ t_x ∧ t_x ≤ 1048575) ∧ (-1048575 ≤ t_y ∧ t_y ≤ 1048575) ∧ -1048575 ≤ t_z ∧ t_z ≤ 1048575)) = false) {outs : List (Nat × AV)} {hp : AH → AH} (ho : ∀ (x0 x2 x3 x4 x5 x6 x7 x8 x9 x10 x11 x12 x13 x14 x15 x16 x17 x18 x19 x20 x21 x22 x23 x24 x25 x26 x27 x28 : AV), outs.map (fun p => untag ((sl_skylightref06_Even_2_1 t_x t_y t_z q_x q_y q_z x0 x2 x3 x4 x5 x6 x7 x8 x9 x10 x11 x12 x13 x14 x15 x16 x17 x18 x19 x20 x21 x22 x23 x24 x25 x26 x27 x28).tmps.getD p.1 .undef)) = outs.map (fun p => untag p.2)) (hh : ∀ h : AH, ([[AV.int IntKind.i64 false t_x, AV.int IntKind.i64 false t_y, AV.int IntKind.i64 false t_z], [AV.int IntKind.i64 false q_x, AV.int IntKind.i64 false q_y, AV.int IntKind.i64 false q_z]]).map untagL = (hp ([[.int .i64 false t_x, .int .i64 false t_y, .int .i64 false t_z], [.int .i64 false q_x, .int .i64 false q_y, .int .i64 false q_z]])).map untagL) : Fin_skylightref06_Even_2 rnd t_x t_y t_z q_x q_y q_z (.exit 2) outs hp := by
  intro x0 x2 x3 x4 x5 x6 x7 x8 x9 x10 x11 x12 x13 x14 x15 x16 x17 x18 x19 x20 x21 x22 x23 x24 x25 x26 x27 x28
  refine ⟨0, sl_skylightref06_Even_2_1 t_x t_y t_z q_x q_y q_z x0 x2 x3 x4 x5 x6 x7 x8 x9 x10 x11 x12 x13 x14 x15 x16 x17 x18 x19 x20 x21 x22 x23 x24 x25 x26 x27 x28, fun L => ?_, ⟨hh [], rfl, ho x0 x2 x3 x4 x5 x6 x7 x8 x9 x10 x11 x12 x13 x14 x15 x16 x17 x18 x19 x20 x21 x22 x23 x24 x25 x26 x27 x28, ((show _ = kl_skylightref06_Even_2 t_x t_y t_z q_x q_y q_z x0 x2 x3 x4 x5 x6 x7 x8 x9 x10 x11 x12 x13 x14 x15 x16 x17 x18 x19 x20 x21 x22 x23 x24 x25 x26 x27 x28 from rfl).trans (show kl_skylightref06_Even_2 t_x t_y t_z q_x q_y q_z x0 x2 x3 x4 x5 x6 x7 x8 x9 x10 x11 x12 x13 x14 x15 x16 x17 x18 x19 x20 x21 x22 x23 x24 x25 x26 x27 x28 = _ from rfl))⟩⟩
  rw [loopIter, hr L t_x t_y t_z q_x q_y q_z x0 x2 x3 x4 x5 x6 x7 x8 x9 x10 x11 x12 x13 x14 x15 x16 x17 x18 x19 x20 x21 x22 x23 x24 x25 x26 x27 x28, Tr.run_bind, show (rd_skylightref06_Even_2 t_x t_y t_z q_x q_y q_z x0 x2 x3 x4 x5 x6 x7 x8 x9 x10 x11 x12 x13 x14 x15 x16 x17 x18 x19 x20 x21 x22 x23 x24 x25 x26 x27 x28).run = some (.exit 2, sl_skylightref06_Even_2_1 t_x t_y t_z q_x q_y q_z x0 x2 x3 x4 x5 x6 x7 x8 x9 x10 x11 x12 x13 x14 x15 x16 x17 x18 x19 x20 x21 x22 x23 x24 x25 x26 x27 x28) from (run_t c0).trans ((run_f c1).trans (rfl))]
  rfl
theorem core_skylightref06_Even_2 (rnd : Nat → St → Tr (Ex × St)) (hr : HR_skylightref06_Even_2 rnd) : ∀ (t_x : Int) (t_y : Int) (t_z : Int) (q_x : Int) (q_y : Int) (q_z : Int), mostI t_x t_y t_z ≤ 4611686018427387904 → Fin_skylightref06_Even_2 rnd t_x t_y t_z q_x q_y q_z (.exit 2) [] (fun _ => [[i6 (downS 45 t_x (mostI t_x t_y t_z)), i6 (downS 45 t_y (mostI t_x t_y t_z)), i6 (downS 45 t_z (mostI t_x t_y t_z))], [.int .i64 false q_x, .int .i64 false q_y, .int .i64 false q_z]]) := by
  have key : ∀ (k : Nat) (t_x t_y t_z q_x q_y q_z : Int), mostI t_x t_y t_z ≤ 4611686018427387904 ∧ mostI t_x t_y t_z < 1048576 * 2 ^ k →
      Fin_skylightref06_Even_2 rnd t_x t_y t_z q_x q_y q_z (.exit 2) [] (fun _ => [[i6 (downS k t_x (mostI t_x t_y t_z)), i6 (downS k t_y (mostI t_x t_y t_z)), i6 (downS k t_z (mostI t_x t_y t_z))], [.int .i64 false q_x, .int .i64 false q_y, .int .i64 false q_z]]) := by
    intro k
    induction k with
    | zero =>
      intro t_x t_y t_z q_x q_y q_z ⟨h1, hk⟩
      obtain ⟨hx, hy, hz, hm⟩ := most_spec h1
      exact stop_skylightref06_Even_2_1 hr t_x t_y t_z q_x q_y q_z rfl (by rw [decide_eq_true (by omega)]; rfl) (by intros; rfl) (fun h => rfl)
    | succ k ih =>
      intro t_x t_y t_z q_x q_y q_z ⟨h1, hk⟩
      obtain ⟨hx, hy, hz, hm⟩ := most_spec h1
      by_cases hc : mostI t_x t_y t_z ≥ 1048576
      · refine step_skylightref06_Even_2_0 hr t_x t_y t_z q_x q_y q_z rfl (by rw [decide_eq_false (by omega)]; rfl) rfl ?_
        rw [towS_2 (x := t_x) (by omega), towS_2 (x := t_y) (by omega), towS_2 (x := t_z) (by omega)]
        simp only [downS, if_pos hc]
        have hh := most_half h1
        have hn := ih (t_x.tdiv 2) (t_y.tdiv 2) (t_z.tdiv 2) q_x q_y q_z (by
          rw [hh]
          have : (1048576 : Int) * 2 ^ (k + 1) = 2 * (1048576 * 2 ^ k) := by rw [Int.pow_succ]; grind
          omega)
        rw [hh] at hn
        exact hn
      · refine stop_skylightref06_Even_2_1 hr t_x t_y t_z q_x q_y q_z rfl (by rw [decide_eq_true (by omega)]; rfl) (by intros; rfl) (fun h => ?_)
        simp only [downS, if_neg hc]; rfl
  exact fun t_x t_y t_z q_x q_y q_z hc => key 45 t_x t_y t_z q_x q_y q_z ⟨hc, by omega⟩
theorem piece_skylightref06_Even_2 {P : Program} {T : Table} {O' : Known} {f : FuncId} (hb : blockOf P f 2 = .loop (loopOf P f 2)) (hid : O' 2 = none)
    (hr : HR_skylightref06_Even_2 (fun L => evCode P (evCall P T 16 6) L O' (loopOf P f 2))) :
    ∀ (s : St) (e : Ex) (outs : List (Nat × AV)) (hp : AH), s.tmps.length = 29 → (g_skylightref06_Even_2 (([1] : List Nat).map fun j => untag (s.tmps.getD j .undef)) (s.heap.map untagL)).run = some (e, outs, hp) → ∃ s', Good P T O' f 2 29 [15, 16, 17, 18, 19, 20, 21, 22, 23, 24, 25, 26, 27] s e outs hp s' := by
  intro s e outs hp hk hg
  obtain ⟨tm, h⟩ := s
  have htm : untagL tm = [untag (tm.getD 0 .undef), untag (tm.getD 1 .undef), untag (tm.getD 2 .undef), untag (tm.getD 3 .undef), untag (tm.getD 4 .undef), untag (tm.getD 5 .undef), untag (tm.getD 6 .undef), untag (tm.getD 7 .undef), untag (tm.getD 8 .undef), untag (tm.getD 9 .undef), untag (tm.getD 10 .undef), untag (tm.getD 11 .undef), untag (tm.getD 12 .undef), untag (tm.getD 13 .undef), untag (tm.getD 14 .undef), untag (tm.getD 15 .undef), untag (tm.getD 16 .undef), untag (tm.getD 17 .undef), untag (tm.getD 18 .undef), untag (tm.getD 19 .undef), untag (tm.getD 20 .undef), untag (tm.getD 21 .undef), untag (tm.getD 22 .undef), untag (tm.getD 23 .undef), untag (tm.getD 24 .undef), untag (tm.getD 25 .undef), untag (tm.getD 26 .undef), untag (tm.getD 27 .undef), untag (tm.getD 28 .undef)] := tmps_eq hk
  unfold g_skylightref06_Even_2 at hg
  simp only [List.map_cons, List.map_nil] at hg
  split at hg
  · rename_i t_x t_y t_z q_x q_y q_z heq hheap
    simp only [List.cons.injEq, and_true] at heq
    have e1 := heq
    simp only [Tr.run] at hg
    split at hg
    · rename_i hc
      simp only [Option.some.injEq, Prod.mk.injEq] at hg
      obtain ⟨rfl, rfl, rfl⟩ := hg
      rw [e1] at htm
      obtain ⟨N, s', h1, h2⟩ := core_skylightref06_Even_2 (fun L => evCode P (evCall P T 16 6) L O' (loopOf P f 2)) hr t_x t_y t_z q_x q_y q_z (of_decide_eq_true hc) (untag (tm.getD 0 .undef)) (untag (tm.getD 2 .undef)) (untag (tm.getD 3 .undef)) (untag (tm.getD 4 .undef)) (untag (tm.getD 5 .undef)) (untag (tm.getD 6 .undef)) (untag (tm.getD 7 .undef)) (untag (tm.getD 8 .undef)) (untag (tm.getD 9 .undef)) (untag (tm.getD 10 .undef)) (untag (tm.getD 11 .undef)) (untag (tm.getD 12 .undef)) (untag (tm.getD 13 .undef)) (untag (tm.getD 14 .undef)) (untag (tm.getD 15 .undef)) (untag (tm.getD 16 .undef)) (untag (tm.getD 17 .undef)) (untag (tm.getD 18 .undef)) (untag (tm.getD 19 .undef)) (untag (tm.getD 20 .undef)) (untag (tm.getD 21 .undef)) (untag (tm.getD 22 .undef)) (untag (tm.getD 23 .undef)) (untag (tm.getD 24 .undef)) (untag (tm.getD 25 .undef)) (untag (tm.getD 26 .undef)) (untag (tm.getD 27 .undef)) (untag (tm.getD 28 .undef)) 
      exact ⟨s', good_loop (e1 := .exit 2) hb hid 16 6 N (by rw [htm, hheap]; exact h1) (by rw [htm]; exact h2)⟩
    · cases hg
  · cases hg

/-! skylightref06.Even -/
def tr_skylightref06_Even (v_x : Int) (v_y : Int) (v_z : Int) : Tr AV := Tr.node (decide (1 ≤ mostI v_x v_y v_z ∧ mostI v_x v_y v_z ≤ 4611686018427387904)) (Tr.node (decide (mostI (upS 20 v_x (mostI v_x v_y v_z)) (upS 20 v_y (mostI v_x v_y v_z)) (upS 20 v_z (mostI v_x v_y v_z)) ≤ 4611686018427387904)) (Tr.leaf (AV.agg [AV.int IntKind.i64 false (downS 45 (upS 20 v_x (mostI v_x v_y v_z)) (mostI (upS 20 v_x (mostI v_x v_y v_z)) (upS 20 v_y (mostI v_x v_y v_z)) (upS 20 v_z (mostI v_x v_y v_z)))), AV.int IntKind.i64 false (downS 45 (upS 20 v_y (mostI v_x v_y v_z)) (mostI (upS 20 v_x (mostI v_x v_y v_z)) (upS 20 v_y (mostI v_x v_y v_z)) (upS 20 v_z (mostI v_x v_y v_z)))), AV.int IntKind.i64 false (downS 45 (upS 20 v_z (mostI v_x v_y v_z)) (mostI (upS 20 v_x (mostI v_x v_y v_z)) (upS 20 v_y (mostI v_x v_y v_z)) (upS 20 v_z (mostI v_x v_y v_z))))])) Tr.bad) Tr.bad
theorem run_skylightref06_Even (v_x : Int) (v_y : Int) (v_z : Int) (h_v_x : InR .i64 v_x) (h_v_y : InR .i64 v_y) (h_v_z : InR .i64 v_z) (hpre : 1 ≤ mostI v_x v_y v_z ∧ mostI v_x v_y v_z ≤ 4611686018427387904) : (tr_skylightref06_Even v_x v_y v_z).run = some (v3 (nrm v_x v_y v_z v_x) (nrm v_x v_y v_z v_y) (nrm v_x v_y v_z v_z)) := by
  unfold tr_skylightref06_Even
  have ok : okU v_x v_y v_z = true := by unfold okU; simp; omega
  obtain ⟨n, _, _, _, he⟩ := even_spec ok
  exact (run_t (decide_eq_true hpre)).trans (run_t (decide_eq_true he))

/-! skylightref06.Unit -/
def tr_skylightref06_Unit (v_x : Int) (v_y : Int) (v_z : Int) : Tr AV := Tr.node true (Tr.node (!decide ((-4611686018427387904 ≤ v_x ∧ v_x ≤ 4611686018427387904) ∧ (-4611686018427387904 ≤ v_y ∧ v_y ≤ 4611686018427387904) ∧ -4611686018427387904 ≤ v_z ∧ v_z ≤ 4611686018427387904)) (Tr.leaf (AV.tuple [AV.agg [AV.int IntKind.i64 false 0, AV.int IntKind.i64 false 0, AV.int IntKind.i64 false 0], AV.bool false false])) (Tr.node true (Tr.node (decide ((0 ≤ v_x ∧ v_x ≤ 0) ∧ (0 ≤ v_y ∧ v_y ≤ 0) ∧ 0 ≤ v_z ∧ v_z ≤ 0)) (Tr.leaf (AV.tuple [AV.agg [AV.int IntKind.i64 false 0, AV.int IntKind.i64 false 0, AV.int IntKind.i64 false 0], AV.bool false false])) (Tr.node (decide (1 ≤ mostI v_x v_y v_z ∧ mostI v_x v_y v_z ≤ 4611686018427387904)) (Tr.leaf (AV.tuple [AV.agg [AV.int IntKind.i64 false (towS (IntKind.i64.wrap (nrm v_x v_y v_z v_x * 16384)) (isq (dotN (nrm v_x v_y v_z v_x) (nrm v_x v_y v_z v_y) (nrm v_x v_y v_z v_z) (nrm v_x v_y v_z v_x) (nrm v_x v_y v_z v_y) (nrm v_x v_y v_z v_z)))), AV.int IntKind.i64 false (towS (IntKind.i64.wrap (nrm v_x v_y v_z v_y * 16384)) (isq (dotN (nrm v_x v_y v_z v_x) (nrm v_x v_y v_z v_y) (nrm v_x v_y v_z v_z) (nrm v_x v_y v_z v_x) (nrm v_x v_y v_z v_y) (nrm v_x v_y v_z v_z)))), AV.int IntKind.i64 false (towS (IntKind.i64.wrap (nrm v_x v_y v_z v_z * 16384)) (isq (dotN (nrm v_x v_y v_z v_x) (nrm v_x v_y v_z v_y) (nrm v_x v_y v_z v_z) (nrm v_x v_y v_z v_x) (nrm v_x v_y v_z v_y) (nrm v_x v_y v_z v_z))))], AV.bool false true])) Tr.bad)) Tr.bad)) Tr.bad
theorem run_skylightref06_Unit (v_x : Int) (v_y : Int) (v_z : Int) (h_v_x : InR .i64 v_x) (h_v_y : InR .i64 v_y) (h_v_z : InR .i64 v_z) : (tr_skylightref06_Unit v_x v_y v_z).run = some (.tuple [v3 (unitC v_x v_y v_z v_x) (unitC v_x v_y v_z v_y) (unitC v_x v_y v_z v_z), bb (okU v_x v_y v_z)]) := by
  unfold tr_skylightref06_Unit
  have hx := inR_i64.1 h_v_x
  have hy := inR_i64.1 h_v_y
  have hz := inR_i64.1 h_v_z
  have h0 := most_nonneg v_x v_y v_z
  have hm : (mostI v_x v_y v_z ≤ 4611686018427387904 ↔ ((-4611686018427387904 ≤ v_x ∧ v_x ≤ 4611686018427387904) ∧ (-4611686018427387904 ≤ v_y ∧ v_y ≤ 4611686018427387904) ∧ -4611686018427387904 ≤ v_z ∧ v_z ≤ 4611686018427387904)) ∧ (mostI v_x v_y v_z = 0 ↔ ((0 ≤ v_x ∧ v_x ≤ 0) ∧ (0 ≤ v_y ∧ v_y ≤ 0) ∧ 0 ≤ v_z ∧ v_z ≤ 0)) := by
    unfold mostI; simp only [max_r, sat]; omega
  obtain ⟨m1, m2⟩ := hm
  refine (run_t rfl).trans ?_
  by_cases c1 : mostI v_x v_y v_z ≤ 4611686018427387904
  rotate_left
  · have ok : okU v_x v_y v_z = false := by unfold okU; simp; omega
    rw [ok, unitC_no ok, unitC_no ok, unitC_no ok]
    exact run_t (by rw [decide_eq_false (fun h => c1 (m1.2 h))]; rfl)
  refine (run_f (by rw [decide_eq_true (m1.1 c1)]; rfl)).trans ((run_t rfl).trans ?_)
  by_cases c0 : mostI v_x v_y v_z = 0
  · have ok : okU v_x v_y v_z = false := by unfold okU; simp [c0]
    rw [ok, unitC_no ok, unitC_no ok, unitC_no ok]
    exact run_t (decide_eq_true (m2.1 c0))
  refine (run_f (decide_eq_false (fun h => c0 (m2.2 h)))).trans ((run_t (decide_eq_true ⟨by omega, c1⟩)).trans ?_)
  have ok : okU v_x v_y v_z = true := by unfold okU; simp [c0]; omega
  obtain ⟨near, l1, l2, l3, l4⟩ := len_spec ok
  obtain ⟨u1, u2, ux, uy, uz⟩ := unitC_r ok
  have el : isq (dotN (nrm v_x v_y v_z v_x) (nrm v_x v_y v_z v_y) (nrm v_x v_y v_z v_z) (nrm v_x v_y v_z v_x) (nrm v_x v_y v_z v_y) (nrm v_x v_y v_z v_z)) = lenU v_x v_y v_z := by
    unfold lenU dotN; rw [if_pos ⟨near, near⟩]
  have rn := near_r near
  rw [ok, el, wrap_i64_id (n := nrm v_x v_y v_z v_x * 16384) (by omega), wrap_i64_id (n := nrm v_x v_y v_z v_y * 16384) (by omega), wrap_i64_id (n := nrm v_x v_y v_z v_z * 16384) (by omega)]
  have e : ∀ c, unitC v_x v_y v_z c = (nrm v_x v_y v_z c * 16384).tdiv (lenU v_x v_y v_z) := fun c => by unfold unitC; rw [if_pos ok]
  rw [towS_tdiv (by omega) (by omega), towS_tdiv (by omega) (by omega), towS_tdiv (by omega) (by omega), ← e, ← e, ← e]
  rfl

end Go.Sky
