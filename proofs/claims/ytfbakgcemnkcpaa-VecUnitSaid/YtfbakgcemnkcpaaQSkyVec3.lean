/- Trees of functions, and what they come to. -/
import Derived.Test.YtfbakgcemnkcpaaQSkyO
import Derived.Test.YtfbakgcemnkcpaaQSkyUnitL
set_option linter.unusedSimpArgs false
set_option linter.unusedVariables false
namespace Go.Sky
set_option maxRecDepth 100000

/-! (vec.triple).most -/
def tr_vec_triple_most (v_x : Int) (v_y : Int) (v_z : Int) : Tr AV := Tr.leaf
  (AV.int IntKind.i64 false
    (mm true (mm true (mm true (mm true (mm true (mm true 0 v_x) (sat (v_x * -1))) v_y) (sat (v_y * -1))) v_z)
      (sat (v_z * -1))))
theorem run_vec_triple_most (v_x : Int) (v_y : Int) (v_z : Int) (h_v_x : InR .i64 v_x) (h_v_y : InR .i64 v_y) (h_v_z : InR .i64 v_z) : (tr_vec_triple_most v_x v_y v_z).run = some (i6 (mostI v_x v_y v_z)) := by
  unfold tr_vec_triple_most
  rfl

/-! vec.Len -/
def tr_vec_Len (v_x : Int) (v_y : Int) (v_z : Int) : Tr AV := Tr.leaf (AV.int IntKind.i64 false (isq (IntKind.u64.wrap (dotN v_x v_y v_z v_x v_y v_z))))
theorem run_vec_Len (v_x : Int) (v_y : Int) (v_z : Int) (h_v_x : InR .i64 v_x) (h_v_y : InR .i64 v_y) (h_v_z : InR .i64 v_z) : (tr_vec_Len v_x v_y v_z).run = some (i6 (isq (dotN v_x v_y v_z v_x v_y v_z))) := by
  unfold tr_vec_Len
  simp only [Tr.run, i6]
  have h := dotN_self v_x v_y v_z
  rw [wrap_u64_id (by omega)]

/-! vec.Unit, block 0 -/
def rd_vec_Unit_0 (m : Int) (p_x : Int) (p_y : Int) (p_z : Int) (q_x : Int) (q_y : Int) (q_z : Int) (t_x : Int) (t_y : Int) (t_z : Int) (x0 x1 x2 x3 x6 x7 x8 x9 x10 x11 x12 x13 x14 x15 x16 x17 x18 x19 x20 x21 x22 x23 x24 x25 x26 x27 x28 x29 x30 x31 x32 x33 x34 x35 : AV) : Tr (Ex × St) := Tr.node (decide (m < 524288))
  (Tr.leaf
    (Ex.normal,
      {
        tmps :=
          [x0, x1, x2, x3, AV.ptr (some (2, 0)), AV.int IntKind.i64 false (IntKind.i64.wrap (m * 2)), x6, x7, x8, x9,
            x10, x11, x12, x13, x14, x15, x16, x17, AV.int IntKind.i64 false m, AV.bool false (decide (m < 524288)),
            AV.int IntKind.i64 false m, AV.int IntKind.i64 false (IntKind.i64.wrap (m * 2)),
            AV.agg [AV.int IntKind.i64 false t_x, AV.int IntKind.i64 false t_y, AV.int IntKind.i64 false t_z],
            AV.agg
              [AV.int IntKind.i64 false (IntKind.i64.wrap (2 * t_x)),
                AV.int IntKind.i64 false (IntKind.i64.wrap (2 * t_y)),
                AV.int IntKind.i64 false (IntKind.i64.wrap (2 * t_z))],
            x24, x25, x26, x27, x28, x29, x30, x31, x32, x33, x34, x35],
        heap :=
          [[AV.int IntKind.i64 false p_x, AV.int IntKind.i64 false p_y, AV.int IntKind.i64 false p_z],
            [AV.int IntKind.i64 false q_x, AV.int IntKind.i64 false q_y, AV.int IntKind.i64 false q_z],
            [AV.int IntKind.i64 false (IntKind.i64.wrap (2 * t_x)),
              AV.int IntKind.i64 false (IntKind.i64.wrap (2 * t_y)),
              AV.int IntKind.i64 false (IntKind.i64.wrap (2 * t_z))]] }))
  (Tr.leaf
    (Ex.exit 0,
      {
        tmps :=
          [x0, x1, x2, x3, AV.ptr (some (2, 0)), AV.int IntKind.i64 false m, x6, x7, x8, x9, x10, x11, x12, x13, x14,
            x15, x16, x17, AV.int IntKind.i64 false m, AV.bool false (decide (m < 524288)), x20, x21, x22, x23, x24,
            x25, x26, x27, x28, x29, x30, x31, x32, x33, x34, x35],
        heap :=
          [[AV.int IntKind.i64 false p_x, AV.int IntKind.i64 false p_y, AV.int IntKind.i64 false p_z],
            [AV.int IntKind.i64 false q_x, AV.int IntKind.i64 false q_y, AV.int IntKind.i64 false q_z],
            [AV.int IntKind.i64 false t_x, AV.int IntKind.i64 false t_y, AV.int IntKind.i64 false t_z]] }))
def g_vec_Unit_0 : PieceTold := fun l h => match l, h with | [.ptr (some (2, 0)), .int .i64 false m], [[.int .i64 false p_x, .int .i64 false p_y, .int .i64 false p_z], [.int .i64 false q_x, .int .i64 false q_y, .int .i64 false q_z], [.int .i64 false t_x, .int .i64 false t_y, .int .i64 false t_z]] => .node (decide (1 ≤ m ∧ m ≤ 4611686018427387904 ∧ (-m ≤ t_x ∧ t_x ≤ m) ∧ (-m ≤ t_y ∧ t_y ≤ m) ∧ (-m ≤ t_z ∧ t_z ≤ m))) (.leaf (.normal, [], [[.int .i64 false p_x, .int .i64 false p_y, .int .i64 false p_z], [.int .i64 false q_x, .int .i64 false q_y, .int .i64 false q_z], [i6 (upS 20 t_x m), i6 (upS 20 t_y m), i6 (upS 20 t_z m)]])) .bad | _, _ => .bad
/-- From here the loop ends so. -/
def Fin_vec_Unit_0 (rnd : Nat → St → Tr (Ex × St)) (m : Int) (p_x : Int) (p_y : Int) (p_z : Int) (q_x : Int) (q_y : Int) (q_z : Int) (t_x : Int) (t_y : Int) (t_z : Int) (e : Ex) (outs : List (Nat × AV)) (hp : AH → AH) : Prop := ∀ (x0 x1 x2 x3 x6 x7 x8 x9 x10 x11 x12 x13 x14 x15 x16 x17 x18 x19 x20 x21 x22 x23 x24 x25 x26 x27 x28 x29 x30 x31 x32 x33 x34 x35 : AV),
    ∃ N s', (∀ L, (loopIter (rnd L) (N + 1) ⟨[x0, x1, x2, x3, .ptr (some (2, 0)), .int .i64 false m, x6, x7, x8, x9, x10, x11, x12, x13, x14, x15, x16, x17, x18, x19, x20, x21, x22, x23, x24, x25, x26, x27, x28, x29, x30, x31, x32, x33, x34, x35], [[.int .i64 false p_x, .int .i64 false p_y, .int .i64 false p_z], [.int .i64 false q_x, .int .i64 false q_y, .int .i64 false q_z], [.int .i64 false t_x, .int .i64 false t_y, .int .i64 false t_z]]⟩).run = some (e, s')) ∧ Leaves 36 [5, 18, 19, 20, 21, 22, 23] [x0, x1, x2, x3, .ptr (some (2, 0)), .int .i64 false m, x6, x7, x8, x9, x10, x11, x12, x13, x14, x15, x16, x17, x18, x19, x20, x21, x22, x23, x24, x25, x26, x27, x28, x29, x30, x31, x32, x33, x34, x35] outs (hp ([[.int .i64 false p_x, .int .i64 false p_y, .int .i64 false p_z], [.int .i64 false q_x, .int .i64 false q_y, .int .i64 false q_z], [.int .i64 false t_x, .int .i64 false t_y, .int .i64 false t_z]])) s'
theorem step_vec_Unit_0_0 {rnd : Nat → St → Tr (Ex × St)} (hr : ∀ L (m : Int) (p_x : Int) (p_y : Int) (p_z : Int) (q_x : Int) (q_y : Int) (q_z : Int) (t_x : Int) (t_y : Int) (t_z : Int) (x0 x1 x2 x3 x6 x7 x8 x9 x10 x11 x12 x13 x14 x15 x16 x17 x18 x19 x20 x21 x22 x23 x24 x25 x26 x27 x28 x29 x30 x31 x32 x33 x34 x35 : AV), rnd L ⟨[x0, x1, x2, x3, .ptr (some (2, 0)), .int .i64 false m, x6, x7, x8, x9, x10, x11, x12, x13, x14, x15, x16, x17, x18, x19, x20, x21, x22, x23, x24, x25, x26, x27, x28, x29, x30, x31, x32, x33, x34, x35], [[.int .i64 false p_x, .int .i64 false p_y, .int .i64 false p_z], [.int .i64 false q_x, .int .i64 false q_y, .int .i64 false q_z], [.int .i64 false t_x, .int .i64 false t_y, .int .i64 false t_z]]⟩ = rd_vec_Unit_0 m p_x p_y p_z q_x q_y q_z t_x t_y t_z x0 x1 x2 x3 x6 x7 x8 x9 x10 x11 x12 x13 x14 x15 x16 x17 x18 x19 x20 x21 x22 x23 x24 x25 x26 x27 x28 x29 x30 x31 x32 x33 x34 x35) (m : Int) (p_x : Int) (p_y : Int) (p_z : Int) (q_x : Int) (q_y : Int) (q_z : Int) (t_x : Int) (t_y : Int) (t_z : Int) (c0 : (decide (m < 524288)) = true) {e : Ex} {outs : List (Nat × AV)} {hp : AH → AH} (hh : hp ([[AV.int IntKind.i64 false p_x, AV.int IntKind.i64 false p_y, AV.int IntKind.i64 false p_z],
            [AV.int IntKind.i64 false q_x, AV.int IntKind.i64 false q_y, AV.int IntKind.i64 false q_z],
            [AV.int IntKind.i64 false (IntKind.i64.wrap (2 * t_x)),
              AV.int IntKind.i64 false (IntKind.i64.wrap (2 * t_y)),
              AV.int IntKind.i64 false (IntKind.i64.wrap (2 * t_z))]]) = hp ([[.int .i64 false p_x, .int .i64 false p_y, .int .i64 false p_z], [.int .i64 false q_x, .int .i64 false q_y, .int .i64 false q_z], [.int .i64 false t_x, .int .i64 false t_y, .int .i64 false t_z]])) (hn : Fin_vec_Unit_0 rnd ((IntKind.i64.wrap (m * 2))) (p_x) (p_y) (p_z) (q_x) (q_y) (q_z) ((IntKind.i64.wrap (2 * t_x))) ((IntKind.i64.wrap (2 * t_y))) ((IntKind.i64.wrap (2 * t_z))) e outs hp) : Fin_vec_Unit_0 rnd m p_x p_y p_z q_x q_y q_z t_x t_y t_z e outs hp := by
  intro x0 x1 x2 x3 x6 x7 x8 x9 x10 x11 x12 x13 x14 x15 x16 x17 x18 x19 x20 x21 x22 x23 x24 x25 x26 x27 x28 x29 x30 x31 x32 x33 x34 x35
  obtain ⟨N, s', h1, h2⟩ := hn (x0) (x1) (x2) (x3) (x6) (x7) (x8) (x9) (x10) (x11) (x12) (x13) (x14) (x15) (x16) (x17) (AV.int IntKind.i64 false m) (AV.bool false (decide (m < 524288))) (AV.int IntKind.i64 false m) (AV.int IntKind.i64 false (IntKind.i64.wrap (m * 2))) (AV.agg [AV.int IntKind.i64 false t_x, AV.int IntKind.i64 false t_y, AV.int IntKind.i64 false t_z]) (AV.agg
              [AV.int IntKind.i64 false (IntKind.i64.wrap (2 * t_x)),
                AV.int IntKind.i64 false (IntKind.i64.wrap (2 * t_y)),
                AV.int IntKind.i64 false (IntKind.i64.wrap (2 * t_z))]) (x24) (x25) (x26) (x27) (x28) (x29) (x30) (x31) (x32) (x33) (x34) (x35)
  refine ⟨N + 1, s', fun L => ?_, hh ▸ h2.of ((show _ = ([untag x0, untag x1, untag x2, untag x3, untag (.ptr (some (2, 0))), .undef, untag x6, untag x7, untag x8, untag x9, untag x10, untag x11, untag x12, untag x13, untag x14, untag x15, untag x16, untag x17, .undef, .undef, .undef, .undef, .undef, .undef, untag x24, untag x25, untag x26, untag x27, untag x28, untag x29, untag x30, untag x31, untag x32, untag x33, untag x34, untag x35] : List AV) from rfl).trans (show ([untag x0, untag x1, untag x2, untag x3, untag (.ptr (some (2, 0))), .undef, untag x6, untag x7, untag x8, untag x9, untag x10, untag x11, untag x12, untag x13, untag x14, untag x15, untag x16, untag x17, .undef, .undef, .undef, .undef, .undef, .undef, untag x24, untag x25, untag x26, untag x27, untag x28, untag x29, untag x30, untag x31, untag x32, untag x33, untag x34, untag x35] : List AV) = _ from rfl))⟩
  rw [loopIter, hr, Tr.run_bind, show (rd_vec_Unit_0 m p_x p_y p_z q_x q_y q_z t_x t_y t_z x0 x1 x2 x3 x6 x7 x8 x9 x10 x11 x12 x13 x14 x15 x16 x17 x18 x19 x20 x21 x22 x23 x24 x25 x26 x27 x28 x29 x30 x31 x32 x33 x34 x35).run = some (.normal, ⟨[x0, x1, x2, x3, AV.ptr (some (2, 0)), AV.int IntKind.i64 false (IntKind.i64.wrap (m * 2)), x6, x7, x8, x9, x10, x11, x12, x13, x14, x15, x16, x17, AV.int IntKind.i64 false m, AV.bool false (decide (m < 524288)), AV.int IntKind.i64 false m, AV.int IntKind.i64 false (IntKind.i64.wrap (m * 2)), AV.agg [AV.int IntKind.i64 false t_x, AV.int IntKind.i64 false t_y, AV.int IntKind.i64 false t_z], AV.agg
              [AV.int IntKind.i64 false (IntKind.i64.wrap (2 * t_x)),
                AV.int IntKind.i64 false (IntKind.i64.wrap (2 * t_y)),
                AV.int IntKind.i64 false (IntKind.i64.wrap (2 * t_z))], x24, x25, x26, x27, x28, x29, x30, x31, x32, x33, x34, x35], [[AV.int IntKind.i64 false p_x, AV.int IntKind.i64 false p_y, AV.int IntKind.i64 false p_z],
            [AV.int IntKind.i64 false q_x, AV.int IntKind.i64 false q_y, AV.int IntKind.i64 false q_z],
            [AV.int IntKind.i64 false (IntKind.i64.wrap (2 * t_x)),
              AV.int IntKind.i64 false (IntKind.i64.wrap (2 * t_y)),
              AV.int IntKind.i64 false (IntKind.i64.wrap (2 * t_z))]]⟩) from (run_t c0).trans (rfl)]
  exact h1 L
theorem stop_vec_Unit_0_1 {rnd : Nat → St → Tr (Ex × St)} (hr : ∀ L (m : Int) (p_x : Int) (p_y : Int) (p_z : Int) (q_x : Int) (q_y : Int) (q_z : Int) (t_x : Int) (t_y : Int) (t_z : Int) (x0 x1 x2 x3 x6 x7 x8 x9 x10 x11 x12 x13 x14 x15 x16 x17 x18 x19 x20 x21 x22 x23 x24 x25 x26 x27 x28 x29 x30 x31 x32 x33 x34 x35 : AV), rnd L ⟨[x0, x1, x2, x3, .ptr (some (2, 0)), .int .i64 false m, x6, x7, x8, x9, x10, x11, x12, x13, x14, x15, x16, x17, x18, x19, x20, x21, x22, x23, x24, x25, x26, x27, x28, x29, x30, x31, x32, x33, x34, x35], [[.int .i64 false p_x, .int .i64 false p_y, .int .i64 false p_z], [.int .i64 false q_x, .int .i64 false q_y, .int .i64 false q_z], [.int .i64 false t_x, .int .i64 false t_y, .int .i64 false t_z]]⟩ = rd_vec_Unit_0 m p_x p_y p_z q_x q_y q_z t_x t_y t_z x0 x1 x2 x3 x6 x7 x8 x9 x10 x11 x12 x13 x14 x15 x16 x17 x18 x19 x20 x21 x22 x23 x24 x25 x26 x27 x28 x29 x30 x31 x32 x33 x34 x35) (m : Int) (p_x : Int) (p_y : Int) (p_z : Int) (q_x : Int) (q_y : Int) (q_z : Int) (t_x : Int) (t_y : Int) (t_z : Int) (c0 : (decide (m < 524288)) = false) {outs : List (Nat × AV)} {hp : AH → AH} (ho : ∀ (x0 x1 x2 x3 x6 x7 x8 x9 x10 x11 x12 x13 x14 x15 x16 x17 x18 x19 x20 x21 x22 x23 x24 x25 x26 x27 x28 x29 x30 x31 x32 x33 x34 x35 : AV), outs.map (fun p => untag (([x0, x1, x2, x3, AV.ptr (some (2, 0)), AV.int IntKind.i64 false m, x6, x7, x8, x9, x10, x11, x12, x13, x14, x15, x16, x17, AV.int IntKind.i64 false m, AV.bool false (decide (m < 524288)), x20, x21, x22, x23, x24, x25, x26, x27, x28, x29, x30, x31, x32, x33, x34, x35] : List AV).getD p.1 .undef)) = outs.map (fun p => untag p.2)) (hh : ∀ h : AH, ([[AV.int IntKind.i64 false p_x, AV.int IntKind.i64 false p_y, AV.int IntKind.i64 false p_z],
            [AV.int IntKind.i64 false q_x, AV.int IntKind.i64 false q_y, AV.int IntKind.i64 false q_z],
            [AV.int IntKind.i64 false t_x, AV.int IntKind.i64 false t_y, AV.int IntKind.i64 false t_z]]).map untagL = (hp ([[.int .i64 false p_x, .int .i64 false p_y, .int .i64 false p_z], [.int .i64 false q_x, .int .i64 false q_y, .int .i64 false q_z], [.int .i64 false t_x, .int .i64 false t_y, .int .i64 false t_z]])).map untagL) : Fin_vec_Unit_0 rnd m p_x p_y p_z q_x q_y q_z t_x t_y t_z (.exit 0) outs hp := by
  intro x0 x1 x2 x3 x6 x7 x8 x9 x10 x11 x12 x13 x14 x15 x16 x17 x18 x19 x20 x21 x22 x23 x24 x25 x26 x27 x28 x29 x30 x31 x32 x33 x34 x35
  refine ⟨0, ⟨[x0, x1, x2, x3, AV.ptr (some (2, 0)), AV.int IntKind.i64 false m, x6, x7, x8, x9, x10, x11, x12, x13, x14, x15, x16, x17, AV.int IntKind.i64 false m, AV.bool false (decide (m < 524288)), x20, x21, x22, x23, x24, x25, x26, x27, x28, x29, x30, x31, x32, x33, x34, x35], [[AV.int IntKind.i64 false p_x, AV.int IntKind.i64 false p_y, AV.int IntKind.i64 false p_z],
            [AV.int IntKind.i64 false q_x, AV.int IntKind.i64 false q_y, AV.int IntKind.i64 false q_z],
            [AV.int IntKind.i64 false t_x, AV.int IntKind.i64 false t_y, AV.int IntKind.i64 false t_z]]⟩, fun L => ?_, ⟨hh [], rfl, ho x0 x1 x2 x3 x6 x7 x8 x9 x10 x11 x12 x13 x14 x15 x16 x17 x18 x19 x20 x21 x22 x23 x24 x25 x26 x27 x28 x29 x30 x31 x32 x33 x34 x35, ((show _ = ([untag x0, untag x1, untag x2, untag x3, untag (.ptr (some (2, 0))), .undef, untag x6, untag x7, untag x8, untag x9, untag x10, untag x11, untag x12, untag x13, untag x14, untag x15, untag x16, untag x17, .undef, .undef, .undef, .undef, .undef, .undef, untag x24, untag x25, untag x26, untag x27, untag x28, untag x29, untag x30, untag x31, untag x32, untag x33, untag x34, untag x35] : List AV) from rfl).trans (show ([untag x0, untag x1, untag x2, untag x3, untag (.ptr (some (2, 0))), .undef, untag x6, untag x7, untag x8, untag x9, untag x10, untag x11, untag x12, untag x13, untag x14, untag x15, untag x16, untag x17, .undef, .undef, .undef, .undef, .undef, .undef, untag x24, untag x25, untag x26, untag x27, untag x28, untag x29, untag x30, untag x31, untag x32, untag x33, untag x34, untag x35] : List AV) = _ from rfl))⟩⟩
  rw [loopIter, hr, Tr.run_bind, show (rd_vec_Unit_0 m p_x p_y p_z q_x q_y q_z t_x t_y t_z x0 x1 x2 x3 x6 x7 x8 x9 x10 x11 x12 x13 x14 x15 x16 x17 x18 x19 x20 x21 x22 x23 x24 x25 x26 x27 x28 x29 x30 x31 x32 x33 x34 x35).run = some (.exit 0, ⟨[x0, x1, x2, x3, AV.ptr (some (2, 0)), AV.int IntKind.i64 false m, x6, x7, x8, x9, x10, x11, x12, x13, x14, x15, x16, x17, AV.int IntKind.i64 false m, AV.bool false (decide (m < 524288)), x20, x21, x22, x23, x24, x25, x26, x27, x28, x29, x30, x31, x32, x33, x34, x35], [[AV.int IntKind.i64 false p_x, AV.int IntKind.i64 false p_y, AV.int IntKind.i64 false p_z],
            [AV.int IntKind.i64 false q_x, AV.int IntKind.i64 false q_y, AV.int IntKind.i64 false q_z],
            [AV.int IntKind.i64 false t_x, AV.int IntKind.i64 false t_y, AV.int IntKind.i64 false t_z]]⟩) from (run_f c0).trans (rfl)]
  rfl
theorem core_vec_Unit_0 (rnd : Nat → St → Tr (Ex × St)) (hr : ∀ L (m : Int) (p_x : Int) (p_y : Int) (p_z : Int) (q_x : Int) (q_y : Int) (q_z : Int) (t_x : Int) (t_y : Int) (t_z : Int) (x0 x1 x2 x3 x6 x7 x8 x9 x10 x11 x12 x13 x14 x15 x16 x17 x18 x19 x20 x21 x22 x23 x24 x25 x26 x27 x28 x29 x30 x31 x32 x33 x34 x35 : AV), rnd L ⟨[x0, x1, x2, x3, .ptr (some (2, 0)), .int .i64 false m, x6, x7, x8, x9, x10, x11, x12, x13, x14, x15, x16, x17, x18, x19, x20, x21, x22, x23, x24, x25, x26, x27, x28, x29, x30, x31, x32, x33, x34, x35], [[.int .i64 false p_x, .int .i64 false p_y, .int .i64 false p_z], [.int .i64 false q_x, .int .i64 false q_y, .int .i64 false q_z], [.int .i64 false t_x, .int .i64 false t_y, .int .i64 false t_z]]⟩ = rd_vec_Unit_0 m p_x p_y p_z q_x q_y q_z t_x t_y t_z x0 x1 x2 x3 x6 x7 x8 x9 x10 x11 x12 x13 x14 x15 x16 x17 x18 x19 x20 x21 x22 x23 x24 x25 x26 x27 x28 x29 x30 x31 x32 x33 x34 x35) : ∀ (m : Int) (p_x : Int) (p_y : Int) (p_z : Int) (q_x : Int) (q_y : Int) (q_z : Int) (t_x : Int) (t_y : Int) (t_z : Int), 1 ≤ m ∧ m ≤ 4611686018427387904 ∧ (-m ≤ t_x ∧ t_x ≤ m) ∧ (-m ≤ t_y ∧ t_y ≤ m) ∧ (-m ≤ t_z ∧ t_z ≤ m) → Fin_vec_Unit_0 rnd m p_x p_y p_z q_x q_y q_z t_x t_y t_z (.exit 0) [] (fun _ => [[.int .i64 false p_x, .int .i64 false p_y, .int .i64 false p_z], [.int .i64 false q_x, .int .i64 false q_y, .int .i64 false q_z], [i6 (upS 20 t_x m), i6 (upS 20 t_y m), i6 (upS 20 t_z m)]]) := by
  have key : ∀ (k : Nat) (m p_x p_y p_z q_x q_y q_z t_x t_y t_z : Int), (1 ≤ m ∧ m ≤ 4611686018427387904 ∧ (-m ≤ t_x ∧ t_x ≤ m) ∧ (-m ≤ t_y ∧ t_y ≤ m) ∧ (-m ≤ t_z ∧ t_z ≤ m)) ∧ 524288 ≤ m * 2 ^ k →
      Fin_vec_Unit_0 rnd m p_x p_y p_z q_x q_y q_z t_x t_y t_z (.exit 0) [] (fun _ => [[.int .i64 false p_x, .int .i64 false p_y, .int .i64 false p_z], [.int .i64 false q_x, .int .i64 false q_y, .int .i64 false q_z], [i6 (upS k t_x m), i6 (upS k t_y m), i6 (upS k t_z m)]]) := by
    intro k
    induction k with
    | zero =>
      intro m p_x p_y p_z q_x q_y q_z t_x t_y t_z ⟨⟨h1, h2, hx, hy, hz⟩, hk⟩
      exact stop_vec_Unit_0_1 hr m p_x p_y p_z q_x q_y q_z t_x t_y t_z (decide_eq_false (by omega)) (by intros; rfl) (fun h => rfl)
    | succ k ih =>
      intro m p_x p_y p_z q_x q_y q_z t_x t_y t_z ⟨⟨h1, h2, hx, hy, hz⟩, hk⟩
      by_cases hc : m < 524288
      · refine step_vec_Unit_0_0 hr m p_x p_y p_z q_x q_y q_z t_x t_y t_z (decide_eq_true hc) rfl ?_
        rw [wrap_i64_id (n := m * 2) (by omega), wrap_i64_id (n := 2 * t_x) (by omega), wrap_i64_id (n := 2 * t_y) (by omega), wrap_i64_id (n := 2 * t_z) (by omega), Int.mul_comm m 2]
        simp only [upS, if_pos hc]
        refine ih (2 * m) p_x p_y p_z q_x q_y q_z (2 * t_x) (2 * t_y) (2 * t_z) ⟨⟨by omega, by omega, by omega, by omega, by omega⟩, ?_⟩
        have : m * 2 ^ (k + 1) = 2 * m * 2 ^ k := by rw [Int.pow_succ]; grind
        omega
      · refine stop_vec_Unit_0_1 hr m p_x p_y p_z q_x q_y q_z t_x t_y t_z (decide_eq_false hc) (by intros; rfl) (fun h => ?_)
        simp only [upS, if_neg hc]; rfl
  exact fun m p_x p_y p_z q_x q_y q_z t_x t_y t_z hc => key 20 m p_x p_y p_z q_x q_y q_z t_x t_y t_z ⟨hc, by omega⟩
theorem piece_vec_Unit_0 {P : Program} {T : Table} {O' : Known} {f : FuncId} (hb : blockOf P f 0 = .loop (loopOf P f 0)) (hid : O' 0 = none)
    (hr : ∀ (L : Nat) (m : Int) (p_x : Int) (p_y : Int) (p_z : Int) (q_x : Int) (q_y : Int) (q_z : Int) (t_x : Int) (t_y : Int) (t_z : Int) (x0 x1 x2 x3 x6 x7 x8 x9 x10 x11 x12 x13 x14 x15 x16 x17 x18 x19 x20 x21 x22 x23 x24 x25 x26 x27 x28 x29 x30 x31 x32 x33 x34 x35 : AV), evCode P (evCall P T 16 6) L O' (loopOf P f 0) ⟨[x0, x1, x2, x3, .ptr (some (2, 0)), .int .i64 false m, x6, x7, x8, x9, x10, x11, x12, x13, x14, x15, x16, x17, x18, x19, x20, x21, x22, x23, x24, x25, x26, x27, x28, x29, x30, x31, x32, x33, x34, x35], [[.int .i64 false p_x, .int .i64 false p_y, .int .i64 false p_z], [.int .i64 false q_x, .int .i64 false q_y, .int .i64 false q_z], [.int .i64 false t_x, .int .i64 false t_y, .int .i64 false t_z]]⟩ = rd_vec_Unit_0 m p_x p_y p_z q_x q_y q_z t_x t_y t_z x0 x1 x2 x3 x6 x7 x8 x9 x10 x11 x12 x13 x14 x15 x16 x17 x18 x19 x20 x21 x22 x23 x24 x25 x26 x27 x28 x29 x30 x31 x32 x33 x34 x35) :
    ∀ (s : St) (e : Ex) (outs : List (Nat × AV)) (hp : AH), s.tmps.length = 36 → (g_vec_Unit_0 (([4, 5] : List Nat).map fun j => untag (s.tmps.getD j .undef)) (s.heap.map untagL)).run = some (e, outs, hp) → ∃ s', Good P T O' f 0 36 [5, 18, 19, 20, 21, 22, 23] s e outs hp s' := by
  intro s e outs hp hk hg
  obtain ⟨tm, h⟩ := s
  have htm : untagL tm = [untag (tm.getD 0 .undef), untag (tm.getD 1 .undef), untag (tm.getD 2 .undef), untag (tm.getD 3 .undef), untag (tm.getD 4 .undef), untag (tm.getD 5 .undef), untag (tm.getD 6 .undef), untag (tm.getD 7 .undef), untag (tm.getD 8 .undef), untag (tm.getD 9 .undef), untag (tm.getD 10 .undef), untag (tm.getD 11 .undef), untag (tm.getD 12 .undef), untag (tm.getD 13 .undef), untag (tm.getD 14 .undef), untag (tm.getD 15 .undef), untag (tm.getD 16 .undef), untag (tm.getD 17 .undef), untag (tm.getD 18 .undef), untag (tm.getD 19 .undef), untag (tm.getD 20 .undef), untag (tm.getD 21 .undef), untag (tm.getD 22 .undef), untag (tm.getD 23 .undef), untag (tm.getD 24 .undef), untag (tm.getD 25 .undef), untag (tm.getD 26 .undef), untag (tm.getD 27 .undef), untag (tm.getD 28 .undef), untag (tm.getD 29 .undef), untag (tm.getD 30 .undef), untag (tm.getD 31 .undef), untag (tm.getD 32 .undef), untag (tm.getD 33 .undef), untag (tm.getD 34 .undef), untag (tm.getD 35 .undef)] := tmps_eq hk
  unfold g_vec_Unit_0 at hg
  simp only [List.map_cons, List.map_nil] at hg
  split at hg
  · rename_i m p_x p_y p_z q_x q_y q_z t_x t_y t_z heq hheap
    simp only [List.cons.injEq, and_true] at heq
    obtain ⟨e4, e5⟩ := heq
    simp only [Tr.run] at hg
    split at hg
    · rename_i hc
      simp only [Option.some.injEq, Prod.mk.injEq] at hg
      obtain ⟨rfl, rfl, rfl⟩ := hg
      rw [e4, e5] at htm
      obtain ⟨N, s', h1, h2⟩ := core_vec_Unit_0 (fun L => evCode P (evCall P T 16 6) L O' (loopOf P f 0)) hr m p_x p_y p_z q_x q_y q_z t_x t_y t_z (of_decide_eq_true hc) (untag (tm.getD 0 .undef)) (untag (tm.getD 1 .undef)) (untag (tm.getD 2 .undef)) (untag (tm.getD 3 .undef)) (untag (tm.getD 6 .undef)) (untag (tm.getD 7 .undef)) (untag (tm.getD 8 .undef)) (untag (tm.getD 9 .undef)) (untag (tm.getD 10 .undef)) (untag (tm.getD 11 .undef)) (untag (tm.getD 12 .undef)) (untag (tm.getD 13 .undef)) (untag (tm.getD 14 .undef)) (untag (tm.getD 15 .undef)) (untag (tm.getD 16 .undef)) (untag (tm.getD 17 .undef)) (untag (tm.getD 18 .undef)) (untag (tm.getD 19 .undef)) (untag (tm.getD 20 .undef)) (untag (tm.getD 21 .undef)) (untag (tm.getD 22 .undef)) (untag (tm.getD 23 .undef)) (untag (tm.getD 24 .undef)) (untag (tm.getD 25 .undef)) (untag (tm.getD 26 .undef)) (untag (tm.getD 27 .undef)) (untag (tm.getD 28 .undef)) (untag (tm.getD 29 .undef)) (untag (tm.getD 30 .undef)) (untag (tm.getD 31 .undef)) (untag (tm.getD 32 .undef)) (untag (tm.getD 33 .undef)) (untag (tm.getD 34 .undef)) (untag (tm.getD 35 .undef)) 
      exact ⟨s', good_loop (e1 := .exit 0) hb hid 16 6 N (by rw [htm, hheap]; exact h1) (by rw [htm]; exact h2)⟩
    · cases hg
  · cases hg

/-! vec.Unit, block 2 -/
def rd_vec_Unit_2 (p_x : Int) (p_y : Int) (p_z : Int) (q_x : Int) (q_y : Int) (q_z : Int) (t_x : Int) (t_y : Int) (t_z : Int) (x0 x1 x2 x3 x5 x6 x7 x8 x9 x10 x11 x12 x13 x14 x15 x16 x17 x18 x19 x20 x21 x22 x23 x24 x25 x26 x27 x28 x29 x30 x31 x32 x33 x34 x35 : AV) : Tr (Ex × St) := Tr.node (decide (mostI t_x t_y t_z ≥ 1048576))
  (Tr.leaf
    (Ex.normal,
      {
        tmps :=
          [x0, x1, x2, x3, AV.ptr (some (2, 0)), x5, x6, x7, x8, x9, x10, x11, x12, x13, x14, x15, x16, x17, x18, x19,
            x20, x21, x22, x23,
            AV.agg [AV.int IntKind.i64 false t_x, AV.int IntKind.i64 false t_y, AV.int IntKind.i64 false t_z],
            AV.int IntKind.i64 false (mostI t_x t_y t_z), AV.bool false (decide (mostI t_x t_y t_z ≥ 1048576)),
            AV.agg [AV.int IntKind.i64 false t_x, AV.int IntKind.i64 false t_y, AV.int IntKind.i64 false t_z],
            AV.agg
              [AV.int IntKind.i64 false (IntKind.i64.wrap (t_x.tdiv 2)),
                AV.int IntKind.i64 false (IntKind.i64.wrap (t_y.tdiv 2)),
                AV.int IntKind.i64 false (IntKind.i64.wrap (t_z.tdiv 2))],
            x29, x30, x31, x32, x33, x34, x35],
        heap :=
          [[AV.int IntKind.i64 false p_x, AV.int IntKind.i64 false p_y, AV.int IntKind.i64 false p_z],
            [AV.int IntKind.i64 false q_x, AV.int IntKind.i64 false q_y, AV.int IntKind.i64 false q_z],
            [AV.int IntKind.i64 false (IntKind.i64.wrap (t_x.tdiv 2)),
              AV.int IntKind.i64 false (IntKind.i64.wrap (t_y.tdiv 2)),
              AV.int IntKind.i64 false (IntKind.i64.wrap (t_z.tdiv 2))]] }))
  (Tr.leaf
    (Ex.exit 2,
      {
        tmps :=
          [x0, x1, x2, x3, AV.ptr (some (2, 0)), x5, x6, x7, x8, x9, x10, x11, x12, x13, x14, x15, x16, x17, x18, x19,
            x20, x21, x22, x23,
            AV.agg [AV.int IntKind.i64 false t_x, AV.int IntKind.i64 false t_y, AV.int IntKind.i64 false t_z],
            AV.int IntKind.i64 false (mostI t_x t_y t_z), AV.bool false (decide (mostI t_x t_y t_z ≥ 1048576)), x27,
            x28, x29, x30, x31, x32, x33, x34, x35],
        heap :=
          [[AV.int IntKind.i64 false p_x, AV.int IntKind.i64 false p_y, AV.int IntKind.i64 false p_z],
            [AV.int IntKind.i64 false q_x, AV.int IntKind.i64 false q_y, AV.int IntKind.i64 false q_z],
            [AV.int IntKind.i64 false t_x, AV.int IntKind.i64 false t_y, AV.int IntKind.i64 false t_z]] }))
def g_vec_Unit_2 : PieceTold := fun l h => match l, h with | [.ptr (some (2, 0))], [[.int .i64 false p_x, .int .i64 false p_y, .int .i64 false p_z], [.int .i64 false q_x, .int .i64 false q_y, .int .i64 false q_z], [.int .i64 false t_x, .int .i64 false t_y, .int .i64 false t_z]] => .node (decide (mostI t_x t_y t_z ≤ 4611686018427387904)) (.leaf (.normal, [], [[.int .i64 false p_x, .int .i64 false p_y, .int .i64 false p_z], [.int .i64 false q_x, .int .i64 false q_y, .int .i64 false q_z], [i6 (downS 45 t_x (mostI t_x t_y t_z)), i6 (downS 45 t_y (mostI t_x t_y t_z)), i6 (downS 45 t_z (mostI t_x t_y t_z))]])) .bad | _, _ => .bad
/-- From here the loop ends so. -/
def Fin_vec_Unit_2 (rnd : Nat → St → Tr (Ex × St)) (p_x : Int) (p_y : Int) (p_z : Int) (q_x : Int) (q_y : Int) (q_z : Int) (t_x : Int) (t_y : Int) (t_z : Int) (e : Ex) (outs : List (Nat × AV)) (hp : AH → AH) : Prop := ∀ (x0 x1 x2 x3 x5 x6 x7 x8 x9 x10 x11 x12 x13 x14 x15 x16 x17 x18 x19 x20 x21 x22 x23 x24 x25 x26 x27 x28 x29 x30 x31 x32 x33 x34 x35 : AV),
    ∃ N s', (∀ L, (loopIter (rnd L) (N + 1) ⟨[x0, x1, x2, x3, .ptr (some (2, 0)), x5, x6, x7, x8, x9, x10, x11, x12, x13, x14, x15, x16, x17, x18, x19, x20, x21, x22, x23, x24, x25, x26, x27, x28, x29, x30, x31, x32, x33, x34, x35], [[.int .i64 false p_x, .int .i64 false p_y, .int .i64 false p_z], [.int .i64 false q_x, .int .i64 false q_y, .int .i64 false q_z], [.int .i64 false t_x, .int .i64 false t_y, .int .i64 false t_z]]⟩).run = some (e, s')) ∧ Leaves 36 [24, 25, 26, 27, 28] [x0, x1, x2, x3, .ptr (some (2, 0)), x5, x6, x7, x8, x9, x10, x11, x12, x13, x14, x15, x16, x17, x18, x19, x20, x21, x22, x23, x24, x25, x26, x27, x28, x29, x30, x31, x32, x33, x34, x35] outs (hp ([[.int .i64 false p_x, .int .i64 false p_y, .int .i64 false p_z], [.int .i64 false q_x, .int .i64 false q_y, .int .i64 false q_z], [.int .i64 false t_x, .int .i64 false t_y, .int .i64 false t_z]])) s'
theorem step_vec_Unit_2_0 {rnd : Nat → St → Tr (Ex × St)} (hr : ∀ L (p_x : Int) (p_y : Int) (p_z : Int) (q_x : Int) (q_y : Int) (q_z : Int) (t_x : Int) (t_y : Int) (t_z : Int) (x0 x1 x2 x3 x5 x6 x7 x8 x9 x10 x11 x12 x13 x14 x15 x16 x17 x18 x19 x20 x21 x22 x23 x24 x25 x26 x27 x28 x29 x30 x31 x32 x33 x34 x35 : AV), rnd L ⟨[x0, x1, x2, x3, .ptr (some (2, 0)), x5, x6, x7, x8, x9, x10, x11, x12, x13, x14, x15, x16, x17, x18, x19, x20, x21, x22, x23, x24, x25, x26, x27, x28, x29, x30, x31, x32, x33, x34, x35], [[.int .i64 false p_x, .int .i64 false p_y, .int .i64 false p_z], [.int .i64 false q_x, .int .i64 false q_y, .int .i64 false q_z], [.int .i64 false t_x, .int .i64 false t_y, .int .i64 false t_z]]⟩ = rd_vec_Unit_2 p_x p_y p_z q_x q_y q_z t_x t_y t_z x0 x1 x2 x3 x5 x6 x7 x8 x9 x10 x11 x12 x13 x14 x15 x16 x17 x18 x19 x20 x21 x22 x23 x24 x25 x26 x27 x28 x29 x30 x31 x32 x33 x34 x35) (p_x : Int) (p_y : Int) (p_z : Int) (q_x : Int) (q_y : Int) (q_z : Int) (t_x : Int) (t_y : Int) (t_z : Int) (c0 : (decide (mostI t_x t_y t_z ≥ 1048576)) = true) {e : Ex} {outs : List (Nat × AV)} {hp : AH → AH} (hh : hp ([[AV.int IntKind.i64 false p_x, AV.int IntKind.i64 false p_y, AV.int IntKind.i64 false p_z],
            [AV.int IntKind.i64 false q_x, AV.int IntKind.i64 false q_y, AV.int IntKind.i64 false q_z],
            [AV.int IntKind.i64 false (IntKind.i64.wrap (t_x.tdiv 2)),
              AV.int IntKind.i64 false (IntKind.i64.wrap (t_y.tdiv 2)),
              AV.int IntKind.i64 false (IntKind.i64.wrap (t_z.tdiv 2))]]) = hp ([[.int .i64 false p_x, .int .i64 false p_y, .int .i64 false p_z], [.int .i64 false q_x, .int .i64 false q_y, .int .i64 false q_z], [.int .i64 false t_x, .int .i64 false t_y, .int .i64 false t_z]])) (hn : Fin_vec_Unit_2 rnd (p_x) (p_y) (p_z) (q_x) (q_y) (q_z) ((IntKind.i64.wrap (t_x.tdiv 2))) ((IntKind.i64.wrap (t_y.tdiv 2))) ((IntKind.i64.wrap (t_z.tdiv 2))) e outs hp) : Fin_vec_Unit_2 rnd p_x p_y p_z q_x q_y q_z t_x t_y t_z e outs hp := by
  intro x0 x1 x2 x3 x5 x6 x7 x8 x9 x10 x11 x12 x13 x14 x15 x16 x17 x18 x19 x20 x21 x22 x23 x24 x25 x26 x27 x28 x29 x30 x31 x32 x33 x34 x35
  obtain ⟨N, s', h1, h2⟩ := hn (x0) (x1) (x2) (x3) (x5) (x6) (x7) (x8) (x9) (x10) (x11) (x12) (x13) (x14) (x15) (x16) (x17) (x18) (x19) (x20) (x21) (x22) (x23) (AV.agg [AV.int IntKind.i64 false t_x, AV.int IntKind.i64 false t_y, AV.int IntKind.i64 false t_z]) (AV.int IntKind.i64 false (mostI t_x t_y t_z)) (AV.bool false (decide (mostI t_x t_y t_z ≥ 1048576))) (AV.agg [AV.int IntKind.i64 false t_x, AV.int IntKind.i64 false t_y, AV.int IntKind.i64 false t_z]) (AV.agg
              [AV.int IntKind.i64 false (IntKind.i64.wrap (t_x.tdiv 2)),
                AV.int IntKind.i64 false (IntKind.i64.wrap (t_y.tdiv 2)),
                AV.int IntKind.i64 false (IntKind.i64.wrap (t_z.tdiv 2))]) (x29) (x30) (x31) (x32) (x33) (x34) (x35)
  refine ⟨N + 1, s', fun L => ?_, hh ▸ h2.of ((show _ = ([untag x0, untag x1, untag x2, untag x3, untag (.ptr (some (2, 0))), untag x5, untag x6, untag x7, untag x8, untag x9, untag x10, untag x11, untag x12, untag x13, untag x14, untag x15, untag x16, untag x17, untag x18, untag x19, untag x20, untag x21, untag x22, untag x23, .undef, .undef, .undef, .undef, .undef, untag x29, untag x30, untag x31, untag x32, untag x33, untag x34, untag x35] : List AV) from rfl).trans (show ([untag x0, untag x1, untag x2, untag x3, untag (.ptr (some (2, 0))), untag x5, untag x6, untag x7, untag x8, untag x9, untag x10, untag x11, untag x12, untag x13, untag x14, untag x15, untag x16, untag x17, untag x18, untag x19, untag x20, untag x21, untag x22, untag x23, .undef, .undef, .undef, .undef, .undef, untag x29, untag x30, untag x31, untag x32, untag x33, untag x34, untag x35] : List AV) = _ from rfl))⟩
  rw [loopIter, hr, Tr.run_bind, show (rd_vec_Unit_2 p_x p_y p_z q_x q_y q_z t_x t_y t_z x0 x1 x2 x3 x5 x6 x7 x8 x9 x10 x11 x12 x13 x14 x15 x16 x17 x18 x19 x20 x21 x22 x23 x24 x25 x26 x27 x28 x29 x30 x31 x32 x33 x34 x35).run = some (.normal, ⟨[x0, x1, x2, x3, AV.ptr (some (2, 0)), x5, x6, x7, x8, x9, x10, x11, x12, x13, x14, x15, x16, x17, x18, x19, x20, x21, x22, x23, AV.agg [AV.int IntKind.i64 false t_x, AV.int IntKind.i64 false t_y, AV.int IntKind.i64 false t_z], AV.int IntKind.i64 false (mostI t_x t_y t_z), AV.bool false (decide (mostI t_x t_y t_z ≥ 1048576)), AV.agg [AV.int IntKind.i64 false t_x, AV.int IntKind.i64 false t_y, AV.int IntKind.i64 false t_z], AV.agg
              [AV.int IntKind.i64 false (IntKind.i64.wrap (t_x.tdiv 2)),
                AV.int IntKind.i64 false (IntKind.i64.wrap (t_y.tdiv 2)),
                AV.int IntKind.i64 false (IntKind.i64.wrap (t_z.tdiv 2))], x29, x30, x31, x32, x33, x34, x35], [[AV.int IntKind.i64 false p_x, AV.int IntKind.i64 false p_y, AV.int IntKind.i64 false p_z],
            [AV.int IntKind.i64 false q_x, AV.int IntKind.i64 false q_y, AV.int IntKind.i64 false q_z],
            [AV.int IntKind.i64 false (IntKind.i64.wrap (t_x.tdiv 2)),
              AV.int IntKind.i64 false (IntKind.i64.wrap (t_y.tdiv 2)),
              AV.int IntKind.i64 false (IntKind.i64.wrap (t_z.tdiv 2))]]⟩) from (run_t c0).trans (rfl)]
  exact h1 L
theorem stop_vec_Unit_2_1 {rnd : Nat → St → Tr (Ex × St)} (hr : ∀ L (p_x : Int) (p_y : Int) (p_z : Int) (q_x : Int) (q_y : Int) (q_z : Int) (t_x : Int) (t_y : Int) (t_z : Int) (x0 x1 x2 x3 x5 x6 x7 x8 x9 x10 x11 x12 x13 x14 x15 x16 x17 x18 x19 x20 x21 x22 x23 x24 x25 x26 x27 x28 x29 x30 x31 x32 x33 x34 x35 : AV), rnd L ⟨[x0, x1, x2, x3, .ptr (some (2, 0)), x5, x6, x7, x8, x9, x10, x11, x12, x13, x14, x15, x16, x17, x18, x19, x20, x21, x22, x23, x24, x25, x26, x27, x28, x29, x30, x31, x32, x33, x34, x35], [[.int .i64 false p_x, .int .i64 false p_y, .int .i64 false p_z], [.int .i64 false q_x, .int .i64 false q_y, .int .i64 false q_z], [.int .i64 false t_x, .int .i64 false t_y, .int .i64 false t_z]]⟩ = rd_vec_Unit_2 p_x p_y p_z q_x q_y q_z t_x t_y t_z x0 x1 x2 x3 x5 x6 x7 x8 x9 x10 x11 x12 x13 x14 x15 x16 x17 x18 x19 x20 x21 x22 x23 x24 x25 x26 x27 x28 x29 x30 x31 x32 x33 x34 x35) (p_x : Int) (p_y : Int) (p_z : Int) (q_x : Int) (q_y : Int) (q_z : Int) (t_x : Int) (t_y : Int) (t_z : Int) (c0 : (decide (mostI t_x t_y t_z ≥ 1048576)) = false) {outs : List (Nat × AV)} {hp : AH → AH} (ho : ∀ (x0 x1 x2 x3 x5 x6 x7 x8 x9 x10 x11 x12 x13 x14 x15 x16 x17 x18 x19 x20 x21 x22 x23 x24 x25 x26 x27 x28 x29 x30 x31 x32 x33 x34 x35 : AV), outs.map (fun p => untag (([x0, x1, x2, x3, AV.ptr (some (2, 0)), x5, x6, x7, x8, x9, x10, x11, x12, x13, x14, x15, x16, x17, x18, x19, x20, x21, x22, x23, AV.agg [AV.int IntKind.i64 false t_x, AV.int IntKind.i64 false t_y, AV.int IntKind.i64 false t_z], AV.int IntKind.i64 false (mostI t_x t_y t_z), AV.bool false (decide (mostI t_x t_y t_z ≥ 1048576)), x27, x28, x29, x30, x31, x32, x33, x34, x35] : List AV).getD p.1 .undef)) = outs.map (fun p => untag p.2)) (hh : ∀ h : AH, ([[AV.int IntKind.i64 false p_x, AV.int IntKind.i64 false p_y, AV.int IntKind.i64 false p_z],
            [AV.int IntKind.i64 false q_x, AV.int IntKind.i64 false q_y, AV.int IntKind.i64 false q_z],
            [AV.int IntKind.i64 false t_x, AV.int IntKind.i64 false t_y, AV.int IntKind.i64 false t_z]]).map untagL = (hp ([[.int .i64 false p_x, .int .i64 false p_y, .int .i64 false p_z], [.int .i64 false q_x, .int .i64 false q_y, .int .i64 false q_z], [.int .i64 false t_x, .int .i64 false t_y, .int .i64 false t_z]])).map untagL) : Fin_vec_Unit_2 rnd p_x p_y p_z q_x q_y q_z t_x t_y t_z (.exit 2) outs hp := by
  intro x0 x1 x2 x3 x5 x6 x7 x8 x9 x10 x11 x12 x13 x14 x15 x16 x17 x18 x19 x20 x21 x22 x23 x24 x25 x26 x27 x28 x29 x30 x31 x32 x33 x34 x35
  refine ⟨0, ⟨[x0, x1, x2, x3, AV.ptr (some (2, 0)), x5, x6, x7, x8, x9, x10, x11, x12, x13, x14, x15, x16, x17, x18, x19, x20, x21, x22, x23, AV.agg [AV.int IntKind.i64 false t_x, AV.int IntKind.i64 false t_y, AV.int IntKind.i64 false t_z], AV.int IntKind.i64 false (mostI t_x t_y t_z), AV.bool false (decide (mostI t_x t_y t_z ≥ 1048576)), x27, x28, x29, x30, x31, x32, x33, x34, x35], [[AV.int IntKind.i64 false p_x, AV.int IntKind.i64 false p_y, AV.int IntKind.i64 false p_z],
            [AV.int IntKind.i64 false q_x, AV.int IntKind.i64 false q_y, AV.int IntKind.i64 false q_z],
            [AV.int IntKind.i64 false t_x, AV.int IntKind.i64 false t_y, AV.int IntKind.i64 false t_z]]⟩, fun L => ?_, ⟨hh [], rfl, ho x0 x1 x2 x3 x5 x6 x7 x8 x9 x10 x11 x12 x13 x14 x15 x16 x17 x18 x19 x20 x21 x22 x23 x24 x25 x26 x27 x28 x29 x30 x31 x32 x33 x34 x35, ((show _ = ([untag x0, untag x1, untag x2, untag x3, untag (.ptr (some (2, 0))), untag x5, untag x6, untag x7, untag x8, untag x9, untag x10, untag x11, untag x12, untag x13, untag x14, untag x15, untag x16, untag x17, untag x18, untag x19, untag x20, untag x21, untag x22, untag x23, .undef, .undef, .undef, .undef, .undef, untag x29, untag x30, untag x31, untag x32, untag x33, untag x34, untag x35] : List AV) from rfl).trans (show ([untag x0, untag x1, untag x2, untag x3, untag (.ptr (some (2, 0))), untag x5, untag x6, untag x7, untag x8, untag x9, untag x10, untag x11, untag x12, untag x13, untag x14, untag x15, untag x16, untag x17, untag x18, untag x19, untag x20, untag x21, untag x22, untag x23, .undef, .undef, .undef, .undef, .undef, untag x29, untag x30, untag x31, untag x32, untag x33, untag x34, untag x35] : List AV) = _ from rfl))⟩⟩
  rw [loopIter, hr, Tr.run_bind, show (rd_vec_Unit_2 p_x p_y p_z q_x q_y q_z t_x t_y t_z x0 x1 x2 x3 x5 x6 x7 x8 x9 x10 x11 x12 x13 x14 x15 x16 x17 x18 x19 x20 x21 x22 x23 x24 x25 x26 x27 x28 x29 x30 x31 x32 x33 x34 x35).run = some (.exit 2, ⟨[x0, x1, x2, x3, AV.ptr (some (2, 0)), x5, x6, x7, x8, x9, x10, x11, x12, x13, x14, x15, x16, x17, x18, x19, x20, x21, x22, x23, AV.agg [AV.int IntKind.i64 false t_x, AV.int IntKind.i64 false t_y, AV.int IntKind.i64 false t_z], AV.int IntKind.i64 false (mostI t_x t_y t_z), AV.bool false (decide (mostI t_x t_y t_z ≥ 1048576)), x27, x28, x29, x30, x31, x32, x33, x34, x35], [[AV.int IntKind.i64 false p_x, AV.int IntKind.i64 false p_y, AV.int IntKind.i64 false p_z],
            [AV.int IntKind.i64 false q_x, AV.int IntKind.i64 false q_y, AV.int IntKind.i64 false q_z],
            [AV.int IntKind.i64 false t_x, AV.int IntKind.i64 false t_y, AV.int IntKind.i64 false t_z]]⟩) from (run_f c0).trans (rfl)]
  rfl
theorem core_vec_Unit_2 (rnd : Nat → St → Tr (Ex × St)) (hr : ∀ L (p_x : Int) (p_y : Int) (p_z : Int) (q_x : Int) (q_y : Int) (q_z : Int) (t_x : Int) (t_y : Int) (t_z : Int) (x0 x1 x2 x3 x5 x6 x7 x8 x9 x10 x11 x12 x13 x14 x15 x16 x17 x18 x19 x20 x21 x22 x23 x24 x25 x26 x27 x28 x29 x30 x31 x32 x33 x34 x35 : AV), rnd L ⟨[x0, x1, x2, x3, .ptr (some (2, 0)), x5, x6, x7, x8, x9, x10, x11, x12, x13, x14, x15, x16, x17, x18, x19, x20, x21, x22, x23, x24, x25, x26, x27, x28, x29, x30, x31, x32, x33, x34, x35], [[.int .i64 false p_x, .int .i64 false p_y, .int .i64 false p_z], [.int .i64 false q_x, .int .i64 false q_y, .int .i64 false q_z], [.int .i64 false t_x, .int .i64 false t_y, .int .i64 false t_z]]⟩ = rd_vec_Unit_2 p_x p_y p_z q_x q_y q_z t_x t_y t_z x0 x1 x2 x3 x5 x6 x7 x8 x9 x10 x11 x12 x13 x14 x15 x16 x17 x18 x19 x20 x21 x22 x23 x24 x25 x26 x27 x28 x29 x30 x31 x32 x33 x34 x35) : ∀ (p_x : Int) (p_y : Int) (p_z : Int) (q_x : Int) (q_y : Int) (q_z : Int) (t_x : Int) (t_y : Int) (t_z : Int), mostI t_x t_y t_z ≤ 4611686018427387904 → Fin_vec_Unit_2 rnd p_x p_y p_z q_x q_y q_z t_x t_y t_z (.exit 2) [] (fun _ => [[.int .i64 false p_x, .int .i64 false p_y, .int .i64 false p_z], [.int .i64 false q_x, .int .i64 false q_y, .int .i64 false q_z], [i6 (downS 45 t_x (mostI t_x t_y t_z)), i6 (downS 45 t_y (mostI t_x t_y t_z)), i6 (downS 45 t_z (mostI t_x t_y t_z))]]) := by
  have key : ∀ (k : Nat) (p_x p_y p_z q_x q_y q_z t_x t_y t_z : Int), mostI t_x t_y t_z ≤ 4611686018427387904 ∧ mostI t_x t_y t_z < 1048576 * 2 ^ k →
      Fin_vec_Unit_2 rnd p_x p_y p_z q_x q_y q_z t_x t_y t_z (.exit 2) [] (fun _ => [[.int .i64 false p_x, .int .i64 false p_y, .int .i64 false p_z], [.int .i64 false q_x, .int .i64 false q_y, .int .i64 false q_z], [i6 (downS k t_x (mostI t_x t_y t_z)), i6 (downS k t_y (mostI t_x t_y t_z)), i6 (downS k t_z (mostI t_x t_y t_z))]]) := by
    intro k
    induction k with
    | zero =>
      intro p_x p_y p_z q_x q_y q_z t_x t_y t_z ⟨h1, hk⟩
      exact stop_vec_Unit_2_1 hr p_x p_y p_z q_x q_y q_z t_x t_y t_z (decide_eq_false (by omega)) (by intros; rfl) (fun h => rfl)
    | succ k ih =>
      intro p_x p_y p_z q_x q_y q_z t_x t_y t_z ⟨h1, hk⟩
      obtain ⟨hx, hy, hz, _⟩ := most_spec h1
      by_cases hc : mostI t_x t_y t_z ≥ 1048576
      · refine step_vec_Unit_2_0 hr p_x p_y p_z q_x q_y q_z t_x t_y t_z (decide_eq_true hc) rfl ?_
        rw [tdiv2_wrap (x := t_x) (by omega), tdiv2_wrap (x := t_y) (by omega), tdiv2_wrap (x := t_z) (by omega)]
        simp only [downS, if_pos hc]
        have hh := most_half h1
        have hn := ih p_x p_y p_z q_x q_y q_z (t_x.tdiv 2) (t_y.tdiv 2) (t_z.tdiv 2) (by
          rw [hh]
          have : (1048576 : Int) * 2 ^ (k + 1) = 2 * (1048576 * 2 ^ k) := by rw [Int.pow_succ]; grind
          omega)
        rw [hh] at hn
        exact hn
      · refine stop_vec_Unit_2_1 hr p_x p_y p_z q_x q_y q_z t_x t_y t_z (decide_eq_false hc) (by intros; rfl) (fun h => ?_)
        simp only [downS, if_neg hc]; rfl
  exact fun p_x p_y p_z q_x q_y q_z t_x t_y t_z hc => key 45 p_x p_y p_z q_x q_y q_z t_x t_y t_z ⟨hc, by omega⟩
theorem piece_vec_Unit_2 {P : Program} {T : Table} {O' : Known} {f : FuncId} (hb : blockOf P f 2 = .loop (loopOf P f 2)) (hid : O' 2 = none)
    (hr : ∀ (L : Nat) (p_x : Int) (p_y : Int) (p_z : Int) (q_x : Int) (q_y : Int) (q_z : Int) (t_x : Int) (t_y : Int) (t_z : Int) (x0 x1 x2 x3 x5 x6 x7 x8 x9 x10 x11 x12 x13 x14 x15 x16 x17 x18 x19 x20 x21 x22 x23 x24 x25 x26 x27 x28 x29 x30 x31 x32 x33 x34 x35 : AV), evCode P (evCall P T 16 6) L O' (loopOf P f 2) ⟨[x0, x1, x2, x3, .ptr (some (2, 0)), x5, x6, x7, x8, x9, x10, x11, x12, x13, x14, x15, x16, x17, x18, x19, x20, x21, x22, x23, x24, x25, x26, x27, x28, x29, x30, x31, x32, x33, x34, x35], [[.int .i64 false p_x, .int .i64 false p_y, .int .i64 false p_z], [.int .i64 false q_x, .int .i64 false q_y, .int .i64 false q_z], [.int .i64 false t_x, .int .i64 false t_y, .int .i64 false t_z]]⟩ = rd_vec_Unit_2 p_x p_y p_z q_x q_y q_z t_x t_y t_z x0 x1 x2 x3 x5 x6 x7 x8 x9 x10 x11 x12 x13 x14 x15 x16 x17 x18 x19 x20 x21 x22 x23 x24 x25 x26 x27 x28 x29 x30 x31 x32 x33 x34 x35) :
    ∀ (s : St) (e : Ex) (outs : List (Nat × AV)) (hp : AH), s.tmps.length = 36 → (g_vec_Unit_2 (([4] : List Nat).map fun j => untag (s.tmps.getD j .undef)) (s.heap.map untagL)).run = some (e, outs, hp) → ∃ s', Good P T O' f 2 36 [24, 25, 26, 27, 28] s e outs hp s' := by
  intro s e outs hp hk hg
  obtain ⟨tm, h⟩ := s
  have htm : untagL tm = [untag (tm.getD 0 .undef), untag (tm.getD 1 .undef), untag (tm.getD 2 .undef), untag (tm.getD 3 .undef), untag (tm.getD 4 .undef), untag (tm.getD 5 .undef), untag (tm.getD 6 .undef), untag (tm.getD 7 .undef), untag (tm.getD 8 .undef), untag (tm.getD 9 .undef), untag (tm.getD 10 .undef), untag (tm.getD 11 .undef), untag (tm.getD 12 .undef), untag (tm.getD 13 .undef), untag (tm.getD 14 .undef), untag (tm.getD 15 .undef), untag (tm.getD 16 .undef), untag (tm.getD 17 .undef), untag (tm.getD 18 .undef), untag (tm.getD 19 .undef), untag (tm.getD 20 .undef), untag (tm.getD 21 .undef), untag (tm.getD 22 .undef), untag (tm.getD 23 .undef), untag (tm.getD 24 .undef), untag (tm.getD 25 .undef), untag (tm.getD 26 .undef), untag (tm.getD 27 .undef), untag (tm.getD 28 .undef), untag (tm.getD 29 .undef), untag (tm.getD 30 .undef), untag (tm.getD 31 .undef), untag (tm.getD 32 .undef), untag (tm.getD 33 .undef), untag (tm.getD 34 .undef), untag (tm.getD 35 .undef)] := tmps_eq hk
  unfold g_vec_Unit_2 at hg
  simp only [List.map_cons, List.map_nil] at hg
  split at hg
  · rename_i p_x p_y p_z q_x q_y q_z t_x t_y t_z heq hheap
    simp only [List.cons.injEq, and_true] at heq
    have e4 := heq
    simp only [Tr.run] at hg
    split at hg
    · rename_i hc
      simp only [Option.some.injEq, Prod.mk.injEq] at hg
      obtain ⟨rfl, rfl, rfl⟩ := hg
      rw [e4] at htm
      obtain ⟨N, s', h1, h2⟩ := core_vec_Unit_2 (fun L => evCode P (evCall P T 16 6) L O' (loopOf P f 2)) hr p_x p_y p_z q_x q_y q_z t_x t_y t_z (of_decide_eq_true hc) (untag (tm.getD 0 .undef)) (untag (tm.getD 1 .undef)) (untag (tm.getD 2 .undef)) (untag (tm.getD 3 .undef)) (untag (tm.getD 5 .undef)) (untag (tm.getD 6 .undef)) (untag (tm.getD 7 .undef)) (untag (tm.getD 8 .undef)) (untag (tm.getD 9 .undef)) (untag (tm.getD 10 .undef)) (untag (tm.getD 11 .undef)) (untag (tm.getD 12 .undef)) (untag (tm.getD 13 .undef)) (untag (tm.getD 14 .undef)) (untag (tm.getD 15 .undef)) (untag (tm.getD 16 .undef)) (untag (tm.getD 17 .undef)) (untag (tm.getD 18 .undef)) (untag (tm.getD 19 .undef)) (untag (tm.getD 20 .undef)) (untag (tm.getD 21 .undef)) (untag (tm.getD 22 .undef)) (untag (tm.getD 23 .undef)) (untag (tm.getD 24 .undef)) (untag (tm.getD 25 .undef)) (untag (tm.getD 26 .undef)) (untag (tm.getD 27 .undef)) (untag (tm.getD 28 .undef)) (untag (tm.getD 29 .undef)) (untag (tm.getD 30 .undef)) (untag (tm.getD 31 .undef)) (untag (tm.getD 32 .undef)) (untag (tm.getD 33 .undef)) (untag (tm.getD 34 .undef)) (untag (tm.getD 35 .undef)) 
      exact ⟨s', good_loop (e1 := .exit 2) hb hid 16 6 N (by rw [htm, hheap]; exact h1) (by rw [htm]; exact h2)⟩
    · cases hg
  · cases hg

/-! vec.Unit -/
def tr_vec_Unit (v_x : Int) (v_y : Int) (v_z : Int) : Tr AV := Tr.node (mostI v_x v_y v_z == 0)
  (Tr.leaf
    (AV.tuple
      [AV.agg [AV.int IntKind.i64 false 0, AV.int IntKind.i64 false 0, AV.int IntKind.i64 false 0],
        AV.bool false false]))
  (Tr.node (decide (mostI v_x v_y v_z > 4611686018427387904))
    (Tr.leaf
      (AV.tuple
        [AV.agg [AV.int IntKind.i64 false 0, AV.int IntKind.i64 false 0, AV.int IntKind.i64 false 0],
          AV.bool false false]))
    (Tr.node
      (decide
        (1 ≤ mostI v_x v_y v_z ∧
          mostI v_x v_y v_z ≤ 4611686018427387904 ∧
            (-mostI v_x v_y v_z ≤ v_x ∧ v_x ≤ mostI v_x v_y v_z) ∧
              (-mostI v_x v_y v_z ≤ v_y ∧ v_y ≤ mostI v_x v_y v_z) ∧
                -mostI v_x v_y v_z ≤ v_z ∧ v_z ≤ mostI v_x v_y v_z))
      (Tr.node
        (decide
          (mostI (upS 20 v_x (mostI v_x v_y v_z)) (upS 20 v_y (mostI v_x v_y v_z)) (upS 20 v_z (mostI v_x v_y v_z)) ≤
            4611686018427387904))
        (Tr.node
          (decide
            (isq
                (dotN
                  (downS 45 (upS 20 v_x (mostI v_x v_y v_z))
                    (mostI (upS 20 v_x (mostI v_x v_y v_z)) (upS 20 v_y (mostI v_x v_y v_z))
                      (upS 20 v_z (mostI v_x v_y v_z))))
                  (downS 45 (upS 20 v_y (mostI v_x v_y v_z))
                    (mostI (upS 20 v_x (mostI v_x v_y v_z)) (upS 20 v_y (mostI v_x v_y v_z))
                      (upS 20 v_z (mostI v_x v_y v_z))))
                  (downS 45 (upS 20 v_z (mostI v_x v_y v_z))
                    (mostI (upS 20 v_x (mostI v_x v_y v_z)) (upS 20 v_y (mostI v_x v_y v_z))
                      (upS 20 v_z (mostI v_x v_y v_z))))
                  (downS 45 (upS 20 v_x (mostI v_x v_y v_z))
                    (mostI (upS 20 v_x (mostI v_x v_y v_z)) (upS 20 v_y (mostI v_x v_y v_z))
                      (upS 20 v_z (mostI v_x v_y v_z))))
                  (downS 45 (upS 20 v_y (mostI v_x v_y v_z))
                    (mostI (upS 20 v_x (mostI v_x v_y v_z)) (upS 20 v_y (mostI v_x v_y v_z))
                      (upS 20 v_z (mostI v_x v_y v_z))))
                  (downS 45 (upS 20 v_z (mostI v_x v_y v_z))
                    (mostI (upS 20 v_x (mostI v_x v_y v_z)) (upS 20 v_y (mostI v_x v_y v_z))
                      (upS 20 v_z (mostI v_x v_y v_z))))) =
              0))
          Tr.bad
          (Tr.node
            (decide
              (isq
                  (dotN
                    (downS 45 (upS 20 v_x (mostI v_x v_y v_z))
                      (mostI (upS 20 v_x (mostI v_x v_y v_z)) (upS 20 v_y (mostI v_x v_y v_z))
                        (upS 20 v_z (mostI v_x v_y v_z))))
                    (downS 45 (upS 20 v_y (mostI v_x v_y v_z))
                      (mostI (upS 20 v_x (mostI v_x v_y v_z)) (upS 20 v_y (mostI v_x v_y v_z))
                        (upS 20 v_z (mostI v_x v_y v_z))))
                    (downS 45 (upS 20 v_z (mostI v_x v_y v_z))
                      (mostI (upS 20 v_x (mostI v_x v_y v_z)) (upS 20 v_y (mostI v_x v_y v_z))
                        (upS 20 v_z (mostI v_x v_y v_z))))
                    (downS 45 (upS 20 v_x (mostI v_x v_y v_z))
                      (mostI (upS 20 v_x (mostI v_x v_y v_z)) (upS 20 v_y (mostI v_x v_y v_z))
                        (upS 20 v_z (mostI v_x v_y v_z))))
                    (downS 45 (upS 20 v_y (mostI v_x v_y v_z))
                      (mostI (upS 20 v_x (mostI v_x v_y v_z)) (upS 20 v_y (mostI v_x v_y v_z))
                        (upS 20 v_z (mostI v_x v_y v_z))))
                    (downS 45 (upS 20 v_z (mostI v_x v_y v_z))
                      (mostI (upS 20 v_x (mostI v_x v_y v_z)) (upS 20 v_y (mostI v_x v_y v_z))
                        (upS 20 v_z (mostI v_x v_y v_z))))) =
                0))
            Tr.bad
            (Tr.node
              (decide
                (isq
                    (dotN
                      (downS 45 (upS 20 v_x (mostI v_x v_y v_z))
                        (mostI (upS 20 v_x (mostI v_x v_y v_z)) (upS 20 v_y (mostI v_x v_y v_z))
                          (upS 20 v_z (mostI v_x v_y v_z))))
                      (downS 45 (upS 20 v_y (mostI v_x v_y v_z))
                        (mostI (upS 20 v_x (mostI v_x v_y v_z)) (upS 20 v_y (mostI v_x v_y v_z))
                          (upS 20 v_z (mostI v_x v_y v_z))))
                      (downS 45 (upS 20 v_z (mostI v_x v_y v_z))
                        (mostI (upS 20 v_x (mostI v_x v_y v_z)) (upS 20 v_y (mostI v_x v_y v_z))
                          (upS 20 v_z (mostI v_x v_y v_z))))
                      (downS 45 (upS 20 v_x (mostI v_x v_y v_z))
                        (mostI (upS 20 v_x (mostI v_x v_y v_z)) (upS 20 v_y (mostI v_x v_y v_z))
                          (upS 20 v_z (mostI v_x v_y v_z))))
                      (downS 45 (upS 20 v_y (mostI v_x v_y v_z))
                        (mostI (upS 20 v_x (mostI v_x v_y v_z)) (upS 20 v_y (mostI v_x v_y v_z))
                          (upS 20 v_z (mostI v_x v_y v_z))))
                      (downS 45 (upS 20 v_z (mostI v_x v_y v_z))
                        (mostI (upS 20 v_x (mostI v_x v_y v_z)) (upS 20 v_y (mostI v_x v_y v_z))
                          (upS 20 v_z (mostI v_x v_y v_z))))) =
                  0))
              Tr.bad
              (Tr.leaf
                (AV.tuple
                  [AV.agg
                      [AV.int IntKind.i64 false
                          (IntKind.i64.wrap
                            ((IntKind.i64.wrap
                                  (downS 45 (upS 20 v_x (mostI v_x v_y v_z))
                                      (mostI (upS 20 v_x (mostI v_x v_y v_z)) (upS 20 v_y (mostI v_x v_y v_z))
                                        (upS 20 v_z (mostI v_x v_y v_z))) *
                                    16384)).tdiv
                              (isq
                                (dotN
                                  (downS 45 (upS 20 v_x (mostI v_x v_y v_z))
                                    (mostI (upS 20 v_x (mostI v_x v_y v_z)) (upS 20 v_y (mostI v_x v_y v_z))
                                      (upS 20 v_z (mostI v_x v_y v_z))))
                                  (downS 45 (upS 20 v_y (mostI v_x v_y v_z))
                                    (mostI (upS 20 v_x (mostI v_x v_y v_z)) (upS 20 v_y (mostI v_x v_y v_z))
                                      (upS 20 v_z (mostI v_x v_y v_z))))
                                  (downS 45 (upS 20 v_z (mostI v_x v_y v_z))
                                    (mostI (upS 20 v_x (mostI v_x v_y v_z)) (upS 20 v_y (mostI v_x v_y v_z))
                                      (upS 20 v_z (mostI v_x v_y v_z))))
                                  (downS 45 (upS 20 v_x (mostI v_x v_y v_z))
                                    (mostI (upS 20 v_x (mostI v_x v_y v_z)) (upS 20 v_y (mostI v_x v_y v_z))
                                      (upS 20 v_z (mostI v_x v_y v_z))))
                                  (downS 45 (upS 20 v_y (mostI v_x v_y v_z))
                                    (mostI (upS 20 v_x (mostI v_x v_y v_z)) (upS 20 v_y (mostI v_x v_y v_z))
                                      (upS 20 v_z (mostI v_x v_y v_z))))
                                  (downS 45 (upS 20 v_z (mostI v_x v_y v_z))
                                    (mostI (upS 20 v_x (mostI v_x v_y v_z)) (upS 20 v_y (mostI v_x v_y v_z))
                                      (upS 20 v_z (mostI v_x v_y v_z)))))))),
                        AV.int IntKind.i64 false
                          (IntKind.i64.wrap
                            ((IntKind.i64.wrap
                                  (downS 45 (upS 20 v_y (mostI v_x v_y v_z))
                                      (mostI (upS 20 v_x (mostI v_x v_y v_z)) (upS 20 v_y (mostI v_x v_y v_z))
                                        (upS 20 v_z (mostI v_x v_y v_z))) *
                                    16384)).tdiv
                              (isq
                                (dotN
                                  (downS 45 (upS 20 v_x (mostI v_x v_y v_z))
                                    (mostI (upS 20 v_x (mostI v_x v_y v_z)) (upS 20 v_y (mostI v_x v_y v_z))
                                      (upS 20 v_z (mostI v_x v_y v_z))))
                                  (downS 45 (upS 20 v_y (mostI v_x v_y v_z))
                                    (mostI (upS 20 v_x (mostI v_x v_y v_z)) (upS 20 v_y (mostI v_x v_y v_z))
                                      (upS 20 v_z (mostI v_x v_y v_z))))
                                  (downS 45 (upS 20 v_z (mostI v_x v_y v_z))
                                    (mostI (upS 20 v_x (mostI v_x v_y v_z)) (upS 20 v_y (mostI v_x v_y v_z))
                                      (upS 20 v_z (mostI v_x v_y v_z))))
                                  (downS 45 (upS 20 v_x (mostI v_x v_y v_z))
                                    (mostI (upS 20 v_x (mostI v_x v_y v_z)) (upS 20 v_y (mostI v_x v_y v_z))
                                      (upS 20 v_z (mostI v_x v_y v_z))))
                                  (downS 45 (upS 20 v_y (mostI v_x v_y v_z))
                                    (mostI (upS 20 v_x (mostI v_x v_y v_z)) (upS 20 v_y (mostI v_x v_y v_z))
                                      (upS 20 v_z (mostI v_x v_y v_z))))
                                  (downS 45 (upS 20 v_z (mostI v_x v_y v_z))
                                    (mostI (upS 20 v_x (mostI v_x v_y v_z)) (upS 20 v_y (mostI v_x v_y v_z))
                                      (upS 20 v_z (mostI v_x v_y v_z)))))))),
                        AV.int IntKind.i64 false
                          (IntKind.i64.wrap
                            ((IntKind.i64.wrap
                                  (downS 45 (upS 20 v_z (mostI v_x v_y v_z))
                                      (mostI (upS 20 v_x (mostI v_x v_y v_z)) (upS 20 v_y (mostI v_x v_y v_z))
                                        (upS 20 v_z (mostI v_x v_y v_z))) *
                                    16384)).tdiv
                              (isq
                                (dotN
                                  (downS 45 (upS 20 v_x (mostI v_x v_y v_z))
                                    (mostI (upS 20 v_x (mostI v_x v_y v_z)) (upS 20 v_y (mostI v_x v_y v_z))
                                      (upS 20 v_z (mostI v_x v_y v_z))))
                                  (downS 45 (upS 20 v_y (mostI v_x v_y v_z))
                                    (mostI (upS 20 v_x (mostI v_x v_y v_z)) (upS 20 v_y (mostI v_x v_y v_z))
                                      (upS 20 v_z (mostI v_x v_y v_z))))
                                  (downS 45 (upS 20 v_z (mostI v_x v_y v_z))
                                    (mostI (upS 20 v_x (mostI v_x v_y v_z)) (upS 20 v_y (mostI v_x v_y v_z))
                                      (upS 20 v_z (mostI v_x v_y v_z))))
                                  (downS 45 (upS 20 v_x (mostI v_x v_y v_z))
                                    (mostI (upS 20 v_x (mostI v_x v_y v_z)) (upS 20 v_y (mostI v_x v_y v_z))
                                      (upS 20 v_z (mostI v_x v_y v_z))))
                                  (downS 45 (upS 20 v_y (mostI v_x v_y v_z))
                                    (mostI (upS 20 v_x (mostI v_x v_y v_z)) (upS 20 v_y (mostI v_x v_y v_z))
                                      (upS 20 v_z (mostI v_x v_y v_z))))
                                  (downS 45 (upS 20 v_z (mostI v_x v_y v_z))
                                    (mostI (upS 20 v_x (mostI v_x v_y v_z)) (upS 20 v_y (mostI v_x v_y v_z))
                                      (upS 20 v_z (mostI v_x v_y v_z))))))))],
                    AV.bool false true])))))
        Tr.bad)
      Tr.bad))
theorem run_vec_Unit (v_x : Int) (v_y : Int) (v_z : Int) (h_v_x : InR .i64 v_x) (h_v_y : InR .i64 v_y) (h_v_z : InR .i64 v_z) : (tr_vec_Unit v_x v_y v_z).run = some (.tuple [v3 (unitC v_x v_y v_z v_x) (unitC v_x v_y v_z v_y) (unitC v_x v_y v_z v_z), bb (okU v_x v_y v_z)]) := by
  unfold tr_vec_Unit
  have h0 := most_nonneg v_x v_y v_z
  by_cases c0 : mostI v_x v_y v_z = 0
  · have ok : okU v_x v_y v_z = false := by unfold okU; simp [c0]
    rw [ok, unitC_no ok, unitC_no ok, unitC_no ok]
    exact run_t (by simpa using c0)
  · by_cases c1 : mostI v_x v_y v_z > 4611686018427387904
    · have ok : okU v_x v_y v_z = false := by unfold okU; simp [c0, c1]
      rw [ok, unitC_no ok, unitC_no ok, unitC_no ok]
      exact (run_f (by simpa using c0)).trans (run_t (decide_eq_true c1))
    · have ok : okU v_x v_y v_z = true := by unfold okU; simp [c0]; omega
      obtain ⟨mx, my, mz, _⟩ := most_spec (x := v_x) (y := v_y) (z := v_z) (by omega)
      obtain ⟨n, _, _, _, he⟩ := even_spec ok
      obtain ⟨near, l1, l2, l3, l4⟩ := len_spec ok
      obtain ⟨u1, u2, ux, uy, uz⟩ := unitC_r ok
      refine (run_f (by simpa using c0)).trans ((run_f (decide_eq_false c1)).trans ((run_t (decide_eq_true ⟨by omega, by omega, mx, my, mz⟩)).trans ((run_t (decide_eq_true he)).trans ?_)))
      rw [ok]
      change Tr.run (α := AV) (.node (decide (isq (dotN (nrm v_x v_y v_z v_x) (nrm v_x v_y v_z v_y) (nrm v_x v_y v_z v_z) (nrm v_x v_y v_z v_x) (nrm v_x v_y v_z v_y) (nrm v_x v_y v_z v_z)) = 0)) .bad
        (.node (decide (isq (dotN (nrm v_x v_y v_z v_x) (nrm v_x v_y v_z v_y) (nrm v_x v_y v_z v_z) (nrm v_x v_y v_z v_x) (nrm v_x v_y v_z v_y) (nrm v_x v_y v_z v_z)) = 0)) .bad (.node (decide (isq (dotN (nrm v_x v_y v_z v_x) (nrm v_x v_y v_z v_y) (nrm v_x v_y v_z v_z) (nrm v_x v_y v_z v_x) (nrm v_x v_y v_z v_y) (nrm v_x v_y v_z v_z)) = 0)) .bad (.leaf (.tuple [.agg [i6 (IntKind.i64.wrap ((IntKind.i64.wrap (nrm v_x v_y v_z v_x * 16384)).tdiv (isq (dotN (nrm v_x v_y v_z v_x) (nrm v_x v_y v_z v_y) (nrm v_x v_y v_z v_z) (nrm v_x v_y v_z v_x) (nrm v_x v_y v_z v_y) (nrm v_x v_y v_z v_z))))),
          i6 (IntKind.i64.wrap ((IntKind.i64.wrap (nrm v_x v_y v_z v_y * 16384)).tdiv (isq (dotN (nrm v_x v_y v_z v_x) (nrm v_x v_y v_z v_y) (nrm v_x v_y v_z v_z) (nrm v_x v_y v_z v_x) (nrm v_x v_y v_z v_y) (nrm v_x v_y v_z v_z))))),
          i6 (IntKind.i64.wrap ((IntKind.i64.wrap (nrm v_x v_y v_z v_z * 16384)).tdiv (isq (dotN (nrm v_x v_y v_z v_x) (nrm v_x v_y v_z v_y) (nrm v_x v_y v_z v_z) (nrm v_x v_y v_z v_x) (nrm v_x v_y v_z v_y) (nrm v_x v_y v_z v_z)))))], bb true]))))) = _
      have el : isq (dotN (nrm v_x v_y v_z v_x) (nrm v_x v_y v_z v_y) (nrm v_x v_y v_z v_z) (nrm v_x v_y v_z v_x) (nrm v_x v_y v_z v_y) (nrm v_x v_y v_z v_z)) = lenU v_x v_y v_z := by
        unfold lenU dotN; rw [if_pos ⟨near, near⟩]
      have rn := near_r near
      rw [el, wrap_i64_id (n := nrm v_x v_y v_z v_x * 16384) (by omega), wrap_i64_id (n := nrm v_x v_y v_z v_y * 16384) (by omega), wrap_i64_id (n := nrm v_x v_y v_z v_z * 16384) (by omega)]
      have e : ∀ c, (nrm v_x v_y v_z c * 16384).tdiv (lenU v_x v_y v_z) = unitC v_x v_y v_z c := fun c => by unfold unitC; rw [if_pos ok]
      rw [e, e, e, wrap_i64_id (n := unitC v_x v_y v_z v_x) (by omega), wrap_i64_id (n := unitC v_x v_y v_z v_y) (by omega), wrap_i64_id (n := unitC v_x v_y v_z v_z) (by omega)]
      exact (run_f (decide_eq_false (by omega))).trans ((run_f (decide_eq_false (by omega))).trans (run_f (decide_eq_false (by omega))))

/-! skylightlaw06.VecUnit -/
def tr_skylightlaw06_VecUnit (v_x : Int) (v_y : Int) (v_z : Int) : Tr AV := Tr.node
  (IntKind.i64.wrap (v_x.tdiv 4) == 0 &&
    (IntKind.i64.wrap (v_y.tdiv 4) == 0 && (IntKind.i64.wrap (v_z.tdiv 4) == 0 && true)))
  (Tr.node (!okU (IntKind.i64.wrap (v_x.tdiv 4)) (IntKind.i64.wrap (v_y.tdiv 4)) (IntKind.i64.wrap (v_z.tdiv 4)))
    (Tr.node
      (unitC (IntKind.i64.wrap (v_x.tdiv 4)) (IntKind.i64.wrap (v_y.tdiv 4)) (IntKind.i64.wrap (v_z.tdiv 4))
            (IntKind.i64.wrap (v_x.tdiv 4)) ==
          IntKind.i64.wrap (v_x.tdiv 4) &&
        (unitC (IntKind.i64.wrap (v_x.tdiv 4)) (IntKind.i64.wrap (v_y.tdiv 4)) (IntKind.i64.wrap (v_z.tdiv 4))
              (IntKind.i64.wrap (v_y.tdiv 4)) ==
            IntKind.i64.wrap (v_y.tdiv 4) &&
          (unitC (IntKind.i64.wrap (v_x.tdiv 4)) (IntKind.i64.wrap (v_y.tdiv 4)) (IntKind.i64.wrap (v_z.tdiv 4))
                (IntKind.i64.wrap (v_z.tdiv 4)) ==
              IntKind.i64.wrap (v_z.tdiv 4) &&
            true)))
      (Tr.leaf (AV.bool false true)) (Tr.leaf (AV.bool false false)))
    (Tr.leaf (AV.bool false false)))
  (Tr.node (!okU (IntKind.i64.wrap (v_x.tdiv 4)) (IntKind.i64.wrap (v_y.tdiv 4)) (IntKind.i64.wrap (v_z.tdiv 4)))
    (Tr.leaf (AV.bool false false))
    (Tr.node
      (!okU (IntKind.i64.wrap (0 - IntKind.i64.wrap (v_x.tdiv 4)))
          (IntKind.i64.wrap (0 - IntKind.i64.wrap (v_y.tdiv 4))) (IntKind.i64.wrap (0 - IntKind.i64.wrap (v_z.tdiv 4))))
      (Tr.leaf (AV.bool false false))
      (Tr.node
        (!okU (IntKind.i64.wrap (2 * IntKind.i64.wrap (v_x.tdiv 4)))
            (IntKind.i64.wrap (2 * IntKind.i64.wrap (v_y.tdiv 4)))
            (IntKind.i64.wrap (2 * IntKind.i64.wrap (v_z.tdiv 4))))
        (Tr.leaf (AV.bool false false))
        (Tr.node
          (!(unitC (IntKind.i64.wrap (0 - IntKind.i64.wrap (v_x.tdiv 4)))
                  (IntKind.i64.wrap (0 - IntKind.i64.wrap (v_y.tdiv 4)))
                  (IntKind.i64.wrap (0 - IntKind.i64.wrap (v_z.tdiv 4)))
                  (IntKind.i64.wrap (0 - IntKind.i64.wrap (v_x.tdiv 4))) ==
                IntKind.i64.wrap
                  (0 -
                    unitC (IntKind.i64.wrap (v_x.tdiv 4)) (IntKind.i64.wrap (v_y.tdiv 4))
                      (IntKind.i64.wrap (v_z.tdiv 4)) (IntKind.i64.wrap (v_x.tdiv 4))) &&
              (unitC (IntKind.i64.wrap (0 - IntKind.i64.wrap (v_x.tdiv 4)))
                    (IntKind.i64.wrap (0 - IntKind.i64.wrap (v_y.tdiv 4)))
                    (IntKind.i64.wrap (0 - IntKind.i64.wrap (v_z.tdiv 4)))
                    (IntKind.i64.wrap (0 - IntKind.i64.wrap (v_y.tdiv 4))) ==
                  IntKind.i64.wrap
                    (0 -
                      unitC (IntKind.i64.wrap (v_x.tdiv 4)) (IntKind.i64.wrap (v_y.tdiv 4))
                        (IntKind.i64.wrap (v_z.tdiv 4)) (IntKind.i64.wrap (v_y.tdiv 4))) &&
                (unitC (IntKind.i64.wrap (0 - IntKind.i64.wrap (v_x.tdiv 4)))
                      (IntKind.i64.wrap (0 - IntKind.i64.wrap (v_y.tdiv 4)))
                      (IntKind.i64.wrap (0 - IntKind.i64.wrap (v_z.tdiv 4)))
                      (IntKind.i64.wrap (0 - IntKind.i64.wrap (v_z.tdiv 4))) ==
                    IntKind.i64.wrap
                      (0 -
                        unitC (IntKind.i64.wrap (v_x.tdiv 4)) (IntKind.i64.wrap (v_y.tdiv 4))
                          (IntKind.i64.wrap (v_z.tdiv 4)) (IntKind.i64.wrap (v_z.tdiv 4))) &&
                  true))))
          (Tr.leaf (AV.bool false false))
          (Tr.node
            (!(unitC (IntKind.i64.wrap (2 * IntKind.i64.wrap (v_x.tdiv 4)))
                    (IntKind.i64.wrap (2 * IntKind.i64.wrap (v_y.tdiv 4)))
                    (IntKind.i64.wrap (2 * IntKind.i64.wrap (v_z.tdiv 4)))
                    (IntKind.i64.wrap (2 * IntKind.i64.wrap (v_x.tdiv 4))) ==
                  unitC (IntKind.i64.wrap (v_x.tdiv 4)) (IntKind.i64.wrap (v_y.tdiv 4)) (IntKind.i64.wrap (v_z.tdiv 4))
                    (IntKind.i64.wrap (v_x.tdiv 4)) &&
                (unitC (IntKind.i64.wrap (2 * IntKind.i64.wrap (v_x.tdiv 4)))
                      (IntKind.i64.wrap (2 * IntKind.i64.wrap (v_y.tdiv 4)))
                      (IntKind.i64.wrap (2 * IntKind.i64.wrap (v_z.tdiv 4)))
                      (IntKind.i64.wrap (2 * IntKind.i64.wrap (v_y.tdiv 4))) ==
                    unitC (IntKind.i64.wrap (v_x.tdiv 4)) (IntKind.i64.wrap (v_y.tdiv 4))
                      (IntKind.i64.wrap (v_z.tdiv 4)) (IntKind.i64.wrap (v_y.tdiv 4)) &&
                  (unitC (IntKind.i64.wrap (2 * IntKind.i64.wrap (v_x.tdiv 4)))
                        (IntKind.i64.wrap (2 * IntKind.i64.wrap (v_y.tdiv 4)))
                        (IntKind.i64.wrap (2 * IntKind.i64.wrap (v_z.tdiv 4)))
                        (IntKind.i64.wrap (2 * IntKind.i64.wrap (v_z.tdiv 4))) ==
                      unitC (IntKind.i64.wrap (v_x.tdiv 4)) (IntKind.i64.wrap (v_y.tdiv 4))
                        (IntKind.i64.wrap (v_z.tdiv 4)) (IntKind.i64.wrap (v_z.tdiv 4)) &&
                    true))))
            (Tr.leaf (AV.bool false false))
            (Tr.node
              (decide
                (IntKind.i64.wrap
                    (IntKind.i64.wrap
                        (IntKind.i64.wrap
                            (unitC (IntKind.i64.wrap (v_x.tdiv 4)) (IntKind.i64.wrap (v_y.tdiv 4))
                                (IntKind.i64.wrap (v_z.tdiv 4)) (IntKind.i64.wrap (v_x.tdiv 4)) *
                              unitC (IntKind.i64.wrap (v_x.tdiv 4)) (IntKind.i64.wrap (v_y.tdiv 4))
                                (IntKind.i64.wrap (v_z.tdiv 4)) (IntKind.i64.wrap (v_x.tdiv 4))) +
                          IntKind.i64.wrap
                            (unitC (IntKind.i64.wrap (v_x.tdiv 4)) (IntKind.i64.wrap (v_y.tdiv 4))
                                (IntKind.i64.wrap (v_z.tdiv 4)) (IntKind.i64.wrap (v_y.tdiv 4)) *
                              unitC (IntKind.i64.wrap (v_x.tdiv 4)) (IntKind.i64.wrap (v_y.tdiv 4))
                                (IntKind.i64.wrap (v_z.tdiv 4)) (IntKind.i64.wrap (v_y.tdiv 4)))) +
                      IntKind.i64.wrap
                        (unitC (IntKind.i64.wrap (v_x.tdiv 4)) (IntKind.i64.wrap (v_y.tdiv 4))
                            (IntKind.i64.wrap (v_z.tdiv 4)) (IntKind.i64.wrap (v_z.tdiv 4)) *
                          unitC (IntKind.i64.wrap (v_x.tdiv 4)) (IntKind.i64.wrap (v_y.tdiv 4))
                            (IntKind.i64.wrap (v_z.tdiv 4)) (IntKind.i64.wrap (v_z.tdiv 4)))) ≥
                  268369924))
              (Tr.node
                (decide
                  (IntKind.i64.wrap
                      (IntKind.i64.wrap
                          (IntKind.i64.wrap
                              (unitC (IntKind.i64.wrap (v_x.tdiv 4)) (IntKind.i64.wrap (v_y.tdiv 4))
                                  (IntKind.i64.wrap (v_z.tdiv 4)) (IntKind.i64.wrap (v_x.tdiv 4)) *
                                unitC (IntKind.i64.wrap (v_x.tdiv 4)) (IntKind.i64.wrap (v_y.tdiv 4))
                                  (IntKind.i64.wrap (v_z.tdiv 4)) (IntKind.i64.wrap (v_x.tdiv 4))) +
                            IntKind.i64.wrap
                              (unitC (IntKind.i64.wrap (v_x.tdiv 4)) (IntKind.i64.wrap (v_y.tdiv 4))
                                  (IntKind.i64.wrap (v_z.tdiv 4)) (IntKind.i64.wrap (v_y.tdiv 4)) *
                                unitC (IntKind.i64.wrap (v_x.tdiv 4)) (IntKind.i64.wrap (v_y.tdiv 4))
                                  (IntKind.i64.wrap (v_z.tdiv 4)) (IntKind.i64.wrap (v_y.tdiv 4)))) +
                        IntKind.i64.wrap
                          (unitC (IntKind.i64.wrap (v_x.tdiv 4)) (IntKind.i64.wrap (v_y.tdiv 4))
                              (IntKind.i64.wrap (v_z.tdiv 4)) (IntKind.i64.wrap (v_z.tdiv 4)) *
                            unitC (IntKind.i64.wrap (v_x.tdiv 4)) (IntKind.i64.wrap (v_y.tdiv 4))
                              (IntKind.i64.wrap (v_z.tdiv 4)) (IntKind.i64.wrap (v_z.tdiv 4)))) ≤
                    268468225))
                (Tr.node
                  (decide
                    (isq
                        (dotN
                          (unitC (IntKind.i64.wrap (v_x.tdiv 4)) (IntKind.i64.wrap (v_y.tdiv 4))
                            (IntKind.i64.wrap (v_z.tdiv 4)) (IntKind.i64.wrap (v_x.tdiv 4)))
                          (unitC (IntKind.i64.wrap (v_x.tdiv 4)) (IntKind.i64.wrap (v_y.tdiv 4))
                            (IntKind.i64.wrap (v_z.tdiv 4)) (IntKind.i64.wrap (v_y.tdiv 4)))
                          (unitC (IntKind.i64.wrap (v_x.tdiv 4)) (IntKind.i64.wrap (v_y.tdiv 4))
                            (IntKind.i64.wrap (v_z.tdiv 4)) (IntKind.i64.wrap (v_z.tdiv 4)))
                          (unitC (IntKind.i64.wrap (v_x.tdiv 4)) (IntKind.i64.wrap (v_y.tdiv 4))
                            (IntKind.i64.wrap (v_z.tdiv 4)) (IntKind.i64.wrap (v_x.tdiv 4)))
                          (unitC (IntKind.i64.wrap (v_x.tdiv 4)) (IntKind.i64.wrap (v_y.tdiv 4))
                            (IntKind.i64.wrap (v_z.tdiv 4)) (IntKind.i64.wrap (v_y.tdiv 4)))
                          (unitC (IntKind.i64.wrap (v_x.tdiv 4)) (IntKind.i64.wrap (v_y.tdiv 4))
                            (IntKind.i64.wrap (v_z.tdiv 4)) (IntKind.i64.wrap (v_z.tdiv 4)))) ≥
                      16382))
                  (Tr.leaf (AV.bool false true)) (Tr.leaf (AV.bool false false)))
                (Tr.leaf (AV.bool false false)))
              (Tr.leaf (AV.bool false false))))))))
theorem run_skylightlaw06_VecUnit (v_x : Int) (v_y : Int) (v_z : Int) (h_v_x : InR .i64 v_x) (h_v_y : InR .i64 v_y) (h_v_z : InR .i64 v_z) : (tr_skylightlaw06_VecUnit v_x v_y v_z).run = some (bb true) := by
  unfold tr_skylightlaw06_VecUnit
  have hx := inR_i64.1 h_v_x
  have hy := inR_i64.1 h_v_y
  have hz := inR_i64.1 h_v_z
  have fx := tdiv_facts (A := v_x) (l := 4) (by omega)
  have fy := tdiv_facts (A := v_y) (l := 4) (by omega)
  have fz := tdiv_facts (A := v_z) (l := 4) (by omega)
  generalize v_x.tdiv 4 = a at fx ⊢
  generalize v_y.tdiv 4 = b at fy ⊢
  generalize v_z.tdiv 4 = c at fz ⊢
  have ra : -2305843009213693952 ≤ a ∧ a ≤ 2305843009213693952 := by omega
  have rb : -2305843009213693952 ≤ b ∧ b ≤ 2305843009213693952 := by omega
  have rc : -2305843009213693952 ≤ c ∧ c ≤ 2305843009213693952 := by omega
  clear fx fy fz hx hy hz
  rw [wrap_i64_id (n := a) (by omega), wrap_i64_id (n := b) (by omega), wrap_i64_id (n := c) (by omega)]
  rw [wrap_i64_id (n := 0 - a) (by omega), wrap_i64_id (n := 0 - b) (by omega), wrap_i64_id (n := 0 - c) (by omega), wrap_i64_id (n := 2 * a) (by omega), wrap_i64_id (n := 2 * b) (by omega), wrap_i64_id (n := 2 * c) (by omega)]
  rw [Int.zero_sub, Int.zero_sub, Int.zero_sub]
  by_cases h0 : a = 0 ∧ b = 0 ∧ c = 0
  · obtain ⟨rfl, rfl, rfl⟩ := h0
    rfl
  · have hM : 1 ≤ mostI a b c ∧ mostI a b c ≤ 2305843009213693952 := by unfold mostI; simp only [max_r, sat]; omega
    obtain ⟨dx, d2, ok⟩ := unitC_double hM.1 hM.2 a
    have dy := (unitC_double hM.1 hM.2 b).1
    have dz := (unitC_double hM.1 hM.2 c).1
    obtain ⟨u1, u2, ux, uy, uz⟩ := unitC_r ok
    have on := okU_neg ok
    rw [unitC_neg ok, unitC_neg ok, unitC_neg ok, dx, dy, dz, ok, on, d2]
    generalize unitC a b c a = u at *
    generalize unitC a b c b = v at *
    generalize unitC a b c c = w at *
    rw [wrap_i64_id (n := 0 - u) (by omega), wrap_i64_id (n := 0 - v) (by omega), wrap_i64_id (n := 0 - w) (by omega), Int.zero_sub, Int.zero_sub, Int.zero_sub]
    have su := sq_nonneg u; have sv := sq_nonneg v; have sw := sq_nonneg w
    have e1 : IntKind.i64.wrap (IntKind.i64.wrap (IntKind.i64.wrap (u * u) + IntKind.i64.wrap (v * v)) + IntKind.i64.wrap (w * w)) = u * u + v * v + w * w := by
      rw [wrap_i64_id (n := u * u) (by omega), wrap_i64_id (n := v * v) (by omega), wrap_i64_id (n := w * w) (by omega), wrap_i64_id (n := u * u + v * v) (by omega), wrap_i64_id (n := u * u + v * v + w * w) (by omega)]
    rw [e1]
    have near : nearB u v w = true := decide_eq_true (by omega)
    have ed : dotN u v w u v w = u * u + v * v + w * w := dotN_eq near near
    rw [ed]
    generalize u * u + v * v + w * w = n at *
    have el : 16382 ≤ isq n := by
      obtain ⟨s0, s1, s2, s3⟩ := isq_spec (n := n) (by omega) (by omega)
      have := sq_lt (a := 16382) (b := isq n + 1) (by omega) (by omega) (by omega)
      omega
    have c0 : (a == 0 && (b == 0 && (c == 0 && true))) = false := by
      simp only [Bool.and_true, Bool.and_eq_false_iff, beq_eq_false_iff_ne]; omega
    exact (run_f c0).trans ((run_f rfl).trans ((run_f rfl).trans ((run_f rfl).trans ((run_f (by simp)).trans ((run_f (by simp)).trans ((run_t (decide_eq_true (by omega))).trans ((run_t (decide_eq_true (by omega))).trans (run_t (decide_eq_true (by omega))))))))))

end Go.Sky
