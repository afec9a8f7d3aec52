/- Trees of functions, and what they come to. -/
import Derived.Test.YtpljpbmkklcbkaaGreatQ1ba4ca1c
set_option linter.unusedSimpArgs false
set_option linter.unusedVariables false
namespace Go.Sky
set_option maxRecDepth 100000

/-! (vec.triple).most -/
def tr_vec_triple_most (v_x : Int) (v_y : Int) (v_z : Int) : Tr AV := Tr.leaf (AV.int IntKind.i64 false (mm true (mm true (mm true (mm true (mm true (mm true 0 v_x) (sat (v_x * -1))) v_y) (sat (v_y * -1))) v_z) (sat (v_z * -1))))
theorem run_vec_triple_most (v_x : Int) (v_y : Int) (v_z : Int) (h_v_x : InR .i64 v_x) (h_v_y : InR .i64 v_y) (h_v_z : InR .i64 v_z) : (tr_vec_triple_most v_x v_y v_z).run = some (i6 (mostI v_x v_y v_z)) := by
  unfold tr_vec_triple_most
  rfl

/-! vec.Len -/
def tr_vec_Len (v_x : Int) (v_y : Int) (v_z : Int) : Tr AV := Tr.leaf (AV.int IntKind.i64 false (isq (IntKind.u64.wrap (dotN v_x v_y v_z v_x v_y v_z))))
theorem run_vec_Len (v_x : Int) (v_y : Int) (v_z : Int) (h_v_x : InR .i64 v_x) (h_v_y : InR .i64 v_y) (h_v_z : InR .i64 v_z) : (tr_vec_Len v_x v_y v_z).run = some (i6 (isq (dotN v_x v_y v_z v_x v_y v_z))) := by
  unfold tr_vec_Len
  simp only [Tr.run, i6]
  have h := dotN_self v_x v_y v_z
  rw [wrap_u64_id (by omega)]

/-! vec.Unit, block 0 -/
def st_vec_Unit_0 (m : Int) (p_x : Int) (p_y : Int) (p_z : Int) (q_x : Int) (q_y : Int) (q_z : Int) (t_x : Int) (t_y : Int) (t_z : Int) (x0 x1 x2 x3 x6 x7 x8 x9 x10 x11 x12 x13 x14 x15 x16 x17 x18 x19 x20 x21 x22 x23 x24 x25 x26 x27 x28 x29 x30 x31 x32 x33 x34 x35 : AV) : St := ⟨[x0, x1, x2, x3, .ptr (some (2, 0)), .int .i64 false m, x6, x7, x8, x9, x10, x11, x12, x13, x14, x15, x16, x17, x18, x19, x20, x21, x22, x23, x24, x25, x26, x27, x28, x29, x30, x31, x32, x33, x34, x35], [[.int .i64 false p_x, .int .i64 false p_y, .int .i64 false p_z], [.int .i64 false q_x, .int .i64 false q_y, .int .i64 false q_z], [.int .i64 false t_x, .int .i64 false t_y, .int .i64 false t_z]]⟩
def kl_vec_Unit_0 (m : Int) (p_x : Int) (p_y : Int) (p_z : Int) (q_x : Int) (q_y : Int) (q_z : Int) (t_x : Int) (t_y : Int) (t_z : Int) (x0 x1 x2 x3 x6 x7 x8 x9 x10 x11 x12 x13 x14 x15 x16 x17 x18 x19 x20 x21 x22 x23 x24 x25 x26 x27 x28 x29 x30 x31 x32 x33 x34 x35 : AV) : List AV := [untag x0, untag x1, untag x2, untag x3, untag (.ptr (some (2, 0))), .undef, untag x6, untag x7, untag x8, untag x9, untag x10, untag x11, untag x12, untag x13, untag x14, untag x15, untag x16, untag x17, .undef, .undef, .undef, .undef, .undef, .undef, untag x24, untag x25, untag x26, untag x27, untag x28, untag x29, untag x30, untag x31, untag x32, untag x33, untag x34, untag x35]
def sl_vec_Unit_0_0 (m : Int) (p_x : Int) (p_y : Int) (p_z : Int) (q_x : Int) (q_y : Int) (q_z : Int) (t_x : Int) (t_y : Int) (t_z : Int) (x0 x1 x2 x3 x6 x7 x8 x9 x10 x11 x12 x13 x14 x15 x16 x17 x18 x19 x20 x21 x22 x23 x24 x25 x26 x27 x28 x29 x30 x31 x32 x33 x34 x35 : AV) : St := ⟨[x0, x1, x2, x3, AV.ptr (some (2, 0)), AV.int IntKind.i64 false (IntKind.i64.wrap (m * 2)), x6, x7, x8, x9, x10, x11, x12, x13, x14, x15, x16, x17, AV.int IntKind.i64 false m, AV.bool false (decide (m < 524288)), AV.int IntKind.i64 false m, AV.int IntKind.i64 false (IntKind.i64.wrap (m * 2)), AV.agg [AV.int IntKind.i64 false t_x, AV.int IntKind.i64 false t_y, AV.int IntKind.i64 false t_z], AV.agg [AV.int IntKind.i64 false (IntKind.i64.wrap (2 * t_x)), AV.int IntKind.i64 false (IntKind.i64.wrap (2 * t_y)), AV.int IntKind.i64 false (IntKind.i64.wrap (2 * t_z))], x24, x25, x26, x27, x28, x29, x30, x31, x32, x33, x34, x35], [[AV.int IntKind.i64 false p_x, AV.int IntKind.i64 false p_y, AV.int IntKind.i64 false p_z], [AV.int IntKind.i64 false q_x, AV.int IntKind.i64 false q_y, AV.int IntKind.i64 false q_z], [AV.int IntKind.i64 false (IntKind.i64.wrap (2 * t_x)), AV.int IntKind.i64 false (IntKind.i64.wrap (2 * t_y)), AV.int IntKind.i64 false (IntKind.i64.wrap (2 * t_z))]]⟩
def sl_vec_Unit_0_1 (m : Int) (p_x : Int) (p_y : Int) (p_z : Int) (q_x : Int) (q_y : Int) (q_z : Int) (t_x : Int) (t_y : Int) (t_z : Int) (x0 x1 x2 x3 x6 x7 x8 x9 x10 x11 x12 x13 x14 x15 x16 x17 x18 x19 x20 x21 x22 x23 x24 x25 x26 x27 x28 x29 x30 x31 x32 x33 x34 x35 : AV) : St := ⟨[x0, x1, x2, x3, AV.ptr (some (2, 0)), AV.int IntKind.i64 false m, x6, x7, x8, x9, x10, x11, x12, x13, x14, x15, x16, x17, AV.int IntKind.i64 false m, AV.bool false (decide (m < 524288)), x20, x21, x22, x23, x24, x25, x26, x27, x28, x29, x30, x31, x32, x33, x34, x35], [[AV.int IntKind.i64 false p_x, AV.int IntKind.i64 false p_y, AV.int IntKind.i64 false p_z], [AV.int IntKind.i64 false q_x, AV.int IntKind.i64 false q_y, AV.int IntKind.i64 false q_z], [AV.int IntKind.i64 false t_x, AV.int IntKind.i64 false t_y, AV.int IntKind.i64 false t_z]]⟩
def rd_vec_Unit_0 (m : Int) (p_x : Int) (p_y : Int) (p_z : Int) (q_x : Int) (q_y : Int) (q_z : Int) (t_x : Int) (t_y : Int) (t_z : Int) (x0 x1 x2 x3 x6 x7 x8 x9 x10 x11 x12 x13 x14 x15 x16 x17 x18 x19 x20 x21 x22 x23 x24 x25 x26 x27 x28 x29 x30 x31 x32 x33 x34 x35 : AV) : Tr (Ex × St) := Tr.node (decide (m < 524288)) (Tr.leaf (Ex.normal, sl_vec_Unit_0_0 m p_x p_y p_z q_x q_y q_z t_x t_y t_z x0 x1 x2 x3 x6 x7 x8 x9 x10 x11 x12 x13 x14 x15 x16 x17 x18 x19 x20 x21 x22 x23 x24 x25 x26 x27 x28 x29 x30 x31 x32 x33 x34 x35)) (Tr.leaf (Ex.exit 0, sl_vec_Unit_0_1 m p_x p_y p_z q_x q_y q_z t_x t_y t_z x0 x1 x2 x3 x6 x7 x8 x9 x10 x11 x12 x13 x14 x15 x16 x17 x18 x19 x20 x21 x22 x23 x24 x25 x26 x27 x28 x29 x30 x31 x32 x33 x34 x35))
def g_vec_Unit_0 : PieceTold := fun l h => match l, h with | [.ptr (some (2, 0)), .int .i64 false m], [[.int .i64 false p_x, .int .i64 false p_y, .int .i64 false p_z], [.int .i64 false q_x, .int .i64 false q_y, .int .i64 false q_z], [.int .i64 false t_x, .int .i64 false t_y, .int .i64 false t_z]] => .node (decide (1 ≤ m ∧ m ≤ 4611686018427387904 ∧ (-m ≤ t_x ∧ t_x ≤ m) ∧ (-m ≤ t_y ∧ t_y ≤ m) ∧ (-m ≤ t_z ∧ t_z ≤ m))) (.leaf (.normal, [], [[.int .i64 false p_x, .int .i64 false p_y, .int .i64 false p_z], [.int .i64 false q_x, .int .i64 false q_y, .int .i64 false q_z], [i6 (upS 20 t_x m), i6 (upS 20 t_y m), i6 (upS 20 t_z m)]])) .bad | _, _ => .bad
def HR_vec_Unit_0 (rnd : Nat → St → Tr (Ex × St)) : Prop := ∀ L (m : Int) (p_x : Int) (p_y : Int) (p_z : Int) (q_x : Int) (q_y : Int) (q_z : Int) (t_x : Int) (t_y : Int) (t_z : Int) (x0 x1 x2 x3 x6 x7 x8 x9 x10 x11 x12 x13 x14 x15 x16 x17 x18 x19 x20 x21 x22 x23 x24 x25 x26 x27 x28 x29 x30 x31 x32 x33 x34 x35 : AV), rnd L (st_vec_Unit_0 m p_x p_y p_z q_x q_y q_z t_x t_y t_z x0 x1 x2 x3 x6 x7 x8 x9 x10 x11 x12 x13 x14 x15 x16 x17 x18 x19 x20 x21 x22 x23 x24 x25 x26 x27 x28 x29 x30 x31 x32 x33 x34 x35) = rd_vec_Unit_0 m p_x p_y p_z q_x q_y q_z t_x t_y t_z x0 x1 x2 x3 x6 x7 x8 x9 x10 x11 x12 x13 x14 x15 x16 x17 x18 x19 x20 x21 x22 x23 x24 x25 x26 x27 x28 x29 x30 x31 x32 x33 x34 x35
/-- From here the loop ends so. -/
def Fin_vec_Unit_0 (rnd : Nat → St → Tr (Ex × St)) (m : Int) (p_x : Int) (p_y : Int) (p_z : Int) (q_x : Int) (q_y : Int) (q_z : Int) (t_x : Int) (t_y : Int) (t_z : Int) (e : Ex) (outs : List (Nat × AV)) (hp : AH → AH) : Prop := ∀ (x0 x1 x2 x3 x6 x7 x8 x9 x10 x11 x12 x13 x14 x15 x16 x17 x18 x19 x20 x21 x22 x23 x24 x25 x26 x27 x28 x29 x30 x31 x32 x33 x34 x35 : AV),
    ∃ N s', (∀ L, (loopIterG none (rnd L) (N + 1) (st_vec_Unit_0 m p_x p_y p_z q_x q_y q_z t_x t_y t_z x0 x1 x2 x3 x6 x7 x8 x9 x10 x11 x12 x13 x14 x15 x16 x17 x18 x19 x20 x21 x22 x23 x24 x25 x26 x27 x28 x29 x30 x31 x32 x33 x34 x35)).run = some (e, s')) ∧ Leaves none 36 [5, 18, 19, 20, 21, 22, 23] (st_vec_Unit_0 m p_x p_y p_z q_x q_y q_z t_x t_y t_z x0 x1 x2 x3 x6 x7 x8 x9 x10 x11 x12 x13 x14 x15 x16 x17 x18 x19 x20 x21 x22 x23 x24 x25 x26 x27 x28 x29 x30 x31 x32 x33 x34 x35).tmps outs (hp ([[.int .i64 false p_x, .int .i64 false p_y, .int .i64 false p_z], [.int .i64 false q_x, .int .i64 false q_y, .int .i64 false q_z], [.int .i64 false t_x, .int .i64 false t_y, .int .i64 false t_z]])) s'
theorem step_vec_Unit_0_0 {rnd : Nat → St → Tr (Ex × St)} (hr : HR_vec_Unit_0 rnd) (m : Int) (p_x : Int) (p_y : Int) (p_z : Int) (q_x : Int) (q_y : Int) (q_z : Int) (t_x : Int) (t_y : Int) (t_z : Int) (c0 : (decide (m < 524288)) = true) {e : Ex} {outs : List (Nat × AV)} {hp : AH → AH} (hh : hp ([[AV.int IntKind.i64 false p_x, AV.int IntKind.i64 false p_y, AV.int IntKind.i64 false p_z], [AV.int IntKind.i64 false q_x, AV.int IntKind.i64 false q_y, AV.int IntKind.i64 false q_z], [AV.int IntKind.i64 false (IntKind.i64.wrap (2 * t_x)), AV.int IntKind.i64 false (IntKind.i64.wrap (2 * t_y)), AV.int IntKind.i64 false (IntKind.i64.wrap (2 * t_z))]]) = hp ([[.int .i64 false p_x, .int .i64 false p_y, .int .i64 false p_z], [.int .i64 false q_x, .int .i64 false q_y, .int .i64 false q_z], [.int .i64 false t_x, .int .i64 false t_y, .int .i64 false t_z]])) (hn : Fin_vec_Unit_0 rnd ((IntKind.i64.wrap (m * 2))) (p_x) (p_y) (p_z) (q_x) (q_y) (q_z) ((IntKind.i64.wrap (2 * t_x))) ((IntKind.i64.wrap (2 * t_y))) ((IntKind.i64.wrap (2 * t_z))) e outs hp) : Fin_vec_Unit_0 rnd m p_x p_y p_z q_x q_y q_z t_x t_y t_z e outs hp := by
  intro x0 x1 x2 x3 x6 x7 x8 x9 x10 x11 x12 x13 x14 x15 x16 x17 x18 x19 x20 x21 x22 x23 x24 x25 x26 x27 x28 x29 x30 x31 x32 x33 x34 x35
  obtain ⟨N, s', h1, h2⟩ := hn (x0) (x1) (x2) (x3) (x6) (x7) (x8) (x9) (x10) (x11) (x12) (x13) (x14) (x15) (x16) (x17) (AV.int IntKind.i64 false m) (AV.bool false (decide (m < 524288))) (AV.int IntKind.i64 false m) (AV.int IntKind.i64 false (IntKind.i64.wrap (m * 2))) (AV.agg [AV.int IntKind.i64 false t_x, AV.int IntKind.i64 false t_y, AV.int IntKind.i64 false t_z]) (AV.agg [AV.int IntKind.i64 false (IntKind.i64.wrap (2 * t_x)), AV.int IntKind.i64 false (IntKind.i64.wrap (2 * t_y)), AV.int IntKind.i64 false (IntKind.i64.wrap (2 * t_z))]) (x24) (x25) (x26) (x27) (x28) (x29) (x30) (x31) (x32) (x33) (x34) (x35)
  refine ⟨N + 1, s', fun L => ?_, hh ▸ h2.of (s1 := sl_vec_Unit_0_0 m p_x p_y p_z q_x q_y q_z t_x t_y t_z x0 x1 x2 x3 x6 x7 x8 x9 x10 x11 x12 x13 x14 x15 x16 x17 x18 x19 x20 x21 x22 x23 x24 x25 x26 x27 x28 x29 x30 x31 x32 x33 x34 x35) rfl ((show _ = kl_vec_Unit_0 m p_x p_y p_z q_x q_y q_z t_x t_y t_z x0 x1 x2 x3 x6 x7 x8 x9 x10 x11 x12 x13 x14 x15 x16 x17 x18 x19 x20 x21 x22 x23 x24 x25 x26 x27 x28 x29 x30 x31 x32 x33 x34 x35 from rfl).trans (show kl_vec_Unit_0 m p_x p_y p_z q_x q_y q_z t_x t_y t_z x0 x1 x2 x3 x6 x7 x8 x9 x10 x11 x12 x13 x14 x15 x16 x17 x18 x19 x20 x21 x22 x23 x24 x25 x26 x27 x28 x29 x30 x31 x32 x33 x34 x35 = _ from rfl))⟩
  rw [loopIterG, hr L m p_x p_y p_z q_x q_y q_z t_x t_y t_z x0 x1 x2 x3 x6 x7 x8 x9 x10 x11 x12 x13 x14 x15 x16 x17 x18 x19 x20 x21 x22 x23 x24 x25 x26 x27 x28 x29 x30 x31 x32 x33 x34 x35, Tr.run_bind, show (rd_vec_Unit_0 m p_x p_y p_z q_x q_y q_z t_x t_y t_z x0 x1 x2 x3 x6 x7 x8 x9 x10 x11 x12 x13 x14 x15 x16 x17 x18 x19 x20 x21 x22 x23 x24 x25 x26 x27 x28 x29 x30 x31 x32 x33 x34 x35).run = some (.normal, sl_vec_Unit_0_0 m p_x p_y p_z q_x q_y q_z t_x t_y t_z x0 x1 x2 x3 x6 x7 x8 x9 x10 x11 x12 x13 x14 x15 x16 x17 x18 x19 x20 x21 x22 x23 x24 x25 x26 x27 x28 x29 x30 x31 x32 x33 x34 x35) from (run_t c0).trans (rfl)]
  exact h1 L
theorem stop_vec_Unit_0_1 {rnd : Nat → St → Tr (Ex × St)} (hr : HR_vec_Unit_0 rnd) (m : Int) (p_x : Int) (p_y : Int) (p_z : Int) (q_x : Int) (q_y : Int) (q_z : Int) (t_x : Int) (t_y : Int) (t_z : Int) (c0 : (decide (m < 524288)) = false) {outs : List (Nat × AV)} {hp : AH → AH} (ho : ∀ (x0 x1 x2 x3 x6 x7 x8 x9 x10 x11 x12 x13 x14 x15 x16 x17 x18 x19 x20 x21 x22 x23 x24 x25 x26 x27 x28 x29 x30 x31 x32 x33 x34 x35 : AV), outs.map (fun p => untag ((sl_vec_Unit_0_1 m p_x p_y p_z q_x q_y q_z t_x t_y t_z x0 x1 x2 x3 x6 x7 x8 x9 x10 x11 x12 x13 x14 x15 x16 x17 x18 x19 x20 x21 x22 x23 x24 x25 x26 x27 x28 x29 x30 x31 x32 x33 x34 x35).tmps.getD p.1 .undef)) = outs.map (fun p => untag p.2)) (hh : ∀ h : AH, ([[AV.int IntKind.i64 false p_x, AV.int IntKind.i64 false p_y, AV.int IntKind.i64 false p_z], [AV.int IntKind.i64 false q_x, AV.int IntKind.i64 false q_y, AV.int IntKind.i64 false q_z], [AV.int IntKind.i64 false t_x, AV.int IntKind.i64 false t_y, AV.int IntKind.i64 false t_z]]).map untagL = (hp ([[.int .i64 false p_x, .int .i64 false p_y, .int .i64 false p_z], [.int .i64 false q_x, .int .i64 false q_y, .int .i64 false q_z], [.int .i64 false t_x, .int .i64 false t_y, .int .i64 false t_z]])).map untagL) : Fin_vec_Unit_0 rnd m p_x p_y p_z q_x q_y q_z t_x t_y t_z (.exit 0) outs hp := by
  intro x0 x1 x2 x3 x6 x7 x8 x9 x10 x11 x12 x13 x14 x15 x16 x17 x18 x19 x20 x21 x22 x23 x24 x25 x26 x27 x28 x29 x30 x31 x32 x33 x34 x35
  refine ⟨0, gcSt none (sl_vec_Unit_0_1 m p_x p_y p_z q_x q_y q_z t_x t_y t_z x0 x1 x2 x3 x6 x7 x8 x9 x10 x11 x12 x13 x14 x15 x16 x17 x18 x19 x20 x21 x22 x23 x24 x25 x26 x27 x28 x29 x30 x31 x32 x33 x34 x35), fun L => ?_, Leaves.stop (s1 := sl_vec_Unit_0_1 m p_x p_y p_z q_x q_y q_z t_x t_y t_z x0 x1 x2 x3 x6 x7 x8 x9 x10 x11 x12 x13 x14 x15 x16 x17 x18 x19 x20 x21 x22 x23 x24 x25 x26 x27 x28 x29 x30 x31 x32 x33 x34 x35) (hh []) rfl (ho x0 x1 x2 x3 x6 x7 x8 x9 x10 x11 x12 x13 x14 x15 x16 x17 x18 x19 x20 x21 x22 x23 x24 x25 x26 x27 x28 x29 x30 x31 x32 x33 x34 x35) ((show _ = kl_vec_Unit_0 m p_x p_y p_z q_x q_y q_z t_x t_y t_z x0 x1 x2 x3 x6 x7 x8 x9 x10 x11 x12 x13 x14 x15 x16 x17 x18 x19 x20 x21 x22 x23 x24 x25 x26 x27 x28 x29 x30 x31 x32 x33 x34 x35 from rfl).trans (show kl_vec_Unit_0 m p_x p_y p_z q_x q_y q_z t_x t_y t_z x0 x1 x2 x3 x6 x7 x8 x9 x10 x11 x12 x13 x14 x15 x16 x17 x18 x19 x20 x21 x22 x23 x24 x25 x26 x27 x28 x29 x30 x31 x32 x33 x34 x35 = _ from rfl))⟩
  rw [loopIterG, hr L m p_x p_y p_z q_x q_y q_z t_x t_y t_z x0 x1 x2 x3 x6 x7 x8 x9 x10 x11 x12 x13 x14 x15 x16 x17 x18 x19 x20 x21 x22 x23 x24 x25 x26 x27 x28 x29 x30 x31 x32 x33 x34 x35, Tr.run_bind, show (rd_vec_Unit_0 m p_x p_y p_z q_x q_y q_z t_x t_y t_z x0 x1 x2 x3 x6 x7 x8 x9 x10 x11 x12 x13 x14 x15 x16 x17 x18 x19 x20 x21 x22 x23 x24 x25 x26 x27 x28 x29 x30 x31 x32 x33 x34 x35).run = some (.exit 0, sl_vec_Unit_0_1 m p_x p_y p_z q_x q_y q_z t_x t_y t_z x0 x1 x2 x3 x6 x7 x8 x9 x10 x11 x12 x13 x14 x15 x16 x17 x18 x19 x20 x21 x22 x23 x24 x25 x26 x27 x28 x29 x30 x31 x32 x33 x34 x35) from (run_f c0).trans (rfl)]
  rfl
theorem core_vec_Unit_0 (rnd : Nat → St → Tr (Ex × St)) (hr : HR_vec_Unit_0 rnd) : ∀ (m : Int) (p_x : Int) (p_y : Int) (p_z : Int) (q_x : Int) (q_y : Int) (q_z : Int) (t_x : Int) (t_y : Int) (t_z : Int), 1 ≤ m ∧ m ≤ 4611686018427387904 ∧ (-m ≤ t_x ∧ t_x ≤ m) ∧ (-m ≤ t_y ∧ t_y ≤ m) ∧ (-m ≤ t_z ∧ t_z ≤ m) → Fin_vec_Unit_0 rnd m p_x p_y p_z q_x q_y q_z t_x t_y t_z (.exit 0) [] (fun _ => [[.int .i64 false p_x, .int .i64 false p_y, .int .i64 false p_z], [.int .i64 false q_x, .int .i64 false q_y, .int .i64 false q_z], [i6 (upS 20 t_x m), i6 (upS 20 t_y m), i6 (upS 20 t_z m)]]) := by
  have key : ∀ (k : Nat) (m p_x p_y p_z q_x q_y q_z t_x t_y t_z : Int), (1 ≤ m ∧ m ≤ 4611686018427387904 ∧ (-m ≤ t_x ∧ t_x ≤ m) ∧ (-m ≤ t_y ∧ t_y ≤ m) ∧ (-m ≤ t_z ∧ t_z ≤ m)) ∧ 524288 ≤ m * 2 ^ k →
      Fin_vec_Unit_0 rnd m p_x p_y p_z q_x q_y q_z t_x t_y t_z (.exit 0) [] (fun _ => [[.int .i64 false p_x, .int .i64 false p_y, .int .i64 false p_z], [.int .i64 false q_x, .int .i64 false q_y, .int .i64 false q_z], [i6 (upS k t_x m), i6 (upS k t_y m), i6 (upS k t_z m)]]) := by
    intro k
    induction k with
    | zero =>
      intro m p_x p_y p_z q_x q_y q_z t_x t_y t_z ⟨⟨h1, h2, hx, hy, hz⟩, hk⟩
      exact stop_vec_Unit_0_1 hr m p_x p_y p_z q_x q_y q_z t_x t_y t_z (decide_eq_false (by omega)) (by intros; rfl) (fun h => rfl)
    | succ k ih =>
      intro m p_x p_y p_z q_x q_y q_z t_x t_y t_z ⟨⟨h1, h2, hx, hy, hz⟩, hk⟩
      by_cases hc : m < 524288
      · refine step_vec_Unit_0_0 hr m p_x p_y p_z q_x q_y q_z t_x t_y t_z (decide_eq_true hc) rfl ?_
        rw [wrap_i64_id (n := m * 2) (by omega), wrap_i64_id (n := 2 * t_x) (by omega), wrap_i64_id (n := 2 * t_y) (by omega), wrap_i64_id (n := 2 * t_z) (by omega), Int.mul_comm m 2]
        simp only [upS, if_pos hc]
        refine ih (2 * m) p_x p_y p_z q_x q_y q_z (2 * t_x) (2 * t_y) (2 * t_z) ⟨⟨by omega, by omega, by omega, by omega, by omega⟩, ?_⟩
        have : m * 2 ^ (k + 1) = 2 * m * 2 ^ k := by rw [Int.pow_succ]; grind
        omega
      · refine stop_vec_Unit_0_1 hr m p_x p_y p_z q_x q_y q_z t_x t_y t_z (decide_eq_false hc) (by intros; rfl) (fun h => ?_)
        simp only [upS, if_neg hc]; rfl
  exact fun m p_x p_y p_z q_x q_y q_z t_x t_y t_z hc => key 20 m p_x p_y p_z q_x q_y q_z t_x t_y t_z ⟨hc, by omega⟩
theorem piece_vec_Unit_0 {P : Program} {T : Table} {O' : Known} {f : FuncId} (hb : blockOf P f 0 = .loop (loopOf P f 0)) (hid : O' 0 = none)
    (hr : HR_vec_Unit_0 (fun L => evCode P (evCall P T 16 6) L O' (loopOf P f 0))) :
    ∀ (s : St) (e : Ex) (outs : List (Nat × AV)) (hp : AH), s.tmps.length = 36 → (g_vec_Unit_0 (([4, 5] : List Nat).map fun j => untag (s.tmps.getD j .undef)) (s.heap.map untagL)).run = some (e, outs, hp) → ∃ s', Good P T O' f 0 36 [5, 18, 19, 20, 21, 22, 23] s e outs hp s' := by
  intro s e outs hp hk hg
  obtain ⟨tm, h⟩ := s
  have htm : untagL tm = [untag (tm.getD 0 .undef), untag (tm.getD 1 .undef), untag (tm.getD 2 .undef), untag (tm.getD 3 .undef), untag (tm.getD 4 .undef), untag (tm.getD 5 .undef), untag (tm.getD 6 .undef), untag (tm.getD 7 .undef), untag (tm.getD 8 .undef), untag (tm.getD 9 .undef), untag (tm.getD 10 .undef), untag (tm.getD 11 .undef), untag (tm.getD 12 .undef), untag (tm.getD 13 .undef), untag (tm.getD 14 .undef), untag (tm.getD 15 .undef), untag (tm.getD 16 .undef), untag (tm.getD 17 .undef), untag (tm.getD 18 .undef), untag (tm.getD 19 .undef), untag (tm.getD 20 .undef), untag (tm.getD 21 .undef), untag (tm.getD 22 .undef), untag (tm.getD 23 .undef), untag (tm.getD 24 .undef), untag (tm.getD 25 .undef), untag (tm.getD 26 .undef), untag (tm.getD 27 .undef), untag (tm.getD 28 .undef), untag (tm.getD 29 .undef), untag (tm.getD 30 .undef), untag (tm.getD 31 .undef), untag (tm.getD 32 .undef), untag (tm.getD 33 .undef), untag (tm.getD 34 .undef), untag (tm.getD 35 .undef)] := tmps_eq hk
  unfold g_vec_Unit_0 at hg
  simp only [List.map_cons, List.map_nil] at hg
  split at hg
  · rename_i m p_x p_y p_z q_x q_y q_z t_x t_y t_z heq hheap
    simp only [List.cons.injEq, and_true] at heq
    obtain ⟨e4, e5⟩ := heq
    simp only [Tr.run] at hg
    split at hg
    · rename_i hc
      simp only [Option.some.injEq, Prod.mk.injEq] at hg
      obtain ⟨rfl, rfl, rfl⟩ := hg
      rw [e4, e5] at htm
      obtain ⟨N, s', h1, h2⟩ := core_vec_Unit_0 (fun L => evCode P (evCall P T 16 6) L O' (loopOf P f 0)) hr m p_x p_y p_z q_x q_y q_z t_x t_y t_z (of_decide_eq_true hc) (untag (tm.getD 0 .undef)) (untag (tm.getD 1 .undef)) (untag (tm.getD 2 .undef)) (untag (tm.getD 3 .undef)) (untag (tm.getD 6 .undef)) (untag (tm.getD 7 .undef)) (untag (tm.getD 8 .undef)) (untag (tm.getD 9 .undef)) (untag (tm.getD 10 .undef)) (untag (tm.getD 11 .undef)) (untag (tm.getD 12 .undef)) (untag (tm.getD 13 .undef)) (untag (tm.getD 14 .undef)) (untag (tm.getD 15 .undef)) (untag (tm.getD 16 .undef)) (untag (tm.getD 17 .undef)) (untag (tm.getD 18 .undef)) (untag (tm.getD 19 .undef)) (untag (tm.getD 20 .undef)) (untag (tm.getD 21 .undef)) (untag (tm.getD 22 .undef)) (untag (tm.getD 23 .undef)) (untag (tm.getD 24 .undef)) (untag (tm.getD 25 .undef)) (untag (tm.getD 26 .undef)) (untag (tm.getD 27 .undef)) (untag (tm.getD 28 .undef)) (untag (tm.getD 29 .undef)) (untag (tm.getD 30 .undef)) (untag (tm.getD 31 .undef)) (untag (tm.getD 32 .undef)) (untag (tm.getD 33 .undef)) (untag (tm.getD 34 .undef)) (untag (tm.getD 35 .undef)) 
      exact ⟨s', good_loop (g := none) (e1 := .exit 0) hb (fun k e => by cases e) 16 6 N (by rw [htm, hheap]; exact h1) (by rw [htm]; exact h2)⟩
    · cases hg
  · cases hg

/-! vec.Unit, block 2 -/
def st_vec_Unit_2 (p_x : Int) (p_y : Int) (p_z : Int) (q_x : Int) (q_y : Int) (q_z : Int) (t_x : Int) (t_y : Int) (t_z : Int) (x0 x1 x2 x3 x5 x6 x7 x8 x9 x10 x11 x12 x13 x14 x15 x16 x17 x18 x19 x20 x21 x22 x23 x24 x25 x26 x27 x28 x29 x30 x31 x32 x33 x34 x35 : AV) : St := ⟨[x0, x1, x2, x3, .ptr (some (2, 0)), x5, x6, x7, x8, x9, x10, x11, x12, x13, x14, x15, x16, x17, x18, x19, x20, x21, x22, x23, x24, x25, x26, x27, x28, x29, x30, x31, x32, x33, x34, x35], [[.int .i64 false p_x, .int .i64 false p_y, .int .i64 false p_z], [.int .i64 false q_x, .int .i64 false q_y, .int .i64 false q_z], [.int .i64 false t_x, .int .i64 false t_y, .int .i64 false t_z]]⟩
def kl_vec_Unit_2 (p_x : Int) (p_y : Int) (p_z : Int) (q_x : Int) (q_y : Int) (q_z : Int) (t_x : Int) (t_y : Int) (t_z : Int) (x0 x1 x2 x3 x5 x6 x7 x8 x9 x10 x11 x12 x13 x14 x15 x16 x17 x18 x19 x20 x21 x22 x23 x24 x25 x26 x27 x28 x29 x30 x31 x32 x33 x34 x35 : AV) : List AV := [untag x0, untag x1, untag x2, untag x3, untag (.ptr (some (2, 0))), untag x5, untag x6, untag x7, untag x8, untag x9, untag x10, untag x11, untag x12, untag x13, untag x14, untag x15, untag x16, untag x17, untag x18, untag x19, untag x20, untag x21, untag x22, untag x23, .undef, .undef, .undef, .undef, .undef, untag x29, untag x30, untag x31, untag x32, untag x33, untag x34, untag x35]
def sl_vec_Unit_2_0 (p_x : Int) (p_y : Int) (p_z : Int) (q_x : Int) (q_y : Int) (q_z : Int) (t_x : Int) (t_y : Int) (t_z : Int) (x0 x1 x2 x3 x5 x6 x7 x8 x9 x10 x11 x12 x13 x14 x15 x16 x17 x18 x19 x20 x21 x22 x23 x24 x25 x26 x27 x28 x29 x30 x31 x32 x33 x34 x35 : AV) : St := ⟨[x0, x1, x2, x3, AV.ptr (some (2, 0)), x5, x6, x7, x8, x9, x10, x11, x12, x13, x14, x15, x16, x17, x18, x19, x20, x21, x22, x23, AV.agg [AV.int IntKind.i64 false t_x, AV.int IntKind.i64 false t_y, AV.int IntKind.i64 false t_z], AV.int IntKind.i64 false (mostI t_x t_y t_z), AV.bool false (decide (mostI t_x t_y t_z ≥ 1048576)), AV.agg [AV.int IntKind.i64 false t_x, AV.int IntKind.i64 false t_y, AV.int IntKind.i64 false t_z], AV.agg [AV.int IntKind.i64 false (IntKind.i64.wrap (t_x.tdiv 2)), AV.int IntKind.i64 false (IntKind.i64.wrap (t_y.tdiv 2)), AV.int IntKind.i64 false (IntKind.i64.wrap (t_z.tdiv 2))], x29, x30, x31, x32, x33, x34, x35], [[AV.int IntKind.i64 false p_x, AV.int IntKind.i64 false p_y, AV.int IntKind.i64 false p_z], [AV.int IntKind.i64 false q_x, AV.int IntKind.i64 false q_y, AV.int IntKind.i64 false q_z], [AV.int IntKind.i64 false (IntKind.i64.wrap (t_x.tdiv 2)), AV.int IntKind.i64 false (IntKind.i64.wrap (t_y.tdiv 2)), AV.int IntKind.i64 false (IntKind.i64.wrap (t_z.tdiv 2))]]⟩
def sl_vec_Unit_2_1 (p_x : Int) (p_y : Int) (p_z : Int) (q_x : Int) (q_y : Int) (q_z : Int) (t_x : Int) (t_y : Int) (t_z : Int) (x0 x1 x2 x3 x5 x6 x7 x8 x9 x10 x11 x12 x13 x14 x15 x16 x17 x18 x19 x20 x21 x22 x23 x24 x25 x26 x27 x28 x29 x30 x31 x32 x33 x34 x35 : AV) : St := ⟨[x0, x1, x2, x3, AV.ptr (some (2, 0)), x5, x6, x7, x8, x9, x10, x11, x12, x13, x14, x15, x16, x17, x18, x19, x20, x21, x22, x23, AV.agg [AV.int IntKind.i64 false t_x, AV.int IntKind.i64 false t_y, AV.int IntKind.i64 false t_z], AV.int IntKind.i64 false (mostI t_x t_y t_z), AV.bool false (decide (mostI t_x t_y t_z ≥ 1048576)), x27, x28, x29, x30, x31, x32, x33, x34, x35], [[AV.int IntKind.i64 false p_x, AV.int IntKind.i64 false p_y, AV.int IntKind.i64 false p_z], [AV.int IntKind.i64 false q_x, AV.int IntKind.i64 false q_y, AV.int IntKind.i64 false q_z], [AV.int IntKind.i64 false t_x, AV.int IntKind.i64 false t_y, AV.int IntKind.i64 false t_z]]⟩
def rd_vec_Unit_2 (p_x : Int) (p_y : Int) (p_z : Int) (q_x : Int) (q_y : Int) (q_z : Int) (t_x : Int) (t_y : Int) (t_z : Int) (x0 x1 x2 x3 x5 x6 x7 x8 x9 x10 x11 x12 x13 x14 x15 x16 x17 x18 x19 x20 x21 x22 x23 x24 x25 x26 x27 x28 x29 x30 x31 x32 x33 x34 x35 : AV) : Tr (Ex × St) := Tr.node (decide (mostI t_x t_y t_z ≥ 1048576)) (Tr.leaf (Ex.normal, sl_vec_Unit_2_0 p_x p_y p_z q_x q_y q_z t_x t_y t_z x0 x1 x2 x3 x5 x6 x7 x8 x9 x10 x11 x12 x13 x14 x15 x16 x17 x18 x19 x20 x21 x22 x23 x24 x25 x26 x27 x28 x29 x30 x31 x32 x33 x34 x35)) (Tr.leaf (Ex.exit 2, sl_vec_Unit_2_1 p_x p_y p_z q_x q_y q_z t_x t_y t_z x0 x1 x2 x3 x5 x6 x7 x8 x9 x10 x11 x12 x13 x14 x15 x16 x17 x18 x19 x20 x21 x22 x23 x24 x25 x26 x27 x28 x29 x30 x31 x32 x33 x34 x35))
def g_vec_Unit_2 : PieceTold := fun l h => match l, h with | [.ptr (some (2, 0))], [[.int .i64 false p_x, .int .i64 false p_y, .int .i64 false p_z], [.int .i64 false q_x, .int .i64 false q_y, .int .i64 false q_z], [.int .i64 false t_x, .int .i64 false t_y, .int .i64 false t_z]] => .node (decide (mostI t_x t_y t_z ≤ 4611686018427387904)) (.leaf (.normal, [], [[.int .i64 false p_x, .int .i64 false p_y, .int .i64 false p_z], [.int .i64 false q_x, .int .i64 false q_y, .int .i64 false q_z], [i6 (downS 45 t_x (mostI t_x t_y t_z)), i6 (downS 45 t_y (mostI t_x t_y t_z)), i6 (downS 45 t_z (mostI t_x t_y t_z))]])) .bad | _, _ => .bad
def HR_vec_Unit_2 (rnd : Nat → St → Tr (Ex × St)) : Prop := ∀ L (p_x : Int) (p_y : Int) (p_z : Int) (q_x : Int) (q_y : Int) (q_z : Int) (t_x : Int) (t_y : Int) (t_z : Int) (x0 x1 x2 x3 x5 x6 x7 x8 x9 x10 x11 x12 x13 x14 x15 x16 x17 x18 x19 x20 x21 x22 x23 x24 x25 x26 x27 x28 x29 x30 x31 x32 x33 x34 x35 : AV), rnd L (st_vec_Unit_2 p_x p_y p_z q_x q_y q_z t_x t_y t_z x0 x1 x2 x3 x5 x6 x7 x8 x9 x10 x11 x12 x13 x14 x15 x16 x17 x18 x19 x20 x21 x22 x23 x24 x25 x26 x27 x28 x29 x30 x31 x32 x33 x34 x35) = rd_vec_Unit_2 p_x p_y p_z q_x q_y q_z t_x t_y t_z x0 x1 x2 x3 x5 x6 x7 x8 x9 x10 x11 x12 x13 x14 x15 x16 x17 x18 x19 x20 x21 x22 x23 x24 x25 x26 x27 x28 x29 x30 x31 x32 x33 x34 x35
/-- From here the loop ends so. -/
def Fin_vec_Unit_2 (rnd : Nat → St → Tr (Ex × St)) (p_x : Int) (p_y : Int) (p_z : Int) (q_x : Int) (q_y : Int) (q_z : Int) (t_x : Int) (t_y : Int) (t_z : Int) (e : Ex) (outs : List (Nat × AV)) (hp : AH → AH) : Prop := ∀ (x0 x1 x2 x3 x5 x6 x7 x8 x9 x10 x11 x12 x13 x14 x15 x16 x17 x18 x19 x20 x21 x22 x23 x24 x25 x26 x27 x28 x29 x30 x31 x32 x33 x34 x35 : AV),
    ∃ N s', (∀ L, (loopIterG none (rnd L) (N + 1) (st_vec_Unit_2 p_x p_y p_z q_x q_y q_z t_x t_y t_z x0 x1 x2 x3 x5 x6 x7 x8 x9 x10 x11 x12 x13 x14 x15 x16 x17 x18 x19 x20 x21 x22 x23 x24 x25 x26 x27 x28 x29 x30 x31 x32 x33 x34 x35)).run = some (e, s')) ∧ Leaves none 36 [24, 25, 26, 27, 28] (st_vec_Unit_2 p_x p_y p_z q_x q_y q_z t_x t_y t_z x0 x1 x2 x3 x5 x6 x7 x8 x9 x10 x11 x12 x13 x14 x15 x16 x17 x18 x19 x20 x21 x22 x23 x24 x25 x26 x27 x28 x29 x30 x31 x32 x33 x34 x35).tmps outs (hp ([[.int .i64 false p_x, .int .i64 false p_y, .int .i64 false p_z], [.int .i64 false q_x, .int .i64 false q_y, .int .i64 false q_z], [.int .i64 false t_x, .int .i64 false t_y, .int .i64 false t_z]])) s'
theorem step_vec_Unit_2_0 {rnd : Nat → St → Tr (Ex × St)} (hr : HR_vec_Unit_2 rnd) (p_x : Int) (p_y : Int) (p_z : Int) (q_x : Int) (q_y : Int) (q_z : Int) (t_x : Int) (t_y : Int) (t_z : Int) (c0 : (decide (mostI t_x t_y t_z ≥ 1048576)) = true) {e : Ex} {outs : List (Nat × AV)} {hp : AH → AH} (hh : hp ([[AV.int IntKind.i64 false p_x, AV.int IntKind.i64 false p_y, AV.int IntKind.i64 false p_z], [AV.int IntKind.i64 false q_x, AV.int IntKind.i64 false q_y, AV.int IntKind.i64 false q_z], [AV.int IntKind.i64 false (IntKind.i64.wrap (t_x.tdiv 2)), AV.int IntKind.i64 false (IntKind.i64.wrap (t_y.tdiv 2)), AV.int IntKind.i64 false (IntKind.i64.wrap (t_z.tdiv 2))]]) = hp ([[.int .i64 false p_x, .int .i64 false p_y, .int .i64 false p_z], [.int .i64 false q_x, .int .i64 false q_y, .int .i64 false q_z], [.int .i64 false t_x, .int .i64 false t_y, .int .i64 false t_z]])) (hn : Fin_vec_Unit_2 rnd (p_x) (p_y) (p_z) (q_x) (q_y) (q_z) ((IntKind.i64.wrap (t_x.tdiv 2))) ((IntKind.i64.wrap (t_y.tdiv 2))) ((IntKind.i64.wrap (t_z.tdiv 2))) e outs hp) : Fin_vec_Unit_2 rnd p_x p_y p_z q_x q_y q_z t_x t_y t_z e outs hp := by
  intro x0 x1 x2 x3 x5 x6 x7 x8 x9 x10 x11 x12 x13 x14 x15 x16 x17 x18 x19 x20 x21 x22 x23 x24 x25 x26 x27 x28 x29 x30 x31 x32 x33 x34 x35
  obtain ⟨N, s', h1, h2⟩ := hn (x0) (x1) (x2) (x3) (x5) (x6) (x7) (x8) (x9) (x10) (x11) (x12) (x13) (x14) (x15) (x16) (x17) (x18) (x19) (x20) (x21) (x22) (x23) (AV.agg [AV.int IntKind.i64 false t_x, AV.int IntKind.i64 false t_y, AV.int IntKind.i64 false t_z]) (AV.int IntKind.i64 false (mostI t_x t_y t_z)) (AV.bool false (decide (mostI t_x t_y t_z ≥ 1048576))) (AV.agg [AV.int IntKind.i64 false t_x, AV.int IntKind.i64 false t_y, AV.int IntKind.i64 false t_z]) (AV.agg [AV.int IntKind.i64 false (IntKind.i64.wrap (t_x.tdiv 2)), AV.int IntKind.i64 false (IntKind.i64.wrap (t_y.tdiv 2)), AV.int IntKind.i64 false (IntKind.i64.wrap (t_z.tdiv 2))]) (x29) (x30) (x31) (x32) (x33) (x34) (x35)
  refine ⟨N + 1, s', fun L => ?_, hh ▸ h2.of (s1 := sl_vec_Unit_2_0 p_x p_y p_z q_x q_y q_z t_x t_y t_z x0 x1 x2 x3 x5 x6 x7 x8 x9 x10 x11 x12 x13 x14 x15 x16 x17 x18 x19 x20 x21 x22 x23 x24 x25 x26 x27 x28 x29 x30 x31 x32 x33 x34 x35) rfl ((show _ = kl_vec_Unit_2 p_x p_y p_z q_x q_y q_z t_x t_y t_z x0 x1 x2 x3 x5 x6 x7 x8 x9 x10 x11 x12 x13 x14 x15 x16 x17 x18 x19 x20 x21 x22 x23 x24 x25 x26 x27 x28 x29 x30 x31 x32 x33 x34 x35 from rfl).trans (show kl_vec_Unit_2 p_x p_y p_z q_x q_y q_z t_x t_y t_z x0 x1 x2 x3 x5 x6 x7 x8 x9 x10 x11 x12 x13 x14 x15 x16 x17 x18 x19 x20 x21 x22 x23 x24 x25 x26 x27 x28 x29 x30 x31 x32 x33 x34 x35 = _ from rfl))⟩
  rw [loopIterG, hr L p_x p_y p_z q_x q_y q_z t_x t_y t_z x0 x1 x2 x3 x5 x6 x7 x8 x9 x10 x11 x12 x13 x14 x15 x16 x17 x18 x19 x20 x21 x22 x23 x24 x25 x26 x27 x28 x29 x30 x31 x32 x33 x34 x35, Tr.run_bind, show (rd_vec_Unit_2 p_x p_y p_z q_x q_y q_z t_x t_y t_z x0 x1 x2 x3 x5 x6 x7 x8 x9 x10 x11 x12 x13 x14 x15 x16 x17 x18 x19 x20 x21 x22 x23 x24 x25 x26 x27 x28 x29 x30 x31 x32 x33 x34 x35).run = some (.normal, sl_vec_Unit_2_0 p_x p_y p_z q_x q_y q_z t_x t_y t_z x0 x1 x2 x3 x5 x6 x7 x8 x9 x10 x11 x12 x13 x14 x15 x16 x17 x18 x19 x20 x21 x22 x23 x24 x25 x26 x27 x28 x29 x30 x31 x32 x33 x34 x35) from (run_t c0).trans (rfl)]
  exact h1 L
theorem stop_vec_Unit_2_1 {rnd : Nat → St → Tr (Ex × St)} (hr : HR_vec_Unit_2 rnd) (p_x : Int) (p_y : Int) (p_z : Int) (q_x : Int) (q_y : Int) (q_z : Int) (t_x : Int) (t_y : Int) (t_z : Int) (c0 : (decide (mostI t_x t_y t_z ≥ 1048576)) = false) {outs : List (Nat × AV)} {hp : AH → AH} (ho : ∀ (x0 x1 x2 x3 x5 x6 x7 x8 x9 x10 x11 x12 x13 x14 x15 x16 x17 x18 x19 x20 x21 x22 x23 x24 x25 x26 x27 x28 x29 x30 x31 x32 x33 x34 x35 : AV), outs.map (fun p => untag ((sl_vec_Unit_2_1 p_x p_y p_z q_x q_y q_z t_x t_y t_z x0 x1 x2 x3 x5 x6 x7 x8 x9 x10 x11 x12 x13 x14 x15 x16 x17 x18 x19 x20 x21 x22 x23 x24 x25 x26 x27 x28 x29 x30 x31 x32 x33 x34 x35).tmps.getD p.1 .undef)) = outs.map (fun p => untag p.2)) (hh : ∀ h : AH, ([[AV.int IntKind.i64 false p_x, AV.int IntKind.i64 false p_y, AV.int IntKind.i64 false p_z], [AV.int IntKind.i64 false q_x, AV.int IntKind.i64 false q_y, AV.int IntKind.i64 false q_z], [AV.int IntKind.i64 false t_x, AV.int IntKind.i64 false t_y, AV.int IntKind.i64 false t_z]]).map untagL = (hp ([[.int .i64 false p_x, .int .i64 false p_y, .int .i64 false p_z], [.int .i64 false q_x, .int .i64 false q_y, .int .i64 false q_z], [.int .i64 false t_x, .int .i64 false t_y, .int .i64 false t_z]])).map untagL) : Fin_vec_Unit_2 rnd p_x p_y p_z q_x q_y q_z t_x t_y t_z (.exit 2) outs hp := by
  intro x0 x1 x2 x3 x5 x6 x7 x8 x9 x10 x11 x12 x13 x14 x15 x16 x17 x18 x19 x20 x21 x22 x23 x24 x25 x26 x27 x28 x29 x30 x31 x32 x33 x34 x35
  refine ⟨0, gcSt none (sl_vec_Unit_2_1 p_x p_y p_z q_x q_y q_z t_x t_y t_z x0 x1 x2 x3 x5 x6 x7 x8 x9 x10 x11 x12 x13 x14 x15 x16 x17 x18 x19 x20 x21 x22 x23 x24 x25 x26 x27 x28 x29 x30 x31 x32 x33 x34 x35), fun L => ?_, Leaves.stop (s1 := sl_vec_Unit_2_1 p_x p_y p_z q_x q_y q_z t_x t_y t_z x0 x1 x2 x3 x5 x6 x7 x8 x9 x10 x11 x12 x13 x14 x15 x16 x17 x18 x19 x20 x21 x22 x23 x24 x25 x26 x27 x28 x29 x30 x31 x32 x33 x34 x35) (hh []) rfl (ho x0 x1 x2 x3 x5 x6 x7 x8 x9 x10 x11 x12 x13 x14 x15 x16 x17 x18 x19 x20 x21 x22 x23 x24 x25 x26 x27 x28 x29 x30 x31 x32 x33 x34 x35) ((show _ = kl_vec_Unit_2 p_x p_y p_z q_x q_y q_z t_x t_y t_z x0 x1 x2 x3 x5 x6 x7 x8 x9 x10 x11 x12 x13 x14 x15 x16 x17 x18 x19 x20 x21 x22 x23 x24 x25 x26 x27 x28 x29 x30 x31 x32 x33 x34 x35 from rfl).trans (show kl_vec_Unit_2 p_x p_y p_z q_x q_y q_z t_x t_y t_z x0 x1 x2 x3 x5 x6 x7 x8 x9 x10 x11 x12 x13 x14 x15 x16 x17 x18 x19 x20 x21 x22 x23 x24 x25 x26 x27 x28 x29 x30 x31 x32 x33 x34 x35 = _ from rfl))⟩
  rw [loopIterG, hr L p_x p_y p_z q_x q_y q_z t_x t_y t_z x0 x1 x2 x3 x5 x6 x7 x8 x9 x10 x11 x12 x13 x14 x15 x16 x17 x18 x19 x20 x21 x22 x23 x24 x25 x26 x27 x28 x29 x30 x31 x32 x33 x34 x35, Tr.run_bind, show (rd_vec_Unit_2 p_x p_y p_z q_x q_y q_z t_x t_y t_z x0 x1 x2 x3 x5 x6 x7 x8 x9 x10 x11 x12 x13 x14 x15 x16 x17 x18 x19 x20 x21 x22 x23 x24 x25 x26 x27 x28 x29 x30 x31 x32 x33 x34 x35).run = some (.exit 2, sl_vec_Unit_2_1 p_x p_y p_z q_x q_y q_z t_x t_y t_z x0 x1 x2 x3 x5 x6 x7 x8 x9 x10 x11 x12 x13 x14 x15 x16 x17 x18 x19 x20 x21 x22 x23 x24 x25 x26 x27 x28 x29 x30 x31 x32 x33 x34 x35) from (run_f c0).trans (rfl)]
  rfl
theorem core_vec_Unit_2 (rnd : Nat → St → Tr (Ex × St)) (hr : HR_vec_Unit_2 rnd) : ∀ (p_x : Int) (p_y : Int) (p_z : Int) (q_x : Int) (q_y : Int) (q_z : Int) (t_x : Int) (t_y : Int) (t_z : Int), mostI t_x t_y t_z ≤ 4611686018427387904 → Fin_vec_Unit_2 rnd p_x p_y p_z q_x q_y q_z t_x t_y t_z (.exit 2) [] (fun _ => [[.int .i64 false p_x, .int .i64 false p_y, .int .i64 false p_z], [.int .i64 false q_x, .int .i64 false q_y, .int .i64 false q_z], [i6 (downS 45 t_x (mostI t_x t_y t_z)), i6 (downS 45 t_y (mostI t_x t_y t_z)), i6 (downS 45 t_z (mostI t_x t_y t_z))]]) := by
  have key : ∀ (k : Nat) (p_x p_y p_z q_x q_y q_z t_x t_y t_z : Int), mostI t_x t_y t_z ≤ 4611686018427387904 ∧ mostI t_x t_y t_z < 1048576 * 2 ^ k →
      Fin_vec_Unit_2 rnd p_x p_y p_z q_x q_y q_z t_x t_y t_z (.exit 2) [] (fun _ => [[.int .i64 false p_x, .int .i64 false p_y, .int .i64 false p_z], [.int .i64 false q_x, .int .i64 false q_y, .int .i64 false q_z], [i6 (downS k t_x (mostI t_x t_y t_z)), i6 (downS k t_y (mostI t_x t_y t_z)), i6 (downS k t_z (mostI t_x t_y t_z))]]) := by
    intro k
    induction k with
    | zero =>
      intro p_x p_y p_z q_x q_y q_z t_x t_y t_z ⟨h1, hk⟩
      exact stop_vec_Unit_2_1 hr p_x p_y p_z q_x q_y q_z t_x t_y t_z (decide_eq_false (by omega)) (by intros; rfl) (fun h => rfl)
    | succ k ih =>
      intro p_x p_y p_z q_x q_y q_z t_x t_y t_z ⟨h1, hk⟩
      obtain ⟨hx, hy, hz, _⟩ := most_spec h1
      by_cases hc : mostI t_x t_y t_z ≥ 1048576
      · refine step_vec_Unit_2_0 hr p_x p_y p_z q_x q_y q_z t_x t_y t_z (decide_eq_true hc) rfl ?_
        rw [tdiv2_wrap (x := t_x) (by omega), tdiv2_wrap (x := t_y) (by omega), tdiv2_wrap (x := t_z) (by omega)]
        simp only [downS, if_pos hc]
        have hh := most_half h1
        have hn := ih p_x p_y p_z q_x q_y q_z (t_x.tdiv 2) (t_y.tdiv 2) (t_z.tdiv 2) (by
          rw [hh]
          have : (1048576 : Int) * 2 ^ (k + 1) = 2 * (1048576 * 2 ^ k) := by rw [Int.pow_succ]; grind
          omega)
        rw [hh] at hn
        exact hn
      · refine stop_vec_Unit_2_1 hr p_x p_y p_z q_x q_y q_z t_x t_y t_z (decide_eq_false hc) (by intros; rfl) (fun h => ?_)
        simp only [downS, if_neg hc]; rfl
  exact fun p_x p_y p_z q_x q_y q_z t_x t_y t_z hc => key 45 p_x p_y p_z q_x q_y q_z t_x t_y t_z ⟨hc, by omega⟩
theorem piece_vec_Unit_2 {P : Program} {T : Table} {O' : Known} {f : FuncId} (hb : blockOf P f 2 = .loop (loopOf P f 2)) (hid : O' 2 = none)
    (hr : HR_vec_Unit_2 (fun L => evCode P (evCall P T 16 6) L O' (loopOf P f 2))) :
    ∀ (s : St) (e : Ex) (outs : List (Nat × AV)) (hp : AH), s.tmps.length = 36 → (g_vec_Unit_2 (([4] : List Nat).map fun j => untag (s.tmps.getD j .undef)) (s.heap.map untagL)).run = some (e, outs, hp) → ∃ s', Good P T O' f 2 36 [24, 25, 26, 27, 28] s e outs hp s' := by
  intro s e outs hp hk hg
  obtain ⟨tm, h⟩ := s
  have htm : untagL tm = [untag (tm.getD 0 .undef), untag (tm.getD 1 .undef), untag (tm.getD 2 .undef), untag (tm.getD 3 .undef), untag (tm.getD 4 .undef), untag (tm.getD 5 .undef), untag (tm.getD 6 .undef), untag (tm.getD 7 .undef), untag (tm.getD 8 .undef), untag (tm.getD 9 .undef), untag (tm.getD 10 .undef), untag (tm.getD 11 .undef), untag (tm.getD 12 .undef), untag (tm.getD 13 .undef), untag (tm.getD 14 .undef), untag (tm.getD 15 .undef), untag (tm.getD 16 .undef), untag (tm.getD 17 .undef), untag (tm.getD 18 .undef), untag (tm.getD 19 .undef), untag (tm.getD 20 .undef), untag (tm.getD 21 .undef), untag (tm.getD 22 .undef), untag (tm.getD 23 .undef), untag (tm.getD 24 .undef), untag (tm.getD 25 .undef), untag (tm.getD 26 .undef), untag (tm.getD 27 .undef), untag (tm.getD 28 .undef), untag (tm.getD 29 .undef), untag (tm.getD 30 .undef), untag (tm.getD 31 .undef), untag (tm.getD 32 .undef), untag (tm.getD 33 .undef), untag (tm.getD 34 .undef), untag (tm.getD 35 .undef)] := tmps_eq hk
  unfold g_vec_Unit_2 at hg
  simp only [List.map_cons, List.map_nil] at hg
  split at hg
  · rename_i p_x p_y p_z q_x q_y q_z t_x t_y t_z heq hheap
    simp only [List.cons.injEq, and_true] at heq
    have e4 := heq
    simp only [Tr.run] at hg
    split at hg
    · rename_i hc
      simp only [Option.some.injEq, Prod.mk.injEq] at hg
      obtain ⟨rfl, rfl, rfl⟩ := hg
      rw [e4] at htm
      obtain ⟨N, s', h1, h2⟩ := core_vec_Unit_2 (fun L => evCode P (evCall P T 16 6) L O' (loopOf P f 2)) hr p_x p_y p_z q_x q_y q_z t_x t_y t_z (of_decide_eq_true hc) (untag (tm.getD 0 .undef)) (untag (tm.getD 1 .undef)) (untag (tm.getD 2 .undef)) (untag (tm.getD 3 .undef)) (untag (tm.getD 5 .undef)) (untag (tm.getD 6 .undef)) (untag (tm.getD 7 .undef)) (untag (tm.getD 8 .undef)) (untag (tm.getD 9 .undef)) (untag (tm.getD 10 .undef)) (untag (tm.getD 11 .undef)) (untag (tm.getD 12 .undef)) (untag (tm.getD 13 .undef)) (untag (tm.getD 14 .undef)) (untag (tm.getD 15 .undef)) (untag (tm.getD 16 .undef)) (untag (tm.getD 17 .undef)) (untag (tm.getD 18 .undef)) (untag (tm.getD 19 .undef)) (untag (tm.getD 20 .undef)) (untag (tm.getD 21 .undef)) (untag (tm.getD 22 .undef)) (untag (tm.getD 23 .undef)) (untag (tm.getD 24 .undef)) (untag (tm.getD 25 .undef)) (untag (tm.getD 26 .undef)) (untag (tm.getD 27 .undef)) (untag (tm.getD 28 .undef)) (untag (tm.getD 29 .undef)) (untag (tm.getD 30 .undef)) (untag (tm.getD 31 .undef)) (untag (tm.getD 32 .undef)) (untag (tm.getD 33 .undef)) (untag (tm.getD 34 .undef)) (untag (tm.getD 35 .undef)) 
      exact ⟨s', good_loop (g := none) (e1 := .exit 2) hb (fun k e => by cases e) 16 6 N (by rw [htm, hheap]; exact h1) (by rw [htm]; exact h2)⟩
    · cases hg
  · cases hg

/-! vec.Unit -/
def tr_vec_Unit (v_x : Int) (v_y : Int) (v_z : Int) : Tr AV := Tr.node (mostI v_x v_y v_z == 0) (Tr.leaf (AV.tuple [AV.agg [AV.int IntKind.i64 false 0, AV.int IntKind.i64 false 0, AV.int IntKind.i64 false 0], AV.bool false false])) (Tr.node (decide (mostI v_x v_y v_z > 4611686018427387904)) (Tr.leaf (AV.tuple [AV.agg [AV.int IntKind.i64 false 0, AV.int IntKind.i64 false 0, AV.int IntKind.i64 false 0], AV.bool false false])) (Tr.node (decide (1 ≤ mostI v_x v_y v_z ∧ mostI v_x v_y v_z ≤ 4611686018427387904 ∧ (-mostI v_x v_y v_z ≤ v_x ∧ v_x ≤ mostI v_x v_y v_z) ∧ (-mostI v_x v_y v_z ≤ v_y ∧ v_y ≤ mostI v_x v_y v_z) ∧ -mostI v_x v_y v_z ≤ v_z ∧ v_z ≤ mostI v_x v_y v_z)) (Tr.node (decide (mostI (upS 20 v_x (mostI v_x v_y v_z)) (upS 20 v_y (mostI v_x v_y v_z)) (upS 20 v_z (mostI v_x v_y v_z)) ≤ 4611686018427387904)) (Tr.node (decide (isq (dotN (downS 45 (upS 20 v_x (mostI v_x v_y v_z)) (mostI (upS 20 v_x (mostI v_x v_y v_z)) (upS 20 v_y (mostI v_x v_y v_z)) (upS 20 v_z (mostI v_x v_y v_z)))) (downS 45 (upS 20 v_y (mostI v_x v_y v_z)) (mostI (upS 20 v_x (mostI v_x v_y v_z)) (upS 20 v_y (mostI v_x v_y v_z)) (upS 20 v_z (mostI v_x v_y v_z)))) (downS 45 (upS 20 v_z (mostI v_x v_y v_z)) (mostI (upS 20 v_x (mostI v_x v_y v_z)) (upS 20 v_y (mostI v_x v_y v_z)) (upS 20 v_z (mostI v_x v_y v_z)))) (downS 45 (upS 20 v_x (mostI v_x v_y v_z)) (mostI (upS 20 v_x (mostI v_x v_y v_z)) (upS 20 v_y (mostI v_x v_y v_z)) (upS 20 v_z (mostI v_x v_y v_z)))) (downS 45 (upS 20 v_y (mostI v_x v_y v_z)) (mostI (upS 20 v_x (mostI v_x v_y v_z)) (upS 20 v_y (mostI v_x v_y v_z)) (upS 20 v_z (mostI v_x v_y v_z)))) (downS 45 (upS 20 v_z (mostI v_x v_y v_z)) (mostI (upS 20 v_x (mostI v_x v_y v_z)) (upS 20 v_y (mostI v_x v_y v_z)) (upS 20 v_z (mostI v_x v_y v_z))))) = 0)) Tr.bad (Tr.node (decide (isq (dotN (downS 45 (upS 20 v_x (mostI v_x v_y v_z)) (mostI (upS 20 v_x (mostI v_x v_y v_z)) (upS 20 v_y (mostI v_x v_y v_z)) (upS 20 v_z (mostI v_x v_y v_z)))) (downS 45 (upS 20 v_y (mostI v_x v_y v_z)) (mostI (upS 20 v_x (mostI v_x v_y v_z)) (upS 20 v_y (mostI v_x v_y v_z)) (upS 20 v_z (mostI v_x v_y v_z)))) (downS 45 (upS 20 v_z (mostI v_x v_y v_z)) (mostI (upS 20 v_x (mostI v_x v_y v_z)) (upS 20 v_y (mostI v_x v_y v_z)) (upS 20 v_z (mostI v_x v_y v_z)))) (downS 45 (upS 20 v_x (mostI v_x v_y v_z)) (mostI (upS 20 v_x (mostI v_x v_y v_z)) (upS 20 v_y (mostI v_x v_y v_z)) (upS 20 v_z (mostI v_x v_y v_z)))) (downS 45 (upS 20 v_y (mostI v_x v_y v_z)) (mostI (upS 20 v_x (mostI v_x v_y v_z)) (upS 20 v_y (mostI v_x v_y v_z)) (upS 20 v_z (mostI v_x v_y v_z)))) (downS 45 (upS 20 v_z (mostI v_x v_y v_z)) (mostI (upS 20 v_x (mostI v_x v_y v_z)) (upS 20 v_y (mostI v_x v_y v_z)) (upS 20 v_z (mostI v_x v_y v_z))))) = 0)) Tr.bad (Tr.node (decide (isq (dotN (downS 45 (upS 20 v_x (mostI v_x v_y v_z)) (mostI (upS 20 v_x (mostI v_x v_y v_z)) (upS 20 v_y (mostI v_x v_y v_z)) (upS 20 v_z (mostI v_x v_y v_z)))) (downS 45 (upS 20 v_y (mostI v_x v_y v_z)) (mostI (upS 20 v_x (mostI v_x v_y v_z)) (upS 20 v_y (mostI v_x v_y v_z)) (upS 20 v_z (mostI v_x v_y v_z)))) (downS 45 (upS 20 v_z (mostI v_x v_y v_z)) (mostI (upS 20 v_x (mostI v_x v_y v_z)) (upS 20 v_y (mostI v_x v_y v_z)) (upS 20 v_z (mostI v_x v_y v_z)))) (downS 45 (upS 20 v_x (mostI v_x v_y v_z)) (mostI (upS 20 v_x (mostI v_x v_y v_z)) (upS 20 v_y (mostI v_x v_y v_z)) (upS 20 v_z (mostI v_x v_y v_z)))) (downS 45 (upS 20 v_y (mostI v_x v_y v_z)) (mostI (upS 20 v_x (mostI v_x v_y v_z)) (upS 20 v_y (mostI v_x v_y v_z)) (upS 20 v_z (mostI v_x v_y v_z)))) (downS 45 (upS 20 v_z (mostI v_x v_y v_z)) (mostI (upS 20 v_x (mostI v_x v_y v_z)) (upS 20 v_y (mostI v_x v_y v_z)) (upS 20 v_z (mostI v_x v_y v_z))))) = 0)) Tr.bad (Tr.leaf (AV.tuple [AV.agg [AV.int IntKind.i64 false (IntKind.i64.wrap ((IntKind.i64.wrap (downS 45 (upS 20 v_x (mostI v_x v_y v_z)) (mostI (upS 20 v_x (mostI v_x v_y v_z)) (upS 20 v_y (mostI v_x v_y v_z)) (upS 20 v_z (mostI v_x v_y v_z))) * 16384)).tdiv (isq (dotN (downS 45 (upS 20 v_x (mostI v_x v_y v_z)) (mostI (upS 20 v_x (mostI v_x v_y v_z)) (upS 20 v_y (mostI v_x v_y v_z)) (upS 20 v_z (mostI v_x v_y v_z)))) (downS 45 (upS 20 v_y (mostI v_x v_y v_z)) (mostI (upS 20 v_x (mostI v_x v_y v_z)) (upS 20 v_y (mostI v_x v_y v_z)) (upS 20 v_z (mostI v_x v_y v_z)))) (downS 45 (upS 20 v_z (mostI v_x v_y v_z)) (mostI (upS 20 v_x (mostI v_x v_y v_z)) (upS 20 v_y (mostI v_x v_y v_z)) (upS 20 v_z (mostI v_x v_y v_z)))) (downS 45 (upS 20 v_x (mostI v_x v_y v_z)) (mostI (upS 20 v_x (mostI v_x v_y v_z)) (upS 20 v_y (mostI v_x v_y v_z)) (upS 20 v_z (mostI v_x v_y v_z)))) (downS 45 (upS 20 v_y (mostI v_x v_y v_z)) (mostI (upS 20 v_x (mostI v_x v_y v_z)) (upS 20 v_y (mostI v_x v_y v_z)) (upS 20 v_z (mostI v_x v_y v_z)))) (downS 45 (upS 20 v_z (mostI v_x v_y v_z)) (mostI (upS 20 v_x (mostI v_x v_y v_z)) (upS 20 v_y (mostI v_x v_y v_z)) (upS 20 v_z (mostI v_x v_y v_z)))))))), AV.int IntKind.i64 false (IntKind.i64.wrap ((IntKind.i64.wrap (downS 45 (upS 20 v_y (mostI v_x v_y v_z)) (mostI (upS 20 v_x (mostI v_x v_y v_z)) (upS 20 v_y (mostI v_x v_y v_z)) (upS 20 v_z (mostI v_x v_y v_z))) * 16384)).tdiv (isq (dotN (downS 45 (upS 20 v_x (mostI v_x v_y v_z)) (mostI (upS 20 v_x (mostI v_x v_y v_z)) (upS 20 v_y (mostI v_x v_y v_z)) (upS 20 v_z (mostI v_x v_y v_z)))) (downS 45 (upS 20 v_y (mostI v_x v_y v_z)) (mostI (upS 20 v_x (mostI v_x v_y v_z)) (upS 20 v_y (mostI v_x v_y v_z)) (upS 20 v_z (mostI v_x v_y v_z)))) (downS 45 (upS 20 v_z (mostI v_x v_y v_z)) (mostI (upS 20 v_x (mostI v_x v_y v_z)) (upS 20 v_y (mostI v_x v_y v_z)) (upS 20 v_z (mostI v_x v_y v_z)))) (downS 45 (upS 20 v_x (mostI v_x v_y v_z)) (mostI (upS 20 v_x (mostI v_x v_y v_z)) (upS 20 v_y (mostI v_x v_y v_z)) (upS 20 v_z (mostI v_x v_y v_z)))) (downS 45 (upS 20 v_y (mostI v_x v_y v_z)) (mostI (upS 20 v_x (mostI v_x v_y v_z)) (upS 20 v_y (mostI v_x v_y v_z)) (upS 20 v_z (mostI v_x v_y v_z)))) (downS 45 (upS 20 v_z (mostI v_x v_y v_z)) (mostI (upS 20 v_x (mostI v_x v_y v_z)) (upS 20 v_y (mostI v_x v_y v_z)) (upS 20 v_z (mostI v_x v_y v_z)))))))), AV.int IntKind.i64 false (IntKind.i64.wrap ((IntKind.i64.wrap (downS 45 (upS 20 v_z (mostI v_x v_y v_z)) (mostI (upS 20 v_x (mostI v_x v_y v_z)) (upS 20 v_y (mostI v_x v_y v_z)) (upS 20 v_z (mostI v_x v_y v_z))) * 16384)).tdiv (isq (dotN (downS 45 (upS 20 v_x (mostI v_x v_y v_z)) (mostI (upS 20 v_x (mostI v_x v_y v_z)) (upS 20 v_y (mostI v_x v_y v_z)) (upS 20 v_z (mostI v_x v_y v_z)))) (downS 45 (upS 20 v_y (mostI v_x v_y v_z)) (mostI (upS 20 v_x (mostI v_x v_y v_z)) (upS 20 v_y (mostI v_x v_y v_z)) (upS 20 v_z (mostI v_x v_y v_z)))) (downS 45 (upS 20 v_z (mostI v_x v_y v_z)) (mostI (upS 20 v_x (mostI v_x v_y v_z)) (upS 20 v_y (mostI v_x v_y v_z)) (upS 20 v_z (mostI v_x v_y v_z)))) (downS 45 (upS 20 v_x (mostI v_x v_y v_z)) (mostI (upS 20 v_x (mostI v_x v_y v_z)) (upS 20 v_y (mostI v_x v_y v_z)) (upS 20 v_z (mostI v_x v_y v_z)))) (downS 45 (upS 20 v_y (mostI v_x v_y v_z)) (mostI (upS 20 v_x (mostI v_x v_y v_z)) (upS 20 v_y (mostI v_x v_y v_z)) (upS 20 v_z (mostI v_x v_y v_z)))) (downS 45 (upS 20 v_z (mostI v_x v_y v_z)) (mostI (upS 20 v_x (mostI v_x v_y v_z)) (upS 20 v_y (mostI v_x v_y v_z)) (upS 20 v_z (mostI v_x v_y v_z))))))))], AV.bool false true]))))) Tr.bad) Tr.bad))
theorem run_vec_Unit (v_x : Int) (v_y : Int) (v_z : Int) (h_v_x : InR .i64 v_x) (h_v_y : InR .i64 v_y) (h_v_z : InR .i64 v_z) : (tr_vec_Unit v_x v_y v_z).run = some (.tuple [v3 (unitC v_x v_y v_z v_x) (unitC v_x v_y v_z v_y) (unitC v_x v_y v_z v_z), bb (okU v_x v_y v_z)]) := by
  unfold tr_vec_Unit
  have h0 := most_nonneg v_x v_y v_z
  by_cases c0 : mostI v_x v_y v_z = 0
  · have ok : okU v_x v_y v_z = false := by unfold okU; simp [c0]
    rw [ok, unitC_no ok, unitC_no ok, unitC_no ok]
    exact run_t (by simpa using c0)
  · by_cases c1 : mostI v_x v_y v_z > 4611686018427387904
    · have ok : okU v_x v_y v_z = false := by unfold okU; simp [c0, c1]
      rw [ok, unitC_no ok, unitC_no ok, unitC_no ok]
      exact (run_f (by simpa using c0)).trans (run_t (decide_eq_true c1))
    · have ok : okU v_x v_y v_z = true := by unfold okU; simp [c0]; omega
      obtain ⟨mx, my, mz, _⟩ := most_spec (x := v_x) (y := v_y) (z := v_z) (by omega)
      obtain ⟨n, _, _, _, he⟩ := even_spec ok
      obtain ⟨near, l1, l2, l3, l4⟩ := len_spec ok
      obtain ⟨u1, u2, ux, uy, uz⟩ := unitC_r ok
      refine (run_f (by simpa using c0)).trans ((run_f (decide_eq_false c1)).trans ((run_t (decide_eq_true ⟨by omega, by omega, mx, my, mz⟩)).trans ((run_t (decide_eq_true he)).trans ?_)))
      rw [ok]
      change Tr.run (α := AV) (.node (decide (isq (dotN (nrm v_x v_y v_z v_x) (nrm v_x v_y v_z v_y) (nrm v_x v_y v_z v_z) (nrm v_x v_y v_z v_x) (nrm v_x v_y v_z v_y) (nrm v_x v_y v_z v_z)) = 0)) .bad
        (.node (decide (isq (dotN (nrm v_x v_y v_z v_x) (nrm v_x v_y v_z v_y) (nrm v_x v_y v_z v_z) (nrm v_x v_y v_z v_x) (nrm v_x v_y v_z v_y) (nrm v_x v_y v_z v_z)) = 0)) .bad (.node (decide (isq (dotN (nrm v_x v_y v_z v_x) (nrm v_x v_y v_z v_y) (nrm v_x v_y v_z v_z) (nrm v_x v_y v_z v_x) (nrm v_x v_y v_z v_y) (nrm v_x v_y v_z v_z)) = 0)) .bad (.leaf (.tuple [.agg [i6 (IntKind.i64.wrap ((IntKind.i64.wrap (nrm v_x v_y v_z v_x * 16384)).tdiv (isq (dotN (nrm v_x v_y v_z v_x) (nrm v_x v_y v_z v_y) (nrm v_x v_y v_z v_z) (nrm v_x v_y v_z v_x) (nrm v_x v_y v_z v_y) (nrm v_x v_y v_z v_z))))),
          i6 (IntKind.i64.wrap ((IntKind.i64.wrap (nrm v_x v_y v_z v_y * 16384)).tdiv (isq (dotN (nrm v_x v_y v_z v_x) (nrm v_x v_y v_z v_y) (nrm v_x v_y v_z v_z) (nrm v_x v_y v_z v_x) (nrm v_x v_y v_z v_y) (nrm v_x v_y v_z v_z))))),
          i6 (IntKind.i64.wrap ((IntKind.i64.wrap (nrm v_x v_y v_z v_z * 16384)).tdiv (isq (dotN (nrm v_x v_y v_z v_x) (nrm v_x v_y v_z v_y) (nrm v_x v_y v_z v_z) (nrm v_x v_y v_z v_x) (nrm v_x v_y v_z v_y) (nrm v_x v_y v_z v_z)))))], bb true]))))) = _
      have el : isq (dotN (nrm v_x v_y v_z v_x) (nrm v_x v_y v_z v_y) (nrm v_x v_y v_z v_z) (nrm v_x v_y v_z v_x) (nrm v_x v_y v_z v_y) (nrm v_x v_y v_z v_z)) = lenU v_x v_y v_z := by
        unfold lenU dotN; rw [if_pos ⟨near, near⟩]
      have rn := near_r near
      rw [el, wrap_i64_id (n := nrm v_x v_y v_z v_x * 16384) (by omega), wrap_i64_id (n := nrm v_x v_y v_z v_y * 16384) (by omega), wrap_i64_id (n := nrm v_x v_y v_z v_z * 16384) (by omega)]
      have e : ∀ c, (nrm v_x v_y v_z c * 16384).tdiv (lenU v_x v_y v_z) = unitC v_x v_y v_z c := fun c => by unfold unitC; rw [if_pos ok]
      rw [e, e, e, wrap_i64_id (n := unitC v_x v_y v_z v_x) (by omega), wrap_i64_id (n := unitC v_x v_y v_z v_y) (by omega), wrap_i64_id (n := unitC v_x v_y v_z v_z) (by omega)]
      exact (run_f (decide_eq_false (by omega))).trans ((run_f (decide_eq_false (by omega))).trans (run_f (decide_eq_false (by omega))))

end Go.Sky

/- The document's answers: what is reckoned. -/
set_option linter.unusedSimpArgs false
set_option linter.unusedVariables false
namespace Go.Sky

theorem ediv_of {a b q r : Int} (e : a = b * q + r) (h0 : 0 ≤ r) (h1 : r < b) : a / b = q := by
  rw [e, Int.add_comm, Int.add_mul_ediv_left _ _ (by omega), Int.ediv_eq_zero_of_lt h0 h1]; omega

/-- Toward 0, as the document's answer reckons it. -/
def towS (a b : Int) : Int := if a < 0 then IntKind.i64.wrap (0 - if 1 ≤ b then IntKind.i64.wrap (0 - a) / b else 0) else if 1 ≤ b then a / b else 0

theorem wrap_add3b {p q r : Int} (hp : -1099511627776 ≤ p ∧ p ≤ 1099511627776) (hq : -1099511627776 ≤ q ∧ q ≤ 1099511627776) (hr : -1099511627776 ≤ r ∧ r ≤ 1099511627776) :
    IntKind.i64.wrap (IntKind.i64.wrap (IntKind.i64.wrap p + IntKind.i64.wrap q) + IntKind.i64.wrap r) = p + q + r := by
  simp only [wrap_i64]; omega

theorem wrap_add3b' {p q r : Int} (hp : -2305843009213693952 ≤ p ∧ p ≤ 2305843009213693952) (hq : -2305843009213693952 ≤ q ∧ q ≤ 2305843009213693952) (hr : -2305843009213693952 ≤ r ∧ r ≤ 2305843009213693952) :
    IntKind.i64.wrap (IntKind.i64.wrap (IntKind.i64.wrap p + IntKind.i64.wrap q) + IntKind.i64.wrap r) = p + q + r := by
  simp only [wrap_i64]; omega

theorem mul_32 {x y : Int} (hx : 0 ≤ x ∧ x ≤ 4294967295) (hy : 0 ≤ y ∧ y ≤ 4294967295) : 0 ≤ x * y ∧ x * y ≤ 18446744065119617025 :=
  ⟨Int.mul_nonneg hx.1 hy.1, Int.le_trans (Int.mul_le_mul hx.2 hy.2 hy.1 (by omega)) (by decide)⟩

end Go.Sky

/- Trees of functions, and what they come to. -/
set_option linter.unusedSimpArgs false
set_option linter.unusedVariables false
namespace Go.Sky
set_option maxRecDepth 100000

/-! skylightref01.Plus -/
def tr_skylightref01_Plus (a : Int) (b : Int) : Tr AV := Tr.node (decide (a ≥ 0)) (Tr.node (decide (b > IntKind.i64.wrap (9223372036854775807 - a))) (Tr.leaf (AV.int IntKind.i64 false 9223372036854775807)) (Tr.node (decide (a < 0)) (Tr.node (decide (b < IntKind.i64.wrap (-9223372036854775808 - a))) (Tr.leaf (AV.int IntKind.i64 false (-9223372036854775808))) (Tr.leaf (AV.int IntKind.i64 false (IntKind.i64.wrap (a + b))))) (Tr.leaf (AV.int IntKind.i64 false (IntKind.i64.wrap (a + b)))))) (Tr.node (decide (a < 0)) (Tr.node (decide (b < IntKind.i64.wrap (-9223372036854775808 - a))) (Tr.leaf (AV.int IntKind.i64 false (-9223372036854775808))) (Tr.leaf (AV.int IntKind.i64 false (IntKind.i64.wrap (a + b))))) (Tr.leaf (AV.int IntKind.i64 false (IntKind.i64.wrap (a + b)))))
theorem run_skylightref01_Plus (a : Int) (b : Int) (h_a : InR .i64 a) (h_b : InR .i64 b) : (tr_skylightref01_Plus a b).run = some (i6 (sat (a + b))) := by
  unfold tr_skylightref01_Plus
  have ha := inR_i64.1 h_a
  have hb := inR_i64.1 h_b
  simp only [Tr.run, i6, decide_eq_true_eq, wrap_i64, sat]
  (repeat' split) <;> first | rfl | (congr 2; omega)

/-! skylightref01.Size -/
def tr_skylightref01_Size (n : Int) : Tr AV := Tr.node (decide (n < 0)) (Tr.leaf (AV.int IntKind.u64 false (IntKind.u64.wrap (IntKind.u64.wrap (IntKind.i64.wrap (0 - IntKind.i64.wrap (n + 1))) + 1)))) (Tr.leaf (AV.int IntKind.u64 false (IntKind.u64.wrap n)))
theorem run_skylightref01_Size (n : Int) (h_n : InR .i64 n) : (tr_skylightref01_Size n).run = some (u6 (sz n)) := by
  unfold tr_skylightref01_Size
  have h := inR_i64.1 h_n
  simp only [Tr.run, u6, decide_eq_true_eq, wrap_i64, wrap_u64, sz]
  (repeat' split) <;> first | rfl | (congr 2; omega)

/-! skylightref01.Mul -/
def tr_skylightref01_Mul (a : Int) (b : Int) : Tr AV := Tr.leaf (AV.tuple [AV.int IntKind.u64 false (IntKind.u64.wrap (IntKind.u64.wrap (IntKind.u64.wrap (IntKind.u64.wrap (a.fdiv 4294967296 * b.fdiv 4294967296) + (IntKind.u64.wrap (a.fdiv 4294967296 * bits BinOp.and IntKind.u64 b 4294967295)).fdiv 4294967296) + (IntKind.u64.wrap (bits BinOp.and IntKind.u64 a 4294967295 * b.fdiv 4294967296)).fdiv 4294967296) + (IntKind.u64.wrap (IntKind.u64.wrap ((IntKind.u64.wrap (bits BinOp.and IntKind.u64 a 4294967295 * bits BinOp.and IntKind.u64 b 4294967295)).fdiv 4294967296 + bits BinOp.and IntKind.u64 (IntKind.u64.wrap (a.fdiv 4294967296 * bits BinOp.and IntKind.u64 b 4294967295)) 4294967295) + bits BinOp.and IntKind.u64 (IntKind.u64.wrap (bits BinOp.and IntKind.u64 a 4294967295 * b.fdiv 4294967296)) 4294967295)).fdiv 4294967296)), AV.int IntKind.u64 false (bits BinOp.or IntKind.u64 (IntKind.u64.wrap (IntKind.u64.wrap (IntKind.u64.wrap ((IntKind.u64.wrap (bits BinOp.and IntKind.u64 a 4294967295 * bits BinOp.and IntKind.u64 b 4294967295)).fdiv 4294967296 + bits BinOp.and IntKind.u64 (IntKind.u64.wrap (a.fdiv 4294967296 * bits BinOp.and IntKind.u64 b 4294967295)) 4294967295) + bits BinOp.and IntKind.u64 (IntKind.u64.wrap (bits BinOp.and IntKind.u64 a 4294967295 * b.fdiv 4294967296)) 4294967295) * 4294967296)) (bits BinOp.and IntKind.u64 (IntKind.u64.wrap (bits BinOp.and IntKind.u64 a 4294967295 * bits BinOp.and IntKind.u64 b 4294967295)) 4294967295))])
theorem run_skylightref01_Mul (a : Int) (b : Int) (h_a : InR .u64 a) (h_b : InR .u64 b) : (tr_skylightref01_Mul a b).run = some (.tuple [u6 (a*b/18446744073709551616), u6 (a*b%18446744073709551616)]) := by
  unfold tr_skylightref01_Mul
  have ha := inR_u64.1 h_a
  have hb := inR_u64.1 h_b
  have fd : ∀ x : Int, x.fdiv 4294967296 = x / 4294967296 := fun x => Int.fdiv_eq_ediv_of_nonneg _ (by decide)
  simp only [fd, bits_mask ha, bits_mask hb, u6]
  have e : a * b = a / 4294967296 * (b / 4294967296) * 18446744073709551616 + (a / 4294967296 * (b % 4294967296) + a % 4294967296 * (b / 4294967296)) * 4294967296 + a % 4294967296 * (b % 4294967296) := by
    have ea : a = a / 4294967296 * 4294967296 + a % 4294967296 := by omega
    have eb : b = b / 4294967296 * 4294967296 + b % 4294967296 := by omega
    generalize a / 4294967296 = a1 at *
    generalize a % 4294967296 = a0 at *
    generalize b / 4294967296 = b1 at *
    generalize b % 4294967296 = b0 at *
    rw [ea, eb]; clear ea eb ha hb h_a h_b; grind
  rw [e]
  obtain ⟨s0, s1⟩ := mul_32 (x := a / 4294967296) (y := b / 4294967296) (by omega) (by omega)
  obtain ⟨q0, q1⟩ := mul_32 (x := a / 4294967296) (y := b % 4294967296) (by omega) (by omega)
  obtain ⟨r0, r1⟩ := mul_32 (x := a % 4294967296) (y := b / 4294967296) (by omega) (by omega)
  obtain ⟨p0, p1⟩ := mul_32 (x := a % 4294967296) (y := b % 4294967296) (by omega) (by omega)
  generalize a / 4294967296 * (b / 4294967296) = s at *
  generalize a / 4294967296 * (b % 4294967296) = q at *
  generalize a % 4294967296 * (b / 4294967296) = r at *
  generalize a % 4294967296 * (b % 4294967296) = p at *
  rw [wrap_u64_id (n := p) (by omega), wrap_u64_id (n := q) (by omega), wrap_u64_id (n := r) (by omega), wrap_u64_id (n := s) (by omega)]
  rw [bits_mask (x := p) (by omega), bits_mask (x := q) (by omega), bits_mask (x := r) (by omega)]
  rw [wrap_u64_id (n := p / 4294967296 + q % 4294967296) (by omega), wrap_u64_id (n := p / 4294967296 + q % 4294967296 + r % 4294967296) (by omega)]
  rw [wrap_u64_id (n := s + q / 4294967296) (by omega), wrap_u64_id (n := s + q / 4294967296 + r / 4294967296) (by omega)]
  rw [show IntKind.u64.wrap ((p / 4294967296 + q % 4294967296 + r % 4294967296) * 4294967296) = (p / 4294967296 + q % 4294967296 + r % 4294967296) % 4294967296 * 2 ^ 32 by rw [wrap_u64]; omega]
  rw [bits_or (s := 32) (by omega) (by omega) (by omega), wrap_u64_id (by omega)]
  simp only [Tr.run]
  congr 3
  · congr 1; omega
  · congr 2; omega

/-! skylightref01.Times -/
def tr_skylightref01_Times (a : Int) (b : Int) : Tr AV := Tr.node (!decide (a < 0) == decide (b < 0)) (Tr.node (decide (sz a * sz b / (18446744073709551616 : Int) > 0)) (Tr.leaf (AV.int IntKind.i64 false (-9223372036854775808))) (Tr.node (decide (sz a * sz b % (18446744073709551616 : Int) > 9223372036854775807)) (Tr.leaf (AV.int IntKind.i64 false (-9223372036854775808))) (Tr.leaf (AV.int IntKind.i64 false (IntKind.i64.wrap (0 - IntKind.i64.wrap (sz a * sz b % 18446744073709551616))))))) (Tr.node (decide (sz a * sz b / (18446744073709551616 : Int) > 0)) (Tr.leaf (AV.int IntKind.i64 false 9223372036854775807)) (Tr.node (decide (sz a * sz b % (18446744073709551616 : Int) > 9223372036854775807)) (Tr.leaf (AV.int IntKind.i64 false 9223372036854775807)) (Tr.leaf (AV.int IntKind.i64 false (IntKind.i64.wrap (sz a * sz b % 18446744073709551616))))))
theorem run_skylightref01_Times (a : Int) (b : Int) (h_a : InR .i64 a) (h_b : InR .i64 b) : (tr_skylightref01_Times a b).run = some (i6 (sat (a * b))) := by
  unfold tr_skylightref01_Times
  obtain ⟨h1, h2⟩ := times_law (sz a * sz b) rfl (!(decide (a < 0) == decide (b < 0)) = true) (by by_cases c1 : a < 0 <;> by_cases c2 : b < 0 <;> simp [c1, c2])
  generalize sz a * sz b = P at h1 h2 ⊢
  generalize a * b = p at h1 h2 ⊢
  cases hs : (!(decide (a < 0) == decide (b < 0)))
  · obtain ⟨h3, h4⟩ := h2 (by simp [hs])
    refine (run_f rfl).trans ?_
    simp only [Tr.run, i6, decide_eq_true_eq, wrap_i64, sat]
    (repeat' split) <;> first | rfl | (congr 2; omega)
  · obtain ⟨h3, h4⟩ := h1 (by simp [hs])
    refine (run_t rfl).trans ?_
    simp only [Tr.run, i6, decide_eq_true_eq, wrap_i64, sat]
    (repeat' split) <;> first | rfl | (congr 2; omega)

/-! skylightref01.Div -/
def tr_skylightref01_Div (a : Int) (b : Int) : Tr AV := Tr.node (decide (b < 1)) (Tr.leaf (AV.int IntKind.i64 false 0)) (Tr.node (decide (b = 0)) Tr.bad (Tr.node (decide (a < 0)) (Tr.node (decide (b = 0)) Tr.bad (Tr.node (a.tmod b != 0) (Tr.leaf (AV.int IntKind.i64 false (IntKind.i64.wrap (IntKind.i64.wrap (a.tdiv b) - 1)))) (Tr.leaf (AV.int IntKind.i64 false (IntKind.i64.wrap (a.tdiv b)))))) (Tr.leaf (AV.int IntKind.i64 false (IntKind.i64.wrap (a.tdiv b))))))
theorem run_skylightref01_Div (a : Int) (b : Int) (h_a : InR .i64 a) (h_b : InR .i64 b) : (tr_skylightref01_Div a b).run = some (i6 (if 1 ≤ b then a / b else 0)) := by
  unfold tr_skylightref01_Div
  have ha := inR_i64.1 h_a
  have hb := inR_i64.1 h_b
  by_cases c0 : b < 1
  · rw [if_neg (by omega)]; exact run_t (decide_eq_true c0)
  · rw [if_pos (by omega)]
    have f := tdiv_facts (A := a) (l := b) (by omega)
    have e := Int.mul_tdiv_add_tmod a b
    refine (run_f (decide_eq_false c0)).trans ((run_f (decide_eq_false (by omega))).trans ?_)
    by_cases c1 : a < 0
    · have f2 := f.2 c1
      have q0 : a.tdiv b ≤ 0 := by
        rcases (show a.tdiv b ≤ 0 ∨ 0 < a.tdiv b by omega) with h | h
        · exact h
        · have := Int.mul_pos (show 0 < b by omega) h; omega
      have q1 : a ≤ a.tdiv b := by
        have : b * a.tdiv b ≤ 1 * a.tdiv b := Int.mul_le_mul_of_nonpos_right (by omega) q0
        omega
      refine (run_t (decide_eq_true c1)).trans ((run_f (decide_eq_false (by omega))).trans ?_)
      by_cases c2 : a.tmod b = 0
      · refine (run_f (by simp [c2])).trans ?_
        rw [wrap_i64_id (by omega), show a / b = a.tdiv b from ediv_of (r := 0) (by omega) (by omega) (by omega)]; rfl
      · refine (run_t (by simpa using c2)).trans ?_
        rw [wrap_i64_id (n := a.tdiv b) (by omega), show a / b = a.tdiv b - 1 from ediv_of (r := b + a.tmod b) (by rw [Int.mul_sub, Int.mul_one]; omega) (by omega) (by omega)]
        have q2 : -9223372036854775808 < a.tdiv b := by
          rcases (show b = 1 ∨ 2 ≤ b by omega) with h | h
          · subst h; simp at c2
          · have : b * a.tdiv b ≤ 2 * a.tdiv b := Int.mul_le_mul_of_nonpos_right h q0
            omega
        rw [wrap_i64_id (by omega)]; rfl
    · refine (run_f (decide_eq_false c1)).trans ?_
      have d0 : 0 ≤ a / b := Int.ediv_nonneg (by omega) (by omega)
      have d1 : a / b ≤ a := Int.ediv_le_self _ (by omega)
      rw [Int.tdiv_eq_ediv_of_nonneg (by omega), wrap_i64_id (by omega)]; rfl

/-! skylightref03.Right -/
def tr_skylightref03_Right (f_n : Int) (f_d : Int) : Tr AV := Tr.leaf (AV.bool false (decide (f_d ≥ 1)))
theorem run_skylightref03_Right (f_n : Int) (f_d : Int) (h_f_n : InR .i64 f_n) (h_f_d : InR .i64 f_d) : (tr_skylightref03_Right f_n f_d).run = some (bb (decide (f_d ≥ 1))) := by
  unfold tr_skylightref03_Right
  rfl

/-! skylightref06.Add -/
def tr_skylightref06_Add (a_x : Int) (a_y : Int) (a_z : Int) (b_x : Int) (b_y : Int) (b_z : Int) : Tr AV := Tr.leaf (AV.agg [AV.int IntKind.i64 false (sat (a_x + b_x)), AV.int IntKind.i64 false (sat (a_y + b_y)), AV.int IntKind.i64 false (sat (a_z + b_z))])
theorem run_skylightref06_Add (a_x : Int) (a_y : Int) (a_z : Int) (b_x : Int) (b_y : Int) (b_z : Int) (h_a_x : InR .i64 a_x) (h_a_y : InR .i64 a_y) (h_a_z : InR .i64 a_z) (h_b_x : InR .i64 b_x) (h_b_y : InR .i64 b_y) (h_b_z : InR .i64 b_z) : (tr_skylightref06_Add a_x a_y a_z b_x b_y b_z).run = some (v3 (sat (a_x + b_x)) (sat (a_y + b_y)) (sat (a_z + b_z))) := by
  unfold tr_skylightref06_Add
  rfl

/-! skylightref06.Sub -/
def tr_skylightref06_Sub (a_x : Int) (a_y : Int) (a_z : Int) (b_x : Int) (b_y : Int) (b_z : Int) : Tr AV := Tr.leaf (AV.agg [AV.int IntKind.i64 false (sat (a_x + sat (b_x * -1))), AV.int IntKind.i64 false (sat (a_y + sat (b_y * -1))), AV.int IntKind.i64 false (sat (a_z + sat (b_z * -1)))])
theorem run_skylightref06_Sub (a_x : Int) (a_y : Int) (a_z : Int) (b_x : Int) (b_y : Int) (b_z : Int) (h_a_x : InR .i64 a_x) (h_a_y : InR .i64 a_y) (h_a_z : InR .i64 a_z) (h_b_x : InR .i64 b_x) (h_b_y : InR .i64 b_y) (h_b_z : InR .i64 b_z) : (tr_skylightref06_Sub a_x a_y a_z b_x b_y b_z).run = some (v3 (sat (a_x + sat (b_x * -1))) (sat (a_y + sat (b_y * -1))) (sat (a_z + sat (b_z * -1)))) := by
  unfold tr_skylightref06_Sub
  rfl

/-! skylightref06.Dot -/
def tr_skylightref06_Dot (a_x : Int) (a_y : Int) (a_z : Int) (b_x : Int) (b_y : Int) (b_z : Int) : Tr AV := Tr.node (!nearB a_x a_y a_z) (Tr.leaf (AV.int IntKind.i64 false 0)) (Tr.node (!nearB b_x b_y b_z) (Tr.leaf (AV.int IntKind.i64 false 0)) (Tr.leaf (AV.int IntKind.i64 false (IntKind.i64.wrap (IntKind.i64.wrap (IntKind.i64.wrap (a_x * b_x) + IntKind.i64.wrap (a_y * b_y)) + IntKind.i64.wrap (a_z * b_z))))))
theorem run_skylightref06_Dot (a_x : Int) (a_y : Int) (a_z : Int) (b_x : Int) (b_y : Int) (b_z : Int) (h_a_x : InR .i64 a_x) (h_a_y : InR .i64 a_y) (h_a_z : InR .i64 a_z) (h_b_x : InR .i64 b_x) (h_b_y : InR .i64 b_y) (h_b_z : InR .i64 b_z) : (tr_skylightref06_Dot a_x a_y a_z b_x b_y b_z).run = some (i6 (dotN a_x a_y a_z b_x b_y b_z)) := by
  unfold tr_skylightref06_Dot
  simp only [Tr.run, i6, dotN, Bool.not_eq_true']
  cases ha : nearB a_x a_y a_z <;> cases hb : nearB b_x b_y b_z <;> simp
  have h1 := near_r ha; have h2 := near_r hb
  rw [wrap_add3b (mul_near (by omega) (by omega)) (mul_near (by omega) (by omega)) (mul_near (by omega) (by omega))]
  rfl

/-! skylightref06.Cross -/
def tr_skylightref06_Cross (a_x : Int) (a_y : Int) (a_z : Int) (b_x : Int) (b_y : Int) (b_z : Int) : Tr AV := Tr.node (!nearB a_x a_y a_z) (Tr.leaf (AV.agg [AV.int IntKind.i64 false 0, AV.int IntKind.i64 false 0, AV.int IntKind.i64 false 0])) (Tr.node (!nearB b_x b_y b_z) (Tr.leaf (AV.agg [AV.int IntKind.i64 false 0, AV.int IntKind.i64 false 0, AV.int IntKind.i64 false 0])) (Tr.leaf (AV.agg [AV.int IntKind.i64 false (IntKind.i64.wrap (IntKind.i64.wrap (a_y * b_z) - IntKind.i64.wrap (a_z * b_y))), AV.int IntKind.i64 false (IntKind.i64.wrap (IntKind.i64.wrap (a_z * b_x) - IntKind.i64.wrap (a_x * b_z))), AV.int IntKind.i64 false (IntKind.i64.wrap (IntKind.i64.wrap (a_x * b_y) - IntKind.i64.wrap (a_y * b_x)))])))
theorem run_skylightref06_Cross (a_x : Int) (a_y : Int) (a_z : Int) (b_x : Int) (b_y : Int) (b_z : Int) (h_a_x : InR .i64 a_x) (h_a_y : InR .i64 a_y) (h_a_z : InR .i64 a_z) (h_b_x : InR .i64 b_x) (h_b_y : InR .i64 b_y) (h_b_z : InR .i64 b_z) : (tr_skylightref06_Cross a_x a_y a_z b_x b_y b_z).run = some (v3 (crN a_y a_z b_y b_z a_x b_x) (crN a_z a_x b_z b_x a_y b_y) (crN a_x a_y b_x b_y a_z b_z)) := by
  unfold tr_skylightref06_Cross
  simp only [Tr.run, v3, crN, near_rot a_y, near_rot2 a_z a_x, near_rot2 b_z b_x, near_rot b_y, i6, Bool.not_eq_true']
  cases ha : nearB a_x a_y a_z <;> cases hb : nearB b_x b_y b_z <;> simp
  have h1 := near_r ha; have h2 := near_r hb
  refine ⟨?_, ?_, ?_⟩ <;> exact wrap_sub2 (mul_near (by omega) (by omega)) (mul_near (by omega) (by omega))

/-! skylightref06.Volume -/
def tr_skylightref06_Volume (a_x : Int) (a_y : Int) (a_z : Int) (b_x : Int) (b_y : Int) (b_z : Int) (c_x : Int) (c_y : Int) (c_z : Int) : Tr AV := Tr.node (!nearB a_x a_y a_z) (Tr.leaf (AV.int IntKind.i64 false 0)) (Tr.node (!nearB b_x b_y b_z) (Tr.leaf (AV.int IntKind.i64 false 0)) (Tr.node (!nearB c_x c_y c_z) (Tr.leaf (AV.int IntKind.i64 false 0)) (Tr.leaf (AV.int IntKind.i64 false (IntKind.i64.wrap (IntKind.i64.wrap (IntKind.i64.wrap (a_x * IntKind.i64.wrap (IntKind.i64.wrap (b_y * c_z) - IntKind.i64.wrap (b_z * c_y))) + IntKind.i64.wrap (a_y * IntKind.i64.wrap (IntKind.i64.wrap (b_z * c_x) - IntKind.i64.wrap (b_x * c_z)))) + IntKind.i64.wrap (a_z * IntKind.i64.wrap (IntKind.i64.wrap (b_x * c_y) - IntKind.i64.wrap (b_y * c_x)))))))))
theorem run_skylightref06_Volume (a_x : Int) (a_y : Int) (a_z : Int) (b_x : Int) (b_y : Int) (b_z : Int) (c_x : Int) (c_y : Int) (c_z : Int) (h_a_x : InR .i64 a_x) (h_a_y : InR .i64 a_y) (h_a_z : InR .i64 a_z) (h_b_x : InR .i64 b_x) (h_b_y : InR .i64 b_y) (h_b_z : InR .i64 b_z) (h_c_x : InR .i64 c_x) (h_c_y : InR .i64 c_y) (h_c_z : InR .i64 c_z) : (tr_skylightref06_Volume a_x a_y a_z b_x b_y b_z c_x c_y c_z).run = some (i6 (volN a_x a_y a_z b_x b_y b_z c_x c_y c_z)) := by
  unfold tr_skylightref06_Volume
  simp only [Tr.run, i6, volN, crN, near_rot b_y, near_rot2 b_z b_x, near_rot2 c_z c_x, near_rot c_y, Bool.not_eq_true']
  cases ha : nearB a_x a_y a_z <;> cases hb : nearB b_x b_y b_z <;> cases hc : nearB c_x c_y c_z <;> simp
  have h1 := near_r ha; have h2 := near_r hb; have h3 := near_r hc
  rw [wrap_sub2 (mul_near (x := b_y) (y := c_z) (by omega) (by omega)) (mul_near (by omega) (by omega)), wrap_sub2 (mul_near (x := b_z) (y := c_x) (by omega) (by omega)) (mul_near (by omega) (by omega)), wrap_sub2 (mul_near (x := b_x) (y := c_y) (by omega) (by omega)) (mul_near (by omega) (by omega)), wrap_add3b' (mul_near2 (by omega) (mul_near (by omega) (by omega)) (mul_near (by omega) (by omega))) (mul_near2 (by omega) (mul_near (by omega) (by omega)) (mul_near (by omega) (by omega))) (mul_near2 (by omega) (mul_near (by omega) (by omega)) (mul_near (by omega) (by omega)))]
  rfl

/-! skylightref06.Len -/
def tr_skylightref06_Len (v_x : Int) (v_y : Int) (v_z : Int) : Tr AV := Tr.leaf (AV.int IntKind.i64 false (isq (IntKind.u64.wrap (dotN v_x v_y v_z v_x v_y v_z))))
theorem run_skylightref06_Len (v_x : Int) (v_y : Int) (v_z : Int) (h_v_x : InR .i64 v_x) (h_v_y : InR .i64 v_y) (h_v_z : InR .i64 v_z) : (tr_skylightref06_Len v_x v_y v_z).run = some (i6 (isq (dotN v_x v_y v_z v_x v_y v_z))) := by
  unfold tr_skylightref06_Len
  simp only [Tr.run, i6]
  have h := dotN_self v_x v_y v_z
  rw [wrap_u64_id (by omega)]

/-! skylightref06.toward -/
def tr_skylightref06_toward (a : Int) (b : Int) : Tr AV := Tr.node (decide (a < 0)) (Tr.leaf (AV.int IntKind.i64 false (IntKind.i64.wrap (0 - if 1 ≤ b then IntKind.i64.wrap (0 - a) / b else 0)))) (Tr.leaf (AV.int IntKind.i64 false (if 1 ≤ b then a / b else 0)))
theorem run_skylightref06_toward (a : Int) (b : Int) (h_a : InR .i64 a) (h_b : InR .i64 b) : (tr_skylightref06_toward a b).run = some (i6 (towS a b)) := by
  unfold tr_skylightref06_toward
  have ha := inR_i64.1 h_a
  simp only [Tr.run, i6, decide_eq_true_eq, towS]
  (repeat' split) <;> first | rfl | (exfalso; omega)

/-! vec.Scale -/
def tr_vec_Scale (v_x : Int) (v_y : Int) (v_z : Int) (f_n : Int) (f_d : Int) : Tr AV := Tr.leaf (AV.agg [AV.int IntKind.i64 false (atF v_x f_n f_d), AV.int IntKind.i64 false (atF v_y f_n f_d), AV.int IntKind.i64 false (atF v_z f_n f_d)])
theorem run_vec_Scale (v_x : Int) (v_y : Int) (v_z : Int) (f_n : Int) (f_d : Int) (h_v_x : InR .i64 v_x) (h_v_y : InR .i64 v_y) (h_v_z : InR .i64 v_z) (h_f_n : InR .i64 f_n) (h_f_d : InR .i64 f_d) : (tr_vec_Scale v_x v_y v_z f_n f_d).run = some (v3 (atF v_x f_n f_d) (atF v_y f_n f_d) (atF v_z f_n f_d)) := by
  unfold tr_vec_Scale
  rfl

end Go.Sky

/- Parts of products, bit by bit. -/
set_option linter.unusedSimpArgs false
set_option linter.unusedVariables false
namespace Go.Sky

def partGo : Nat → Int → Int → Int → Int
  | 0, _, _, q => q
  | i + 1, V, c, q => if (q + 2 ^ i) * c ≤ V then partGo i V c (q + 2 ^ i) else partGo i V c q

theorem partGo_spec : ∀ (i : Nat) (V c q : Int), 0 < c → q * c ≤ V → V < (q + 2 ^ i) * c → partGo i V c q = V / c
  | 0, V, c, q, h0, h1, h2 => by
    simp only [partGo]
    simp only [Int.pow_zero] at h2
    have a := Int.le_ediv_of_mul_le h0 h1
    have b := Int.ediv_lt_of_lt_mul h0 h2
    omega
  | i + 1, V, c, q, h0, h1, h2 => by
    have e : (2 : Int) ^ (i + 1) = 2 ^ i + 2 ^ i := by rw [Int.pow_succ]; omega
    rw [e] at h2
    simp only [partGo]
    split
    · rename_i h
      exact partGo_spec i V c (q + 2 ^ i) h0 h (by rw [show q + 2 ^ i + 2 ^ i = q + (2 ^ i + 2 ^ i) by omega]; exact h2)
    · rename_i h
      exact partGo_spec i V c q h0 h1 (by omega)

def partQ (V c : Int) : Int := if V / 18446744073709551616 < c then V / c else 0

theorem towS_2 {x : Int} (h : -4611686018427387904 ≤ x ∧ x ≤ 4611686018427387904) : towS x 2 = x.tdiv 2 := by
  have a := tdiv2 x
  unfold towS
  split
  · rw [wrap_i64_id (n := 0 - x) (by omega), if_pos (by omega), wrap_i64_id (by omega)]; omega
  · rw [if_pos (by omega)]; omega

theorem towS_tdiv {x l : Int} (h : -4611686018427387904 ≤ x ∧ x ≤ 4611686018427387904) (hl : 1 ≤ l) : towS x l = x.tdiv l := by
  unfold towS
  by_cases hx : x < 0
  · have e : x.tdiv l = -((-x) / l) := by
      have e1 : (-(-x)).tdiv l = - ((-x).tdiv l) := Int.neg_tdiv _ _
      rw [Int.neg_neg] at e1
      rw [e1, Int.tdiv_eq_ediv_of_nonneg (show 0 ≤ -x by omega)]
    have d0 : 0 ≤ (-x) / l := Int.ediv_nonneg (by omega) (by omega)
    have d1 : (-x) / l ≤ -x := Int.ediv_le_self _ (by omega)
    rw [if_pos hx, if_pos hl, Int.zero_sub, Int.zero_sub, wrap_i64_id (n := -x) (by omega), wrap_i64_id (by omega), e]
  · rw [if_neg hx, if_pos hl, Int.tdiv_eq_ediv_of_nonneg (by omega)]

end Go.Sky

/- Trees of functions, and what they come to. -/
set_option linter.unusedSimpArgs false
set_option linter.unusedVariables false
namespace Go.Sky
set_option maxRecDepth 100000

/-! skylightref01.Part, block 0 -/
def st_skylightref01_Part_0 (c : Int) (hi : Int) (lo : Int) (q : Int) (i : Int) (x0 x1 x3 x4 x5 x6 x7 x12 x13 x14 x15 x16 x17 x18 x19 x20 x21 x22 x23 x24 x25 x26 x27 x28 x29 x30 x31 x32 x33 x34 x35 x36 x37 x38 x39 x40 x41 x42 x43 x44 x45 x46 x47 x48 x49 x50 x51 x52 x53 : AV) (h : AH) : St := ⟨[x0, x1, .int .u64 false c, x3, x4, x5, x6, x7, .int .u64 false hi, .int .u64 false lo, .int .u64 false q, .int .i64 false i, x12, x13, x14, x15, x16, x17, x18, x19, x20, x21, x22, x23, x24, x25, x26, x27, x28, x29, x30, x31, x32, x33, x34, x35, x36, x37, x38, x39, x40, x41, x42, x43, x44, x45, x46, x47, x48, x49, x50, x51, x52, x53], h⟩
def kl_skylightref01_Part_0 (c : Int) (hi : Int) (lo : Int) (q : Int) (i : Int) (x0 x1 x3 x4 x5 x6 x7 x12 x13 x14 x15 x16 x17 x18 x19 x20 x21 x22 x23 x24 x25 x26 x27 x28 x29 x30 x31 x32 x33 x34 x35 x36 x37 x38 x39 x40 x41 x42 x43 x44 x45 x46 x47 x48 x49 x50 x51 x52 x53 : AV) (h : AH) : List AV := [untag x0, untag x1, untag (.int .u64 false c), untag x3, untag x4, untag x5, untag x6, untag x7, untag (.int .u64 false hi), untag (.int .u64 false lo), .undef, .undef, .undef, .undef, untag x14, untag x15, untag x16, untag x17, untag x18, untag x19, untag x20, untag x21, untag x22, .undef, .undef, .undef, .undef, .undef, .undef, .undef, .undef, .undef, .undef, .undef, .undef, .undef, .undef, .undef, .undef, .undef, .undef, .undef, .undef, .undef, .undef, .undef, .undef, .undef, .undef, .undef, .undef, .undef, .undef, untag x53]
def sl_skylightref01_Part_0_2 (c : Int) (hi : Int) (lo : Int) (q : Int) (i : Int) (x0 x1 x3 x4 x5 x6 x7 x12 x13 x14 x15 x16 x17 x18 x19 x20 x21 x22 x23 x24 x25 x26 x27 x28 x29 x30 x31 x32 x33 x34 x35 x36 x37 x38 x39 x40 x41 x42 x43 x44 x45 x46 x47 x48 x49 x50 x51 x52 x53 : AV) (h : AH) : St := ⟨[x0, x1, AV.int IntKind.u64 false c, x3, x4, x5, x6, x7, AV.int IntKind.u64 false hi, AV.int IntKind.u64 false lo, AV.int IntKind.u64 false (IntKind.u64.wrap (q + IntKind.u64.wrap (1 * 2 ^ min i.toNat 64))), AV.int IntKind.i64 false (IntKind.i64.wrap (i - 1)), AV.int IntKind.u64 false (IntKind.u64.wrap (q + IntKind.u64.wrap (1 * 2 ^ min i.toNat 64)) * c / 18446744073709551616), AV.int IntKind.u64 false (IntKind.u64.wrap (q + IntKind.u64.wrap (1 * 2 ^ min i.toNat 64)) * c % 18446744073709551616), x14, x15, x16, x17, x18, x19, x20, x21, x22, AV.int IntKind.i64 false i, AV.bool false (decide (i ≥ 0)), AV.int IntKind.i64 false i, AV.int IntKind.i64 false (IntKind.i64.wrap (i - 1)), AV.tuple [AV.int IntKind.u64 false (IntKind.u64.wrap (q + IntKind.u64.wrap (1 * 2 ^ min i.toNat 64)) * c / 18446744073709551616), AV.int IntKind.u64 false (IntKind.u64.wrap (q + IntKind.u64.wrap (1 * 2 ^ min i.toNat 64)) * c % 18446744073709551616)], AV.int IntKind.u64 false q, AV.int IntKind.i64 false i, AV.int IntKind.u64 false (IntKind.u64.wrap (1 * 2 ^ min i.toNat 64)), AV.int IntKind.u64 false (IntKind.u64.wrap (q + IntKind.u64.wrap (1 * 2 ^ min i.toNat 64))), AV.int IntKind.u64 false c, AV.tuple [AV.int IntKind.u64 false (IntKind.u64.wrap (q + IntKind.u64.wrap (1 * 2 ^ min i.toNat 64)) * c / 18446744073709551616), AV.int IntKind.u64 false (IntKind.u64.wrap (q + IntKind.u64.wrap (1 * 2 ^ min i.toNat 64)) * c % 18446744073709551616)], AV.int IntKind.u64 false (IntKind.u64.wrap (q + IntKind.u64.wrap (1 * 2 ^ min i.toNat 64)) * c / 18446744073709551616), AV.int IntKind.u64 false (IntKind.u64.wrap (q + IntKind.u64.wrap (1 * 2 ^ min i.toNat 64)) * c % 18446744073709551616), AV.int IntKind.u64 false (IntKind.u64.wrap (q + IntKind.u64.wrap (1 * 2 ^ min i.toNat 64)) * c / 18446744073709551616), AV.int IntKind.u64 false hi, AV.bool false (decide (IntKind.u64.wrap (q + IntKind.u64.wrap (1 * 2 ^ min i.toNat 64)) * c / 18446744073709551616 < hi)), AV.bool false (decide (IntKind.u64.wrap (q + IntKind.u64.wrap (1 * 2 ^ min i.toNat 64)) * c / 18446744073709551616 < hi)), AV.tuple [], AV.tuple [], AV.tuple [], AV.tuple [], AV.tuple [], AV.tuple [], AV.tuple [], AV.tuple [], AV.bool true true, AV.int IntKind.u64 false q, AV.int IntKind.i64 false i, AV.int IntKind.u64 false (IntKind.u64.wrap (1 * 2 ^ min i.toNat 64)), AV.int IntKind.u64 false (IntKind.u64.wrap (q + IntKind.u64.wrap (1 * 2 ^ min i.toNat 64))), x53], h⟩
def sl_skylightref01_Part_0_4 (c : Int) (hi : Int) (lo : Int) (q : Int) (i : Int) (x0 x1 x3 x4 x5 x6 x7 x12 x13 x14 x15 x16 x17 x18 x19 x20 x21 x22 x23 x24 x25 x26 x27 x28 x29 x30 x31 x32 x33 x34 x35 x36 x37 x38 x39 x40 x41 x42 x43 x44 x45 x46 x47 x48 x49 x50 x51 x52 x53 : AV) (h : AH) : St := ⟨[x0, x1, AV.int IntKind.u64 false c, x3, x4, x5, x6, x7, AV.int IntKind.u64 false hi, AV.int IntKind.u64 false lo, AV.int IntKind.u64 false (IntKind.u64.wrap (q + IntKind.u64.wrap (1 * 2 ^ min i.toNat 64))), AV.int IntKind.i64 false (IntKind.i64.wrap (i - 1)), AV.int IntKind.u64 false (IntKind.u64.wrap (q + IntKind.u64.wrap (1 * 2 ^ min i.toNat 64)) * c / 18446744073709551616), AV.int IntKind.u64 false (IntKind.u64.wrap (q + IntKind.u64.wrap (1 * 2 ^ min i.toNat 64)) * c % 18446744073709551616), x14, x15, x16, x17, x18, x19, x20, x21, x22, AV.int IntKind.i64 false i, AV.bool false (decide (i ≥ 0)), AV.int IntKind.i64 false i, AV.int IntKind.i64 false (IntKind.i64.wrap (i - 1)), AV.tuple [AV.int IntKind.u64 false (IntKind.u64.wrap (q + IntKind.u64.wrap (1 * 2 ^ min i.toNat 64)) * c / 18446744073709551616), AV.int IntKind.u64 false (IntKind.u64.wrap (q + IntKind.u64.wrap (1 * 2 ^ min i.toNat 64)) * c % 18446744073709551616)], AV.int IntKind.u64 false q, AV.int IntKind.i64 false i, AV.int IntKind.u64 false (IntKind.u64.wrap (1 * 2 ^ min i.toNat 64)), AV.int IntKind.u64 false (IntKind.u64.wrap (q + IntKind.u64.wrap (1 * 2 ^ min i.toNat 64))), AV.int IntKind.u64 false c, AV.tuple [AV.int IntKind.u64 false (IntKind.u64.wrap (q + IntKind.u64.wrap (1 * 2 ^ min i.toNat 64)) * c / 18446744073709551616), AV.int IntKind.u64 false (IntKind.u64.wrap (q + IntKind.u64.wrap (1 * 2 ^ min i.toNat 64)) * c % 18446744073709551616)], AV.int IntKind.u64 false (IntKind.u64.wrap (q + IntKind.u64.wrap (1 * 2 ^ min i.toNat 64)) * c / 18446744073709551616), AV.int IntKind.u64 false (IntKind.u64.wrap (q + IntKind.u64.wrap (1 * 2 ^ min i.toNat 64)) * c % 18446744073709551616), AV.int IntKind.u64 false (IntKind.u64.wrap (q + IntKind.u64.wrap (1 * 2 ^ min i.toNat 64)) * c / 18446744073709551616), AV.int IntKind.u64 false hi, AV.bool false (decide (IntKind.u64.wrap (q + IntKind.u64.wrap (1 * 2 ^ min i.toNat 64)) * c / 18446744073709551616 < hi)), AV.bool false (decide (IntKind.u64.wrap (q + IntKind.u64.wrap (1 * 2 ^ min i.toNat 64)) * c / 18446744073709551616 < hi)), AV.int IntKind.u64 false (IntKind.u64.wrap (q + IntKind.u64.wrap (1 * 2 ^ min i.toNat 64)) * c / 18446744073709551616), AV.int IntKind.u64 false hi, AV.bool false (IntKind.u64.wrap (q + IntKind.u64.wrap (1 * 2 ^ min i.toNat 64)) * c / 18446744073709551616 == hi), AV.bool false (IntKind.u64.wrap (q + IntKind.u64.wrap (1 * 2 ^ min i.toNat 64)) * c / 18446744073709551616 == hi), AV.int IntKind.u64 false (IntKind.u64.wrap (q + IntKind.u64.wrap (1 * 2 ^ min i.toNat 64)) * c % 18446744073709551616), AV.int IntKind.u64 false lo, AV.bool false (decide (IntKind.u64.wrap (q + IntKind.u64.wrap (1 * 2 ^ min i.toNat 64)) * c % 18446744073709551616 ≤ lo)), AV.bool false (decide (IntKind.u64.wrap (q + IntKind.u64.wrap (1 * 2 ^ min i.toNat 64)) * c % 18446744073709551616 ≤ lo)), AV.bool false (decide (IntKind.u64.wrap (q + IntKind.u64.wrap (1 * 2 ^ min i.toNat 64)) * c % 18446744073709551616 ≤ lo)), AV.int IntKind.u64 false q, AV.int IntKind.i64 false i, AV.int IntKind.u64 false (IntKind.u64.wrap (1 * 2 ^ min i.toNat 64)), AV.int IntKind.u64 false (IntKind.u64.wrap (q + IntKind.u64.wrap (1 * 2 ^ min i.toNat 64))), x53], h⟩
def sl_skylightref01_Part_0_5 (c : Int) (hi : Int) (lo : Int) (q : Int) (i : Int) (x0 x1 x3 x4 x5 x6 x7 x12 x13 x14 x15 x16 x17 x18 x19 x20 x21 x22 x23 x24 x25 x26 x27 x28 x29 x30 x31 x32 x33 x34 x35 x36 x37 x38 x39 x40 x41 x42 x43 x44 x45 x46 x47 x48 x49 x50 x51 x52 x53 : AV) (h : AH) : St := ⟨[x0, x1, AV.int IntKind.u64 false c, x3, x4, x5, x6, x7, AV.int IntKind.u64 false hi, AV.int IntKind.u64 false lo, AV.int IntKind.u64 false q, AV.int IntKind.i64 false (IntKind.i64.wrap (i - 1)), AV.int IntKind.u64 false (IntKind.u64.wrap (q + IntKind.u64.wrap (1 * 2 ^ min i.toNat 64)) * c / 18446744073709551616), AV.int IntKind.u64 false (IntKind.u64.wrap (q + IntKind.u64.wrap (1 * 2 ^ min i.toNat 64)) * c % 18446744073709551616), x14, x15, x16, x17, x18, x19, x20, x21, x22, AV.int IntKind.i64 false i, AV.bool false (decide (i ≥ 0)), AV.int IntKind.i64 false i, AV.int IntKind.i64 false (IntKind.i64.wrap (i - 1)), AV.tuple [AV.int IntKind.u64 false (IntKind.u64.wrap (q + IntKind.u64.wrap (1 * 2 ^ min i.toNat 64)) * c / 18446744073709551616), AV.int IntKind.u64 false (IntKind.u64.wrap (q + IntKind.u64.wrap (1 * 2 ^ min i.toNat 64)) * c % 18446744073709551616)], AV.int IntKind.u64 false q, AV.int IntKind.i64 false i, AV.int IntKind.u64 false (IntKind.u64.wrap (1 * 2 ^ min i.toNat 64)), AV.int IntKind.u64 false (IntKind.u64.wrap (q + IntKind.u64.wrap (1 * 2 ^ min i.toNat 64))), AV.int IntKind.u64 false c, AV.tuple [AV.int IntKind.u64 false (IntKind.u64.wrap (q + IntKind.u64.wrap (1 * 2 ^ min i.toNat 64)) * c / 18446744073709551616), AV.int IntKind.u64 false (IntKind.u64.wrap (q + IntKind.u64.wrap (1 * 2 ^ min i.toNat 64)) * c % 18446744073709551616)], AV.int IntKind.u64 false (IntKind.u64.wrap (q + IntKind.u64.wrap (1 * 2 ^ min i.toNat 64)) * c / 18446744073709551616), AV.int IntKind.u64 false (IntKind.u64.wrap (q + IntKind.u64.wrap (1 * 2 ^ min i.toNat 64)) * c % 18446744073709551616), AV.int IntKind.u64 false (IntKind.u64.wrap (q + IntKind.u64.wrap (1 * 2 ^ min i.toNat 64)) * c / 18446744073709551616), AV.int IntKind.u64 false hi, AV.bool false (decide (IntKind.u64.wrap (q + IntKind.u64.wrap (1 * 2 ^ min i.toNat 64)) * c / 18446744073709551616 < hi)), AV.bool false (decide (IntKind.u64.wrap (q + IntKind.u64.wrap (1 * 2 ^ min i.toNat 64)) * c / 18446744073709551616 < hi)), AV.int IntKind.u64 false (IntKind.u64.wrap (q + IntKind.u64.wrap (1 * 2 ^ min i.toNat 64)) * c / 18446744073709551616), AV.int IntKind.u64 false hi, AV.bool false (IntKind.u64.wrap (q + IntKind.u64.wrap (1 * 2 ^ min i.toNat 64)) * c / 18446744073709551616 == hi), AV.bool false (IntKind.u64.wrap (q + IntKind.u64.wrap (1 * 2 ^ min i.toNat 64)) * c / 18446744073709551616 == hi), AV.int IntKind.u64 false (IntKind.u64.wrap (q + IntKind.u64.wrap (1 * 2 ^ min i.toNat 64)) * c % 18446744073709551616), AV.int IntKind.u64 false lo, AV.bool false (decide (IntKind.u64.wrap (q + IntKind.u64.wrap (1 * 2 ^ min i.toNat 64)) * c % 18446744073709551616 ≤ lo)), AV.bool false (decide (IntKind.u64.wrap (q + IntKind.u64.wrap (1 * 2 ^ min i.toNat 64)) * c % 18446744073709551616 ≤ lo)), AV.bool false (decide (IntKind.u64.wrap (q + IntKind.u64.wrap (1 * 2 ^ min i.toNat 64)) * c % 18446744073709551616 ≤ lo)), x49, x50, x51, x52, x53], h⟩
def sl_skylightref01_Part_0_6 (c : Int) (hi : Int) (lo : Int) (q : Int) (i : Int) (x0 x1 x3 x4 x5 x6 x7 x12 x13 x14 x15 x16 x17 x18 x19 x20 x21 x22 x23 x24 x25 x26 x27 x28 x29 x30 x31 x32 x33 x34 x35 x36 x37 x38 x39 x40 x41 x42 x43 x44 x45 x46 x47 x48 x49 x50 x51 x52 x53 : AV) (h : AH) : St := ⟨[x0, x1, AV.int IntKind.u64 false c, x3, x4, x5, x6, x7, AV.int IntKind.u64 false hi, AV.int IntKind.u64 false lo, AV.int IntKind.u64 false q, AV.int IntKind.i64 false (IntKind.i64.wrap (i - 1)), AV.int IntKind.u64 false (IntKind.u64.wrap (q + IntKind.u64.wrap (1 * 2 ^ min i.toNat 64)) * c / 18446744073709551616), AV.int IntKind.u64 false (IntKind.u64.wrap (q + IntKind.u64.wrap (1 * 2 ^ min i.toNat 64)) * c % 18446744073709551616), x14, x15, x16, x17, x18, x19, x20, x21, x22, AV.int IntKind.i64 false i, AV.bool false (decide (i ≥ 0)), AV.int IntKind.i64 false i, AV.int IntKind.i64 false (IntKind.i64.wrap (i - 1)), AV.tuple [AV.int IntKind.u64 false (IntKind.u64.wrap (q + IntKind.u64.wrap (1 * 2 ^ min i.toNat 64)) * c / 18446744073709551616), AV.int IntKind.u64 false (IntKind.u64.wrap (q + IntKind.u64.wrap (1 * 2 ^ min i.toNat 64)) * c % 18446744073709551616)], AV.int IntKind.u64 false q, AV.int IntKind.i64 false i, AV.int IntKind.u64 false (IntKind.u64.wrap (1 * 2 ^ min i.toNat 64)), AV.int IntKind.u64 false (IntKind.u64.wrap (q + IntKind.u64.wrap (1 * 2 ^ min i.toNat 64))), AV.int IntKind.u64 false c, AV.tuple [AV.int IntKind.u64 false (IntKind.u64.wrap (q + IntKind.u64.wrap (1 * 2 ^ min i.toNat 64)) * c / 18446744073709551616), AV.int IntKind.u64 false (IntKind.u64.wrap (q + IntKind.u64.wrap (1 * 2 ^ min i.toNat 64)) * c % 18446744073709551616)], AV.int IntKind.u64 false (IntKind.u64.wrap (q + IntKind.u64.wrap (1 * 2 ^ min i.toNat 64)) * c / 18446744073709551616), AV.int IntKind.u64 false (IntKind.u64.wrap (q + IntKind.u64.wrap (1 * 2 ^ min i.toNat 64)) * c % 18446744073709551616), AV.int IntKind.u64 false (IntKind.u64.wrap (q + IntKind.u64.wrap (1 * 2 ^ min i.toNat 64)) * c / 18446744073709551616), AV.int IntKind.u64 false hi, AV.bool false (decide (IntKind.u64.wrap (q + IntKind.u64.wrap (1 * 2 ^ min i.toNat 64)) * c / 18446744073709551616 < hi)), AV.bool false (decide (IntKind.u64.wrap (q + IntKind.u64.wrap (1 * 2 ^ min i.toNat 64)) * c / 18446744073709551616 < hi)), AV.int IntKind.u64 false (IntKind.u64.wrap (q + IntKind.u64.wrap (1 * 2 ^ min i.toNat 64)) * c / 18446744073709551616), AV.int IntKind.u64 false hi, AV.bool false (IntKind.u64.wrap (q + IntKind.u64.wrap (1 * 2 ^ min i.toNat 64)) * c / 18446744073709551616 == hi), AV.bool false (IntKind.u64.wrap (q + IntKind.u64.wrap (1 * 2 ^ min i.toNat 64)) * c / 18446744073709551616 == hi), AV.tuple [], AV.tuple [], AV.tuple [], AV.bool true false, AV.bool true false, x49, x50, x51, x52, x53], h⟩
def sl_skylightref01_Part_0_7 (c : Int) (hi : Int) (lo : Int) (q : Int) (i : Int) (x0 x1 x3 x4 x5 x6 x7 x12 x13 x14 x15 x16 x17 x18 x19 x20 x21 x22 x23 x24 x25 x26 x27 x28 x29 x30 x31 x32 x33 x34 x35 x36 x37 x38 x39 x40 x41 x42 x43 x44 x45 x46 x47 x48 x49 x50 x51 x52 x53 : AV) (h : AH) : St := ⟨[x0, x1, AV.int IntKind.u64 false c, x3, x4, x5, x6, x7, AV.int IntKind.u64 false hi, AV.int IntKind.u64 false lo, AV.int IntKind.u64 false q, AV.int IntKind.i64 false i, x12, x13, x14, x15, x16, x17, x18, x19, x20, x21, x22, AV.int IntKind.i64 false i, AV.bool false (decide (i ≥ 0)), x25, x26, x27, x28, x29, x30, x31, x32, x33, x34, x35, x36, x37, x38, x39, x40, x41, x42, x43, x44, x45, x46, x47, x48, x49, x50, x51, x52, x53], h⟩
def rd_skylightref01_Part_0 (c : Int) (hi : Int) (lo : Int) (q : Int) (i : Int) (x0 x1 x3 x4 x5 x6 x7 x12 x13 x14 x15 x16 x17 x18 x19 x20 x21 x22 x23 x24 x25 x26 x27 x28 x29 x30 x31 x32 x33 x34 x35 x36 x37 x38 x39 x40 x41 x42 x43 x44 x45 x46 x47 x48 x49 x50 x51 x52 x53 : AV) (h : AH) : Tr (Ex × St) := Tr.node (decide (i ≥ 0)) (Tr.node (decide (i < 0)) (Tr.bad) (Tr.node (decide (IntKind.u64.wrap (q + IntKind.u64.wrap (1 * 2 ^ min i.toNat 64)) * c / 18446744073709551616 < hi)) (Tr.node (decide (i < 0)) (Tr.bad) (Tr.leaf (Ex.normal, sl_skylightref01_Part_0_2 c hi lo q i x0 x1 x3 x4 x5 x6 x7 x12 x13 x14 x15 x16 x17 x18 x19 x20 x21 x22 x23 x24 x25 x26 x27 x28 x29 x30 x31 x32 x33 x34 x35 x36 x37 x38 x39 x40 x41 x42 x43 x44 x45 x46 x47 x48 x49 x50 x51 x52 x53 h))) (Tr.node (IntKind.u64.wrap (q + IntKind.u64.wrap (1 * 2 ^ min i.toNat 64)) * c / 18446744073709551616 == hi) (Tr.node (decide (IntKind.u64.wrap (q + IntKind.u64.wrap (1 * 2 ^ min i.toNat 64)) * c % 18446744073709551616 ≤ lo)) (Tr.node (decide (i < 0)) (Tr.bad) (Tr.leaf (Ex.normal, sl_skylightref01_Part_0_4 c hi lo q i x0 x1 x3 x4 x5 x6 x7 x12 x13 x14 x15 x16 x17 x18 x19 x20 x21 x22 x23 x24 x25 x26 x27 x28 x29 x30 x31 x32 x33 x34 x35 x36 x37 x38 x39 x40 x41 x42 x43 x44 x45 x46 x47 x48 x49 x50 x51 x52 x53 h))) (Tr.leaf (Ex.normal, sl_skylightref01_Part_0_5 c hi lo q i x0 x1 x3 x4 x5 x6 x7 x12 x13 x14 x15 x16 x17 x18 x19 x20 x21 x22 x23 x24 x25 x26 x27 x28 x29 x30 x31 x32 x33 x34 x35 x36 x37 x38 x39 x40 x41 x42 x43 x44 x45 x46 x47 x48 x49 x50 x51 x52 x53 h))) (Tr.leaf (Ex.normal, sl_skylightref01_Part_0_6 c hi lo q i x0 x1 x3 x4 x5 x6 x7 x12 x13 x14 x15 x16 x17 x18 x19 x20 x21 x22 x23 x24 x25 x26 x27 x28 x29 x30 x31 x32 x33 x34 x35 x36 x37 x38 x39 x40 x41 x42 x43 x44 x45 x46 x47 x48 x49 x50 x51 x52 x53 h))))) (Tr.leaf (Ex.exit 0, sl_skylightref01_Part_0_7 c hi lo q i x0 x1 x3 x4 x5 x6 x7 x12 x13 x14 x15 x16 x17 x18 x19 x20 x21 x22 x23 x24 x25 x26 x27 x28 x29 x30 x31 x32 x33 x34 x35 x36 x37 x38 x39 x40 x41 x42 x43 x44 x45 x46 x47 x48 x49 x50 x51 x52 x53 h))
def g_skylightref01_Part_0 : PieceTold := fun l h => match l with | [.int .u64 false c, .int .u64 false hi, .int .u64 false lo, .int .u64 false q, .int .i64 false i] => .node (decide ((0 ≤ c ∧ c ≤ 18446744073709551615) ∧ (0 ≤ lo ∧ lo ≤ 18446744073709551615) ∧ 0 ≤ q ∧ -1 ≤ i ∧ i ≤ 63 ∧ q + 2 ^ (i + 1).toNat ≤ 18446744073709551616)) (.leaf (.normal, [(10, u6 (partGo (i + 1).toNat (hi * 18446744073709551616 + lo) c q))], h)) .bad | _ => .bad
def HR_skylightref01_Part_0 (rnd : Nat → St → Tr (Ex × St)) : Prop := ∀ L (c : Int) (hi : Int) (lo : Int) (q : Int) (i : Int) (x0 x1 x3 x4 x5 x6 x7 x12 x13 x14 x15 x16 x17 x18 x19 x20 x21 x22 x23 x24 x25 x26 x27 x28 x29 x30 x31 x32 x33 x34 x35 x36 x37 x38 x39 x40 x41 x42 x43 x44 x45 x46 x47 x48 x49 x50 x51 x52 x53 : AV) (h : AH), rnd L (st_skylightref01_Part_0 c hi lo q i x0 x1 x3 x4 x5 x6 x7 x12 x13 x14 x15 x16 x17 x18 x19 x20 x21 x22 x23 x24 x25 x26 x27 x28 x29 x30 x31 x32 x33 x34 x35 x36 x37 x38 x39 x40 x41 x42 x43 x44 x45 x46 x47 x48 x49 x50 x51 x52 x53 h) = rd_skylightref01_Part_0 c hi lo q i x0 x1 x3 x4 x5 x6 x7 x12 x13 x14 x15 x16 x17 x18 x19 x20 x21 x22 x23 x24 x25 x26 x27 x28 x29 x30 x31 x32 x33 x34 x35 x36 x37 x38 x39 x40 x41 x42 x43 x44 x45 x46 x47 x48 x49 x50 x51 x52 x53 h
/-- From here the loop ends so. -/
def Fin_skylightref01_Part_0 (rnd : Nat → St → Tr (Ex × St)) (c : Int) (hi : Int) (lo : Int) (q : Int) (i : Int) (e : Ex) (outs : List (Nat × AV)) (hp : AH → AH) : Prop := ∀ (x0 x1 x3 x4 x5 x6 x7 x12 x13 x14 x15 x16 x17 x18 x19 x20 x21 x22 x23 x24 x25 x26 x27 x28 x29 x30 x31 x32 x33 x34 x35 x36 x37 x38 x39 x40 x41 x42 x43 x44 x45 x46 x47 x48 x49 x50 x51 x52 x53 : AV) (h : AH),
    ∃ N s', (∀ L, (loopIterG none (rnd L) (N + 1) (st_skylightref01_Part_0 c hi lo q i x0 x1 x3 x4 x5 x6 x7 x12 x13 x14 x15 x16 x17 x18 x19 x20 x21 x22 x23 x24 x25 x26 x27 x28 x29 x30 x31 x32 x33 x34 x35 x36 x37 x38 x39 x40 x41 x42 x43 x44 x45 x46 x47 x48 x49 x50 x51 x52 x53 h)).run = some (e, s')) ∧ Leaves none 54 [10, 11, 12, 13, 23, 24, 25, 26, 27, 28, 29, 30, 31, 32, 33, 34, 35, 36, 37, 38, 39, 40, 41, 42, 43, 44, 45, 46, 47, 48, 49, 50, 51, 52] (st_skylightref01_Part_0 c hi lo q i x0 x1 x3 x4 x5 x6 x7 x12 x13 x14 x15 x16 x17 x18 x19 x20 x21 x22 x23 x24 x25 x26 x27 x28 x29 x30 x31 x32 x33 x34 x35 x36 x37 x38 x39 x40 x41 x42 x43 x44 x45 x46 x47 x48 x49 x50 x51 x52 x53 h).tmps outs (hp h) s'
theorem step_skylightref01_Part_0_2 {rnd : Nat → St → Tr (Ex × St)} (hr : HR_skylightref01_Part_0 rnd) (c : Int) (hi : Int) (lo : Int) (q : Int) (i : Int) (c0 : (decide (i ≥ 0)) = true) (c1 : (decide (i < 0)) = false) (c2 : (decide (IntKind.u64.wrap (q + IntKind.u64.wrap (1 * 2 ^ min i.toNat 64)) * c / 18446744073709551616 < hi)) = true) (c3 : (decide (i < 0)) = false) {e : Ex} {outs : List (Nat × AV)} {hp : AH → AH} (hn : Fin_skylightref01_Part_0 rnd (c) (hi) (lo) ((IntKind.u64.wrap (q + IntKind.u64.wrap (1 * 2 ^ min i.toNat 64)))) ((IntKind.i64.wrap (i - 1))) e outs hp) : Fin_skylightref01_Part_0 rnd c hi lo q i e outs hp := by
  intro x0 x1 x3 x4 x5 x6 x7 x12 x13 x14 x15 x16 x17 x18 x19 x20 x21 x22 x23 x24 x25 x26 x27 x28 x29 x30 x31 x32 x33 x34 x35 x36 x37 x38 x39 x40 x41 x42 x43 x44 x45 x46 x47 x48 x49 x50 x51 x52 x53 h
  obtain ⟨N, s', h1, h2⟩ := hn (x0) (x1) (x3) (x4) (x5) (x6) (x7) (AV.int IntKind.u64 false (IntKind.u64.wrap (q + IntKind.u64.wrap (1 * 2 ^ min i.toNat 64)) * c / 18446744073709551616)) (AV.int IntKind.u64 false (IntKind.u64.wrap (q + IntKind.u64.wrap (1 * 2 ^ min i.toNat 64)) * c % 18446744073709551616)) (x14) (x15) (x16) (x17) (x18) (x19) (x20) (x21) (x22) (AV.int IntKind.i64 false i) (AV.bool false (decide (i ≥ 0))) (AV.int IntKind.i64 false i) (AV.int IntKind.i64 false (IntKind.i64.wrap (i - 1))) (AV.tuple [AV.int IntKind.u64 false (IntKind.u64.wrap (q + IntKind.u64.wrap (1 * 2 ^ min i.toNat 64)) * c / 18446744073709551616), AV.int IntKind.u64 false (IntKind.u64.wrap (q + IntKind.u64.wrap (1 * 2 ^ min i.toNat 64)) * c % 18446744073709551616)]) (AV.int IntKind.u64 false q) (AV.int IntKind.i64 false i) (AV.int IntKind.u64 false (IntKind.u64.wrap (1 * 2 ^ min i.toNat 64))) (AV.int IntKind.u64 false (IntKind.u64.wrap (q + IntKind.u64.wrap (1 * 2 ^ min i.toNat 64)))) (AV.int IntKind.u64 false c) (AV.tuple [AV.int IntKind.u64 false (IntKind.u64.wrap (q + IntKind.u64.wrap (1 * 2 ^ min i.toNat 64)) * c / 18446744073709551616), AV.int IntKind.u64 false (IntKind.u64.wrap (q + IntKind.u64.wrap (1 * 2 ^ min i.toNat 64)) * c % 18446744073709551616)]) (AV.int IntKind.u64 false (IntKind.u64.wrap (q + IntKind.u64.wrap (1 * 2 ^ min i.toNat 64)) * c / 18446744073709551616)) (AV.int IntKind.u64 false (IntKind.u64.wrap (q + IntKind.u64.wrap (1 * 2 ^ min i.toNat 64)) * c % 18446744073709551616)) (AV.int IntKind.u64 false (IntKind.u64.wrap (q + IntKind.u64.wrap (1 * 2 ^ min i.toNat 64)) * c / 18446744073709551616)) (AV.int IntKind.u64 false hi) (AV.bool false (decide (IntKind.u64.wrap (q + IntKind.u64.wrap (1 * 2 ^ min i.toNat 64)) * c / 18446744073709551616 < hi))) (AV.bool false (decide (IntKind.u64.wrap (q + IntKind.u64.wrap (1 * 2 ^ min i.toNat 64)) * c / 18446744073709551616 < hi))) (AV.tuple []) (AV.tuple []) (AV.tuple []) (AV.tuple []) (AV.tuple []) (AV.tuple []) (AV.tuple []) (AV.tuple []) (AV.bool true true) (AV.int IntKind.u64 false q) (AV.int IntKind.i64 false i) (AV.int IntKind.u64 false (IntKind.u64.wrap (1 * 2 ^ min i.toNat 64))) (AV.int IntKind.u64 false (IntKind.u64.wrap (q + IntKind.u64.wrap (1 * 2 ^ min i.toNat 64)))) (x53) h
  refine ⟨N + 1, s', fun L => ?_, h2.of (s1 := sl_skylightref01_Part_0_2 c hi lo q i x0 x1 x3 x4 x5 x6 x7 x12 x13 x14 x15 x16 x17 x18 x19 x20 x21 x22 x23 x24 x25 x26 x27 x28 x29 x30 x31 x32 x33 x34 x35 x36 x37 x38 x39 x40 x41 x42 x43 x44 x45 x46 x47 x48 x49 x50 x51 x52 x53 h) rfl ((show _ = kl_skylightref01_Part_0 c hi lo q i x0 x1 x3 x4 x5 x6 x7 x12 x13 x14 x15 x16 x17 x18 x19 x20 x21 x22 x23 x24 x25 x26 x27 x28 x29 x30 x31 x32 x33 x34 x35 x36 x37 x38 x39 x40 x41 x42 x43 x44 x45 x46 x47 x48 x49 x50 x51 x52 x53 h from rfl).trans (show kl_skylightref01_Part_0 c hi lo q i x0 x1 x3 x4 x5 x6 x7 x12 x13 x14 x15 x16 x17 x18 x19 x20 x21 x22 x23 x24 x25 x26 x27 x28 x29 x30 x31 x32 x33 x34 x35 x36 x37 x38 x39 x40 x41 x42 x43 x44 x45 x46 x47 x48 x49 x50 x51 x52 x53 h = _ from rfl))⟩
  rw [loopIterG, hr L c hi lo q i x0 x1 x3 x4 x5 x6 x7 x12 x13 x14 x15 x16 x17 x18 x19 x20 x21 x22 x23 x24 x25 x26 x27 x28 x29 x30 x31 x32 x33 x34 x35 x36 x37 x38 x39 x40 x41 x42 x43 x44 x45 x46 x47 x48 x49 x50 x51 x52 x53 h, Tr.run_bind, show (rd_skylightref01_Part_0 c hi lo q i x0 x1 x3 x4 x5 x6 x7 x12 x13 x14 x15 x16 x17 x18 x19 x20 x21 x22 x23 x24 x25 x26 x27 x28 x29 x30 x31 x32 x33 x34 x35 x36 x37 x38 x39 x40 x41 x42 x43 x44 x45 x46 x47 x48 x49 x50 x51 x52 x53 h).run = some (.normal, sl_skylightref01_Part_0_2 c hi lo q i x0 x1 x3 x4 x5 x6 x7 x12 x13 x14 x15 x16 x17 x18 x19 x20 x21 x22 x23 x24 x25 x26 x27 x28 x29 x30 x31 x32 x33 x34 x35 x36 x37 x38 x39 x40 x41 x42 x43 x44 x45 x46 x47 x48 x49 x50 x51 x52 x53 h) from (run_t c0).trans ((run_f c1).trans ((run_t c2).trans ((run_f c3).trans (rfl))))]
  exact h1 L
theorem step_skylightref01_Part_0_4 {rnd : Nat → St → Tr (Ex × St)} (hr : HR_skylightref01_Part_0 rnd) (c : Int) (hi : Int) (lo : Int) (q : Int) (i : Int) (c0 : (decide (i ≥ 0)) = true) (c1 : (decide (i < 0)) = false) (c2 : (decide (IntKind.u64.wrap (q + IntKind.u64.wrap (1 * 2 ^ min i.toNat 64)) * c / 18446744073709551616 < hi)) = false) (c3 : (IntKind.u64.wrap (q + IntKind.u64.wrap (1 * 2 ^ min i.toNat 64)) * c / 18446744073709551616 == hi) = true) (c4 : (decide (IntKind.u64.wrap (q + IntKind.u64.wrap (1 * 2 ^ min i.toNat 64)) * c % 18446744073709551616 ≤ lo)) = true) (c5 : (decide (i < 0)) = false) {e : Ex} {outs : List (Nat × AV)} {hp : AH → AH} (hn : Fin_skylightref01_Part_0 rnd (c) (hi) (lo) ((IntKind.u64.wrap (q + IntKind.u64.wrap (1 * 2 ^ min i.toNat 64)))) ((IntKind.i64.wrap (i - 1))) e outs hp) : Fin_skylightref01_Part_0 rnd c hi lo q i e outs hp := by
  intro x0 x1 x3 x4 x5 x6 x7 x12 x13 x14 x15 x16 x17 x18 x19 x20 x21 x22 x23 x24 x25 x26 x27 x28 x29 x30 x31 x32 x33 x34 x35 x36 x37 x38 x39 x40 x41 x42 x43 x44 x45 x46 x47 x48 x49 x50 x51 x52 x53 h
  obtain ⟨N, s', h1, h2⟩ := hn (x0) (x1) (x3) (x4) (x5) (x6) (x7) (AV.int IntKind.u64 false (IntKind.u64.wrap (q + IntKind.u64.wrap (1 * 2 ^ min i.toNat 64)) * c / 18446744073709551616)) (AV.int IntKind.u64 false (IntKind.u64.wrap (q + IntKind.u64.wrap (1 * 2 ^ min i.toNat 64)) * c % 18446744073709551616)) (x14) (x15) (x16) (x17) (x18) (x19) (x20) (x21) (x22) (AV.int IntKind.i64 false i) (AV.bool false (decide (i ≥ 0))) (AV.int IntKind.i64 false i) (AV.int IntKind.i64 false (IntKind.i64.wrap (i - 1))) (AV.tuple [AV.int IntKind.u64 false (IntKind.u64.wrap (q + IntKind.u64.wrap (1 * 2 ^ min i.toNat 64)) * c / 18446744073709551616), AV.int IntKind.u64 false (IntKind.u64.wrap (q + IntKind.u64.wrap (1 * 2 ^ min i.toNat 64)) * c % 18446744073709551616)]) (AV.int IntKind.u64 false q) (AV.int IntKind.i64 false i) (AV.int IntKind.u64 false (IntKind.u64.wrap (1 * 2 ^ min i.toNat 64))) (AV.int IntKind.u64 false (IntKind.u64.wrap (q + IntKind.u64.wrap (1 * 2 ^ min i.toNat 64)))) (AV.int IntKind.u64 false c) (AV.tuple [AV.int IntKind.u64 false (IntKind.u64.wrap (q + IntKind.u64.wrap (1 * 2 ^ min i.toNat 64)) * c / 18446744073709551616), AV.int IntKind.u64 false (IntKind.u64.wrap (q + IntKind.u64.wrap (1 * 2 ^ min i.toNat 64)) * c % 18446744073709551616)]) (AV.int IntKind.u64 false (IntKind.u64.wrap (q + IntKind.u64.wrap (1 * 2 ^ min i.toNat 64)) * c / 18446744073709551616)) (AV.int IntKind.u64 false (IntKind.u64.wrap (q + IntKind.u64.wrap (1 * 2 ^ min i.toNat 64)) * c % 18446744073709551616)) (AV.int IntKind.u64 false (IntKind.u64.wrap (q + IntKind.u64.wrap (1 * 2 ^ min i.toNat 64)) * c / 18446744073709551616)) (AV.int IntKind.u64 false hi) (AV.bool false (decide (IntKind.u64.wrap (q + IntKind.u64.wrap (1 * 2 ^ min i.toNat 64)) * c / 18446744073709551616 < hi))) (AV.bool false (decide (IntKind.u64.wrap (q + IntKind.u64.wrap (1 * 2 ^ min i.toNat 64)) * c / 18446744073709551616 < hi))) (AV.int IntKind.u64 false (IntKind.u64.wrap (q + IntKind.u64.wrap (1 * 2 ^ min i.toNat 64)) * c / 18446744073709551616)) (AV.int IntKind.u64 false hi) (AV.bool false (IntKind.u64.wrap (q + IntKind.u64.wrap (1 * 2 ^ min i.toNat 64)) * c / 18446744073709551616 == hi)) (AV.bool false (IntKind.u64.wrap (q + IntKind.u64.wrap (1 * 2 ^ min i.toNat 64)) * c / 18446744073709551616 == hi)) (AV.int IntKind.u64 false (IntKind.u64.wrap (q + IntKind.u64.wrap (1 * 2 ^ min i.toNat 64)) * c % 18446744073709551616)) (AV.int IntKind.u64 false lo) (AV.bool false (decide (IntKind.u64.wrap (q + IntKind.u64.wrap (1 * 2 ^ min i.toNat 64)) * c % 18446744073709551616 ≤ lo))) (AV.bool false (decide (IntKind.u64.wrap (q + IntKind.u64.wrap (1 * 2 ^ min i.toNat 64)) * c % 18446744073709551616 ≤ lo))) (AV.bool false (decide (IntKind.u64.wrap (q + IntKind.u64.wrap (1 * 2 ^ min i.toNat 64)) * c % 18446744073709551616 ≤ lo))) (AV.int IntKind.u64 false q) (AV.int IntKind.i64 false i) (AV.int IntKind.u64 false (IntKind.u64.wrap (1 * 2 ^ min i.toNat 64))) (AV.int IntKind.u64 false (IntKind.u64.wrap (q + IntKind.u64.wrap (1 * 2 ^ min i.toNat 64)))) (x53) h
  refine ⟨N + 1, s', fun L => ?_, h2.of (s1 := sl_skylightref01_Part_0_4 c hi lo q i x0 x1 x3 x4 x5 x6 x7 x12 x13 x14 x15 x16 x17 x18 x19 x20 x21 x22 x23 x24 x25 x26 x27 x28 x29 x30 x31 x32 x33 x34 x35 x36 x37 x38 x39 x40 x41 x42 x43 x44 x45 x46 x47 x48 x49 x50 x51 x52 x53 h) rfl ((show _ = kl_skylightref01_Part_0 c hi lo q i x0 x1 x3 x4 x5 x6 x7 x12 x13 x14 x15 x16 x17 x18 x19 x20 x21 x22 x23 x24 x25 x26 x27 x28 x29 x30 x31 x32 x33 x34 x35 x36 x37 x38 x39 x40 x41 x42 x43 x44 x45 x46 x47 x48 x49 x50 x51 x52 x53 h from rfl).trans (show kl_skylightref01_Part_0 c hi lo q i x0 x1 x3 x4 x5 x6 x7 x12 x13 x14 x15 x16 x17 x18 x19 x20 x21 x22 x23 x24 x25 x26 x27 x28 x29 x30 x31 x32 x33 x34 x35 x36 x37 x38 x39 x40 x41 x42 x43 x44 x45 x46 x47 x48 x49 x50 x51 x52 x53 h = _ from rfl))⟩
  rw [loopIterG, hr L c hi lo q i x0 x1 x3 x4 x5 x6 x7 x12 x13 x14 x15 x16 x17 x18 x19 x20 x21 x22 x23 x24 x25 x26 x27 x28 x29 x30 x31 x32 x33 x34 x35 x36 x37 x38 x39 x40 x41 x42 x43 x44 x45 x46 x47 x48 x49 x50 x51 x52 x53 h, Tr.run_bind, show (rd_skylightref01_Part_0 c hi lo q i x0 x1 x3 x4 x5 x6 x7 x12 x13 x14 x15 x16 x17 x18 x19 x20 x21 x22 x23 x24 x25 x26 x27 x28 x29 x30 x31 x32 x33 x34 x35 x36 x37 x38 x39 x40 x41 x42 x43 x44 x45 x46 x47 x48 x49 x50 x51 x52 x53 h).run = some (.normal, sl_skylightref01_Part_0_4 c hi lo q i x0 x1 x3 x4 x5 x6 x7 x12 x13 x14 x15 x16 x17 x18 x19 x20 x21 x22 x23 x24 x25 x26 x27 x28 x29 x30 x31 x32 x33 x34 x35 x36 x37 x38 x39 x40 x41 x42 x43 x44 x45 x46 x47 x48 x49 x50 x51 x52 x53 h) from (run_t c0).trans ((run_f c1).trans ((run_f c2).trans ((run_t c3).trans ((run_t c4).trans ((run_f c5).trans (rfl))))))]
  exact h1 L
theorem step_skylightref01_Part_0_5 {rnd : Nat → St → Tr (Ex × St)} (hr : HR_skylightref01_Part_0 rnd) (c : Int) (hi : Int) (lo : Int) (q : Int) (i : Int) (c0 : (decide (i ≥ 0)) = true) (c1 : (decide (i < 0)) = false) (c2 : (decide (IntKind.u64.wrap (q + IntKind.u64.wrap (1 * 2 ^ min i.toNat 64)) * c / 18446744073709551616 < hi)) = false) (c3 : (IntKind.u64.wrap (q + IntKind.u64.wrap (1 * 2 ^ min i.toNat 64)) * c / 18446744073709551616 == hi) = true) (c4 : (decide (IntKind.u64.wrap (q + IntKind.u64.wrap (1 * 2 ^ min i.toNat 64)) * c % 18446744073709551616 ≤ lo)) = false) {e : Ex} {outs : List (Nat × AV)} {hp : AH → AH} (hn : Fin_skylightref01_Part_0 rnd (c) (hi) (lo) (q) ((IntKind.i64.wrap (i - 1))) e outs hp) : Fin_skylightref01_Part_0 rnd c hi lo q i e outs hp := by
  intro x0 x1 x3 x4 x5 x6 x7 x12 x13 x14 x15 x16 x17 x18 x19 x20 x21 x22 x23 x24 x25 x26 x27 x28 x29 x30 x31 x32 x33 x34 x35 x36 x37 x38 x39 x40 x41 x42 x43 x44 x45 x46 x47 x48 x49 x50 x51 x52 x53 h
  obtain ⟨N, s', h1, h2⟩ := hn (x0) (x1) (x3) (x4) (x5) (x6) (x7) (AV.int IntKind.u64 false (IntKind.u64.wrap (q + IntKind.u64.wrap (1 * 2 ^ min i.toNat 64)) * c / 18446744073709551616)) (AV.int IntKind.u64 false (IntKind.u64.wrap (q + IntKind.u64.wrap (1 * 2 ^ min i.toNat 64)) * c % 18446744073709551616)) (x14) (x15) (x16) (x17) (x18) (x19) (x20) (x21) (x22) (AV.int IntKind.i64 false i) (AV.bool false (decide (i ≥ 0))) (AV.int IntKind.i64 false i) (AV.int IntKind.i64 false (IntKind.i64.wrap (i - 1))) (AV.tuple [AV.int IntKind.u64 false (IntKind.u64.wrap (q + IntKind.u64.wrap (1 * 2 ^ min i.toNat 64)) * c / 18446744073709551616), AV.int IntKind.u64 false (IntKind.u64.wrap (q + IntKind.u64.wrap (1 * 2 ^ min i.toNat 64)) * c % 18446744073709551616)]) (AV.int IntKind.u64 false q) (AV.int IntKind.i64 false i) (AV.int IntKind.u64 false (IntKind.u64.wrap (1 * 2 ^ min i.toNat 64))) (AV.int IntKind.u64 false (IntKind.u64.wrap (q + IntKind.u64.wrap (1 * 2 ^ min i.toNat 64)))) (AV.int IntKind.u64 false c) (AV.tuple [AV.int IntKind.u64 false (IntKind.u64.wrap (q + IntKind.u64.wrap (1 * 2 ^ min i.toNat 64)) * c / 18446744073709551616), AV.int IntKind.u64 false (IntKind.u64.wrap (q + IntKind.u64.wrap (1 * 2 ^ min i.toNat 64)) * c % 18446744073709551616)]) (AV.int IntKind.u64 false (IntKind.u64.wrap (q + IntKind.u64.wrap (1 * 2 ^ min i.toNat 64)) * c / 18446744073709551616)) (AV.int IntKind.u64 false (IntKind.u64.wrap (q + IntKind.u64.wrap (1 * 2 ^ min i.toNat 64)) * c % 18446744073709551616)) (AV.int IntKind.u64 false (IntKind.u64.wrap (q + IntKind.u64.wrap (1 * 2 ^ min i.toNat 64)) * c / 18446744073709551616)) (AV.int IntKind.u64 false hi) (AV.bool false (decide (IntKind.u64.wrap (q + IntKind.u64.wrap (1 * 2 ^ min i.toNat 64)) * c / 18446744073709551616 < hi))) (AV.bool false (decide (IntKind.u64.wrap (q + IntKind.u64.wrap (1 * 2 ^ min i.toNat 64)) * c / 18446744073709551616 < hi))) (AV.int IntKind.u64 false (IntKind.u64.wrap (q + IntKind.u64.wrap (1 * 2 ^ min i.toNat 64)) * c / 18446744073709551616)) (AV.int IntKind.u64 false hi) (AV.bool false (IntKind.u64.wrap (q + IntKind.u64.wrap (1 * 2 ^ min i.toNat 64)) * c / 18446744073709551616 == hi)) (AV.bool false (IntKind.u64.wrap (q + IntKind.u64.wrap (1 * 2 ^ min i.toNat 64)) * c / 18446744073709551616 == hi)) (AV.int IntKind.u64 false (IntKind.u64.wrap (q + IntKind.u64.wrap (1 * 2 ^ min i.toNat 64)) * c % 18446744073709551616)) (AV.int IntKind.u64 false lo) (AV.bool false (decide (IntKind.u64.wrap (q + IntKind.u64.wrap (1 * 2 ^ min i.toNat 64)) * c % 18446744073709551616 ≤ lo))) (AV.bool false (decide (IntKind.u64.wrap (q + IntKind.u64.wrap (1 * 2 ^ min i.toNat 64)) * c % 18446744073709551616 ≤ lo))) (AV.bool false (decide (IntKind.u64.wrap (q + IntKind.u64.wrap (1 * 2 ^ min i.toNat 64)) * c % 18446744073709551616 ≤ lo))) (x49) (x50) (x51) (x52) (x53) h
  refine ⟨N + 1, s', fun L => ?_, h2.of (s1 := sl_skylightref01_Part_0_5 c hi lo q i x0 x1 x3 x4 x5 x6 x7 x12 x13 x14 x15 x16 x17 x18 x19 x20 x21 x22 x23 x24 x25 x26 x27 x28 x29 x30 x31 x32 x33 x34 x35 x36 x37 x38 x39 x40 x41 x42 x43 x44 x45 x46 x47 x48 x49 x50 x51 x52 x53 h) rfl ((show _ = kl_skylightref01_Part_0 c hi lo q i x0 x1 x3 x4 x5 x6 x7 x12 x13 x14 x15 x16 x17 x18 x19 x20 x21 x22 x23 x24 x25 x26 x27 x28 x29 x30 x31 x32 x33 x34 x35 x36 x37 x38 x39 x40 x41 x42 x43 x44 x45 x46 x47 x48 x49 x50 x51 x52 x53 h from rfl).trans (show kl_skylightref01_Part_0 c hi lo q i x0 x1 x3 x4 x5 x6 x7 x12 x13 x14 x15 x16 x17 x18 x19 x20 x21 x22 x23 x24 x25 x26 x27 x28 x29 x30 x31 x32 x33 x34 x35 x36 x37 x38 x39 x40 x41 x42 x43 x44 x45 x46 x47 x48 x49 x50 x51 x52 x53 h = _ from rfl))⟩
  rw [loopIterG, hr L c hi lo q i x0 x1 x3 x4 x5 x6 x7 x12 x13 x14 x15 x16 x17 x18 x19 x20 x21 x22 x23 x24 x25 x26 x27 x28 x29 x30 x31 x32 x33 x34 x35 x36 x37 x38 x39 x40 x41 x42 x43 x44 x45 x46 x47 x48 x49 x50 x51 x52 x53 h, Tr.run_bind, show (rd_skylightref01_Part_0 c hi lo q i x0 x1 x3 x4 x5 x6 x7 x12 x13 x14 x15 x16 x17 x18 x19 x20 x21 x22 x23 x24 x25 x26 x27 x28 x29 x30 x31 x32 x33 x34 x35 x36 x37 x38 x39 x40 x41 x42 x43 x44 x45 x46 x47 x48 x49 x50 x51 x52 x53 h).run = some (.normal, sl_skylightref01_Part_0_5 c hi lo q i x0 x1 x3 x4 x5 x6 x7 x12 x13 x14 x15 x16 x17 x18 x19 x20 x21 x22 x23 x24 x25 x26 x27 x28 x29 x30 x31 x32 x33 x34 x35 x36 x37 x38 x39 x40 x41 x42 x43 x44 x45 x46 x47 x48 x49 x50 x51 x52 x53 h) from (run_t c0).trans ((run_f c1).trans ((run_f c2).trans ((run_t c3).trans ((run_f c4).trans (rfl)))))]
  exact h1 L
theorem step_skylightref01_Part_0_6 {rnd : Nat → St → Tr (Ex × St)} (hr : HR_skylightref01_Part_0 rnd) (c : Int) (hi : Int) (lo : Int) (q : Int) (i : Int) (c0 : (decide (i ≥ 0)) = true) (c1 : (decide (i < 0)) = false) (c2 : (decide (IntKind.u64.wrap (q + IntKind.u64.wrap (1 * 2 ^ min i.toNat 64)) * c / 18446744073709551616 < hi)) = false) (c3 : (IntKind.u64.wrap (q + IntKind.u64.wrap (1 * 2 ^ min i.toNat 64)) * c / 18446744073709551616 == hi) = false) {e : Ex} {outs : List (Nat × AV)} {hp : AH → AH} (hn : Fin_skylightref01_Part_0 rnd (c) (hi) (lo) (q) ((IntKind.i64.wrap (i - 1))) e outs hp) : Fin_skylightref01_Part_0 rnd c hi lo q i e outs hp := by
  intro x0 x1 x3 x4 x5 x6 x7 x12 x13 x14 x15 x16 x17 x18 x19 x20 x21 x22 x23 x24 x25 x26 x27 x28 x29 x30 x31 x32 x33 x34 x35 x36 x37 x38 x39 x40 x41 x42 x43 x44 x45 x46 x47 x48 x49 x50 x51 x52 x53 h
  obtain ⟨N, s', h1, h2⟩ := hn (x0) (x1) (x3) (x4) (x5) (x6) (x7) (AV.int IntKind.u64 false (IntKind.u64.wrap (q + IntKind.u64.wrap (1 * 2 ^ min i.toNat 64)) * c / 18446744073709551616)) (AV.int IntKind.u64 false (IntKind.u64.wrap (q + IntKind.u64.wrap (1 * 2 ^ min i.toNat 64)) * c % 18446744073709551616)) (x14) (x15) (x16) (x17) (x18) (x19) (x20) (x21) (x22) (AV.int IntKind.i64 false i) (AV.bool false (decide (i ≥ 0))) (AV.int IntKind.i64 false i) (AV.int IntKind.i64 false (IntKind.i64.wrap (i - 1))) (AV.tuple [AV.int IntKind.u64 false (IntKind.u64.wrap (q + IntKind.u64.wrap (1 * 2 ^ min i.toNat 64)) * c / 18446744073709551616), AV.int IntKind.u64 false (IntKind.u64.wrap (q + IntKind.u64.wrap (1 * 2 ^ min i.toNat 64)) * c % 18446744073709551616)]) (AV.int IntKind.u64 false q) (AV.int IntKind.i64 false i) (AV.int IntKind.u64 false (IntKind.u64.wrap (1 * 2 ^ min i.toNat 64))) (AV.int IntKind.u64 false (IntKind.u64.wrap (q + IntKind.u64.wrap (1 * 2 ^ min i.toNat 64)))) (AV.int IntKind.u64 false c) (AV.tuple [AV.int IntKind.u64 false (IntKind.u64.wrap (q + IntKind.u64.wrap (1 * 2 ^ min i.toNat 64)) * c / 18446744073709551616), AV.int IntKind.u64 false (IntKind.u64.wrap (q + IntKind.u64.wrap (1 * 2 ^ min i.toNat 64)) * c % 18446744073709551616)]) (AV.int IntKind.u64 false (IntKind.u64.wrap (q + IntKind.u64.wrap (1 * 2 ^ min i.toNat 64)) * c / 18446744073709551616)) (AV.int IntKind.u64 false (IntKind.u64.wrap (q + IntKind.u64.wrap (1 * 2 ^ min i.toNat 64)) * c % 18446744073709551616)) (AV.int IntKind.u64 false (IntKind.u64.wrap (q + IntKind.u64.wrap (1 * 2 ^ min i.toNat 64)) * c / 18446744073709551616)) (AV.int IntKind.u64 false hi) (AV.bool false (decide (IntKind.u64.wrap (q + IntKind.u64.wrap (1 * 2 ^ min i.toNat 64)) * c / 18446744073709551616 < hi))) (AV.bool false (decide (IntKind.u64.wrap (q + IntKind.u64.wrap (1 * 2 ^ min i.toNat 64)) * c / 18446744073709551616 < hi))) (AV.int IntKind.u64 false (IntKind.u64.wrap (q + IntKind.u64.wrap (1 * 2 ^ min i.toNat 64)) * c / 18446744073709551616)) (AV.int IntKind.u64 false hi) (AV.bool false (IntKind.u64.wrap (q + IntKind.u64.wrap (1 * 2 ^ min i.toNat 64)) * c / 18446744073709551616 == hi)) (AV.bool false (IntKind.u64.wrap (q + IntKind.u64.wrap (1 * 2 ^ min i.toNat 64)) * c / 18446744073709551616 == hi)) (AV.tuple []) (AV.tuple []) (AV.tuple []) (AV.bool true false) (AV.bool true false) (x49) (x50) (x51) (x52) (x53) h
  refine ⟨N + 1, s', fun L => ?_, h2.of (s1 := sl_skylightref01_Part_0_6 c hi lo q i x0 x1 x3 x4 x5 x6 x7 x12 x13 x14 x15 x16 x17 x18 x19 x20 x21 x22 x23 x24 x25 x26 x27 x28 x29 x30 x31 x32 x33 x34 x35 x36 x37 x38 x39 x40 x41 x42 x43 x44 x45 x46 x47 x48 x49 x50 x51 x52 x53 h) rfl ((show _ = kl_skylightref01_Part_0 c hi lo q i x0 x1 x3 x4 x5 x6 x7 x12 x13 x14 x15 x16 x17 x18 x19 x20 x21 x22 x23 x24 x25 x26 x27 x28 x29 x30 x31 x32 x33 x34 x35 x36 x37 x38 x39 x40 x41 x42 x43 x44 x45 x46 x47 x48 x49 x50 x51 x52 x53 h from rfl).trans (show kl_skylightref01_Part_0 c hi lo q i x0 x1 x3 x4 x5 x6 x7 x12 x13 x14 x15 x16 x17 x18 x19 x20 x21 x22 x23 x24 x25 x26 x27 x28 x29 x30 x31 x32 x33 x34 x35 x36 x37 x38 x39 x40 x41 x42 x43 x44 x45 x46 x47 x48 x49 x50 x51 x52 x53 h = _ from rfl))⟩
  rw [loopIterG, hr L c hi lo q i x0 x1 x3 x4 x5 x6 x7 x12 x13 x14 x15 x16 x17 x18 x19 x20 x21 x22 x23 x24 x25 x26 x27 x28 x29 x30 x31 x32 x33 x34 x35 x36 x37 x38 x39 x40 x41 x42 x43 x44 x45 x46 x47 x48 x49 x50 x51 x52 x53 h, Tr.run_bind, show (rd_skylightref01_Part_0 c hi lo q i x0 x1 x3 x4 x5 x6 x7 x12 x13 x14 x15 x16 x17 x18 x19 x20 x21 x22 x23 x24 x25 x26 x27 x28 x29 x30 x31 x32 x33 x34 x35 x36 x37 x38 x39 x40 x41 x42 x43 x44 x45 x46 x47 x48 x49 x50 x51 x52 x53 h).run = some (.normal, sl_skylightref01_Part_0_6 c hi lo q i x0 x1 x3 x4 x5 x6 x7 x12 x13 x14 x15 x16 x17 x18 x19 x20 x21 x22 x23 x24 x25 x26 x27 x28 x29 x30 x31 x32 x33 x34 x35 x36 x37 x38 x39 x40 x41 x42 x43 x44 x45 x46 x47 x48 x49 x50 x51 x52 x53 h) from (run_t c0).trans ((run_f c1).trans ((run_f c2).trans ((run_f c3).trans (rfl))))]
  exact h1 L
theorem stop_skylightref01_Part_0_7 {rnd : Nat → St → Tr (Ex × St)} (hr : HR_skylightref01_Part_0 rnd) (c : Int) (hi : Int) (lo : Int) (q : Int) (i : Int) (c0 : (decide (i ≥ 0)) = false) {outs : List (Nat × AV)} {hp : AH → AH} (ho : ∀ (x0 x1 x3 x4 x5 x6 x7 x12 x13 x14 x15 x16 x17 x18 x19 x20 x21 x22 x23 x24 x25 x26 x27 x28 x29 x30 x31 x32 x33 x34 x35 x36 x37 x38 x39 x40 x41 x42 x43 x44 x45 x46 x47 x48 x49 x50 x51 x52 x53 : AV) (h : AH), outs.map (fun p => untag ((sl_skylightref01_Part_0_7 c hi lo q i x0 x1 x3 x4 x5 x6 x7 x12 x13 x14 x15 x16 x17 x18 x19 x20 x21 x22 x23 x24 x25 x26 x27 x28 x29 x30 x31 x32 x33 x34 x35 x36 x37 x38 x39 x40 x41 x42 x43 x44 x45 x46 x47 x48 x49 x50 x51 x52 x53 h).tmps.getD p.1 .undef)) = outs.map (fun p => untag p.2)) (hh : ∀ h : AH, (h).map untagL = (hp h).map untagL) : Fin_skylightref01_Part_0 rnd c hi lo q i (.exit 0) outs hp := by
  intro x0 x1 x3 x4 x5 x6 x7 x12 x13 x14 x15 x16 x17 x18 x19 x20 x21 x22 x23 x24 x25 x26 x27 x28 x29 x30 x31 x32 x33 x34 x35 x36 x37 x38 x39 x40 x41 x42 x43 x44 x45 x46 x47 x48 x49 x50 x51 x52 x53 h
  refine ⟨0, gcSt none (sl_skylightref01_Part_0_7 c hi lo q i x0 x1 x3 x4 x5 x6 x7 x12 x13 x14 x15 x16 x17 x18 x19 x20 x21 x22 x23 x24 x25 x26 x27 x28 x29 x30 x31 x32 x33 x34 x35 x36 x37 x38 x39 x40 x41 x42 x43 x44 x45 x46 x47 x48 x49 x50 x51 x52 x53 h), fun L => ?_, Leaves.stop (s1 := sl_skylightref01_Part_0_7 c hi lo q i x0 x1 x3 x4 x5 x6 x7 x12 x13 x14 x15 x16 x17 x18 x19 x20 x21 x22 x23 x24 x25 x26 x27 x28 x29 x30 x31 x32 x33 x34 x35 x36 x37 x38 x39 x40 x41 x42 x43 x44 x45 x46 x47 x48 x49 x50 x51 x52 x53 h) (hh h) rfl (ho x0 x1 x3 x4 x5 x6 x7 x12 x13 x14 x15 x16 x17 x18 x19 x20 x21 x22 x23 x24 x25 x26 x27 x28 x29 x30 x31 x32 x33 x34 x35 x36 x37 x38 x39 x40 x41 x42 x43 x44 x45 x46 x47 x48 x49 x50 x51 x52 x53 h) ((show _ = kl_skylightref01_Part_0 c hi lo q i x0 x1 x3 x4 x5 x6 x7 x12 x13 x14 x15 x16 x17 x18 x19 x20 x21 x22 x23 x24 x25 x26 x27 x28 x29 x30 x31 x32 x33 x34 x35 x36 x37 x38 x39 x40 x41 x42 x43 x44 x45 x46 x47 x48 x49 x50 x51 x52 x53 h from rfl).trans (show kl_skylightref01_Part_0 c hi lo q i x0 x1 x3 x4 x5 x6 x7 x12 x13 x14 x15 x16 x17 x18 x19 x20 x21 x22 x23 x24 x25 x26 x27 x28 x29 x30 x31 x32 x33 x34 x35 x36 x37 x38 x39 x40 x41 x42 x43 x44 x45 x46 x47 x48 x49 x50 x51 x52 x53 h = _ from rfl))⟩
  rw [loopIterG, hr L c hi lo q i x0 x1 x3 x4 x5 x6 x7 x12 x13 x14 x15 x16 x17 x18 x19 x20 x21 x22 x23 x24 x25 x26 x27 x28 x29 x30 x31 x32 x33 x34 x35 x36 x37 x38 x39 x40 x41 x42 x43 x44 x45 x46 x47 x48 x49 x50 x51 x52 x53 h, Tr.run_bind, show (rd_skylightref01_Part_0 c hi lo q i x0 x1 x3 x4 x5 x6 x7 x12 x13 x14 x15 x16 x17 x18 x19 x20 x21 x22 x23 x24 x25 x26 x27 x28 x29 x30 x31 x32 x33 x34 x35 x36 x37 x38 x39 x40 x41 x42 x43 x44 x45 x46 x47 x48 x49 x50 x51 x52 x53 h).run = some (.exit 0, sl_skylightref01_Part_0_7 c hi lo q i x0 x1 x3 x4 x5 x6 x7 x12 x13 x14 x15 x16 x17 x18 x19 x20 x21 x22 x23 x24 x25 x26 x27 x28 x29 x30 x31 x32 x33 x34 x35 x36 x37 x38 x39 x40 x41 x42 x43 x44 x45 x46 x47 x48 x49 x50 x51 x52 x53 h) from (run_f c0).trans (rfl)]
  rfl
theorem core_skylightref01_Part_0 (rnd : Nat → St → Tr (Ex × St)) (hr : HR_skylightref01_Part_0 rnd) : ∀ (c : Int) (hi : Int) (lo : Int) (q : Int) (i : Int), (0 ≤ c ∧ c ≤ 18446744073709551615) ∧ (0 ≤ lo ∧ lo ≤ 18446744073709551615) ∧ 0 ≤ q ∧ -1 ≤ i ∧ i ≤ 63 ∧ q + 2 ^ (i + 1).toNat ≤ 18446744073709551616 → Fin_skylightref01_Part_0 rnd c hi lo q i (.exit 0) [(10, u6 (partGo (i + 1).toNat (hi * 18446744073709551616 + lo) c q))] (fun h => h) := by
  have key : ∀ (m : Nat) (c hi lo q i : Int), (i + 1).toNat = m → (0 ≤ c ∧ c ≤ 18446744073709551615) ∧ (0 ≤ lo ∧ lo ≤ 18446744073709551615) ∧ 0 ≤ q ∧ -1 ≤ i ∧ i ≤ 63 ∧ q + 2 ^ (i + 1).toNat ≤ 18446744073709551616 →
      Fin_skylightref01_Part_0 rnd c hi lo q i (.exit 0) [(10, u6 (partGo (i + 1).toNat (hi * 18446744073709551616 + lo) c q))] (fun h => h) := by
    intro m
    induction m with
    | zero =>
      intro c hi lo q i hm ⟨h1, h2, h3, h4, h5, h6⟩
      refine stop_skylightref01_Part_0_7 hr c hi lo q i (decide_eq_false (by omega)) ?_ (fun h => rfl)
      intros
      rw [hm]; rfl
    | succ m ih =>
      intro c hi lo q i hm ⟨h1, h2, h3, h4, h5, h6⟩
      have hi' : i.toNat = m := by omega
      rw [hm] at h6 ⊢
      have hp : (0 : Int) < 2 ^ m := Int.pow_pos (by decide)
      have hpe : (2 : Int) ^ (m + 1) = 2 ^ m + 2 ^ m := by rw [Int.pow_succ]; omega
      have e1 : IntKind.u64.wrap (1 * 2 ^ min i.toNat 64) = 2 ^ m := by rw [hi', show min m 64 = m by omega, Int.one_mul]; exact wrap_u64_id (by omega)
      have e2 : IntKind.u64.wrap (q + 2 ^ m) = q + 2 ^ m := wrap_u64_id (by omega)
      have e4 : IntKind.i64.wrap (i - 1) = i - 1 := wrap_i64_id (by omega)
      have hi2 : (i - 1 + 1).toNat = m := by omega
      have yes : (q + 2 ^ m) * c ≤ hi * 18446744073709551616 + lo → Fin_skylightref01_Part_0 rnd c hi lo (q + 2 ^ m) (i - 1) (.exit 0) [(10, u6 (partGo (m + 1) (hi * 18446744073709551616 + lo) c q))] (fun h => h) := by
        intro hc
        have := ih c hi lo (q + 2 ^ m) (i - 1) hi2 ⟨h1, h2, by omega, by omega, by omega, by rw [hi2]; omega⟩
        rw [hi2] at this
        rw [show partGo (m + 1) (hi * 18446744073709551616 + lo) c q = partGo m (hi * 18446744073709551616 + lo) c (q + 2 ^ m) by simp only [partGo]; rw [if_pos hc]]
        exact this
      have no : ¬ ((q + 2 ^ m) * c ≤ hi * 18446744073709551616 + lo) → Fin_skylightref01_Part_0 rnd c hi lo q (i - 1) (.exit 0) [(10, u6 (partGo (m + 1) (hi * 18446744073709551616 + lo) c q))] (fun h => h) := by
        intro hc
        have := ih c hi lo q (i - 1) hi2 ⟨h1, h2, by omega, by omega, by omega, by rw [hi2]; omega⟩
        rw [hi2] at this
        rw [show partGo (m + 1) (hi * 18446744073709551616 + lo) c q = partGo m (hi * 18446744073709551616 + lo) c q by simp only [partGo]; rw [if_neg hc]]
        exact this
      have b0 : decide (i ≥ 0) = true := decide_eq_true (by omega)
      have b1 : decide (i < 0) = false := decide_eq_false (by omega)
      by_cases c2 : (q + 2 ^ m) * c / 18446744073709551616 < hi
      · refine step_skylightref01_Part_0_2 hr c hi lo q i b0 b1 (by rw [e1, e2]; exact decide_eq_true c2) b1 ?_
        rw [e1, e2, e4]; exact yes (by omega)
      · by_cases c3 : (q + 2 ^ m) * c / 18446744073709551616 = hi
        · by_cases c4 : (q + 2 ^ m) * c % 18446744073709551616 ≤ lo
          · refine step_skylightref01_Part_0_4 hr c hi lo q i b0 b1 (by rw [e1, e2]; exact decide_eq_false c2) (by rw [e1, e2]; simpa using c3) (by rw [e1, e2]; exact decide_eq_true c4) b1 ?_
            rw [e1, e2, e4]; exact yes (by omega)
          · refine step_skylightref01_Part_0_5 hr c hi lo q i b0 b1 (by rw [e1, e2]; exact decide_eq_false c2) (by rw [e1, e2]; simpa using c3) (by rw [e1, e2]; exact decide_eq_false c4) ?_
            rw [e4]; exact no (by omega)
        · refine step_skylightref01_Part_0_6 hr c hi lo q i b0 b1 (by rw [e1, e2]; exact decide_eq_false c2) (by rw [e1, e2]; simpa using c3) ?_
          rw [e4]; exact no (by omega)
  exact fun c hi lo q i hc => key _ c hi lo q i rfl hc
theorem piece_skylightref01_Part_0 {P : Program} {T : Table} {O' : Known} {f : FuncId} (hb : blockOf P f 0 = .loop (loopOf P f 0)) (hid : O' 0 = none)
    (hr : HR_skylightref01_Part_0 (fun L => evCode P (evCall P T 16 4) L O' (loopOf P f 0))) :
    ∀ (s : St) (e : Ex) (outs : List (Nat × AV)) (hp : AH), s.tmps.length = 54 → (g_skylightref01_Part_0 (([2, 8, 9, 10, 11] : List Nat).map fun j => untag (s.tmps.getD j .undef)) (s.heap.map untagL)).run = some (e, outs, hp) → ∃ s', Good P T O' f 0 54 [10, 11, 12, 13, 23, 24, 25, 26, 27, 28, 29, 30, 31, 32, 33, 34, 35, 36, 37, 38, 39, 40, 41, 42, 43, 44, 45, 46, 47, 48, 49, 50, 51, 52] s e outs hp s' := by
  intro s e outs hp hk hg
  obtain ⟨tm, h⟩ := s
  have htm : untagL tm = [untag (tm.getD 0 .undef), untag (tm.getD 1 .undef), untag (tm.getD 2 .undef), untag (tm.getD 3 .undef), untag (tm.getD 4 .undef), untag (tm.getD 5 .undef), untag (tm.getD 6 .undef), untag (tm.getD 7 .undef), untag (tm.getD 8 .undef), untag (tm.getD 9 .undef), untag (tm.getD 10 .undef), untag (tm.getD 11 .undef), untag (tm.getD 12 .undef), untag (tm.getD 13 .undef), untag (tm.getD 14 .undef), untag (tm.getD 15 .undef), untag (tm.getD 16 .undef), untag (tm.getD 17 .undef), untag (tm.getD 18 .undef), untag (tm.getD 19 .undef), untag (tm.getD 20 .undef), untag (tm.getD 21 .undef), untag (tm.getD 22 .undef), untag (tm.getD 23 .undef), untag (tm.getD 24 .undef), untag (tm.getD 25 .undef), untag (tm.getD 26 .undef), untag (tm.getD 27 .undef), untag (tm.getD 28 .undef), untag (tm.getD 29 .undef), untag (tm.getD 30 .undef), untag (tm.getD 31 .undef), untag (tm.getD 32 .undef), untag (tm.getD 33 .undef), untag (tm.getD 34 .undef), untag (tm.getD 35 .undef), untag (tm.getD 36 .undef), untag (tm.getD 37 .undef), untag (tm.getD 38 .undef), untag (tm.getD 39 .undef), untag (tm.getD 40 .undef), untag (tm.getD 41 .undef), untag (tm.getD 42 .undef), untag (tm.getD 43 .undef), untag (tm.getD 44 .undef), untag (tm.getD 45 .undef), untag (tm.getD 46 .undef), untag (tm.getD 47 .undef), untag (tm.getD 48 .undef), untag (tm.getD 49 .undef), untag (tm.getD 50 .undef), untag (tm.getD 51 .undef), untag (tm.getD 52 .undef), untag (tm.getD 53 .undef)] := tmps_eq hk
  unfold g_skylightref01_Part_0 at hg
  simp only [List.map_cons, List.map_nil] at hg
  split at hg
  · rename_i c hi lo q i heq
    simp only [List.cons.injEq, and_true] at heq
    obtain ⟨e2, e8, e9, e10, e11⟩ := heq
    simp only [Tr.run] at hg
    split at hg
    · rename_i hc
      simp only [Option.some.injEq, Prod.mk.injEq] at hg
      obtain ⟨rfl, rfl, rfl⟩ := hg
      rw [e2, e8, e9, e10, e11] at htm
      obtain ⟨N, s', h1, h2⟩ := core_skylightref01_Part_0 (fun L => evCode P (evCall P T 16 4) L O' (loopOf P f 0)) hr c hi lo q i (of_decide_eq_true hc) (untag (tm.getD 0 .undef)) (untag (tm.getD 1 .undef)) (untag (tm.getD 3 .undef)) (untag (tm.getD 4 .undef)) (untag (tm.getD 5 .undef)) (untag (tm.getD 6 .undef)) (untag (tm.getD 7 .undef)) (untag (tm.getD 12 .undef)) (untag (tm.getD 13 .undef)) (untag (tm.getD 14 .undef)) (untag (tm.getD 15 .undef)) (untag (tm.getD 16 .undef)) (untag (tm.getD 17 .undef)) (untag (tm.getD 18 .undef)) (untag (tm.getD 19 .undef)) (untag (tm.getD 20 .undef)) (untag (tm.getD 21 .undef)) (untag (tm.getD 22 .undef)) (untag (tm.getD 23 .undef)) (untag (tm.getD 24 .undef)) (untag (tm.getD 25 .undef)) (untag (tm.getD 26 .undef)) (untag (tm.getD 27 .undef)) (untag (tm.getD 28 .undef)) (untag (tm.getD 29 .undef)) (untag (tm.getD 30 .undef)) (untag (tm.getD 31 .undef)) (untag (tm.getD 32 .undef)) (untag (tm.getD 33 .undef)) (untag (tm.getD 34 .undef)) (untag (tm.getD 35 .undef)) (untag (tm.getD 36 .undef)) (untag (tm.getD 37 .undef)) (untag (tm.getD 38 .undef)) (untag (tm.getD 39 .undef)) (untag (tm.getD 40 .undef)) (untag (tm.getD 41 .undef)) (untag (tm.getD 42 .undef)) (untag (tm.getD 43 .undef)) (untag (tm.getD 44 .undef)) (untag (tm.getD 45 .undef)) (untag (tm.getD 46 .undef)) (untag (tm.getD 47 .undef)) (untag (tm.getD 48 .undef)) (untag (tm.getD 49 .undef)) (untag (tm.getD 50 .undef)) (untag (tm.getD 51 .undef)) (untag (tm.getD 52 .undef)) (untag (tm.getD 53 .undef)) (h.map untagL)
      exact ⟨s', good_loop (g := none) (e1 := .exit 0) hb (fun k e => by cases e) 16 4 N (by rw [htm]; exact h1) (by rw [htm]; exact h2)⟩
    · cases hg
  · cases hg

/-! skylightref01.Part -/
def tr_skylightref01_Part (a : Int) (b : Int) (c : Int) : Tr AV := Tr.node (decide (a * b / 18446744073709551616 ≥ c)) (Tr.leaf (AV.tuple [AV.int IntKind.u64 false 0, AV.bool false false])) (Tr.node (decide ((0 ≤ c ∧ c ≤ 18446744073709551615) ∧ (0 ≤ a * b % 18446744073709551616 ∧ a * b % (18446744073709551616 : Int) ≤ 18446744073709551615) ∧ (0 : Int) ≤ 0 ∧ (-1 : Int) ≤ 63 ∧ (63 : Int) ≤ 63 ∧ (18446744073709551616 : Int) ≤ 18446744073709551616)) (Tr.leaf (AV.tuple [AV.int IntKind.u64 false (partGo 64 (a * b / 18446744073709551616 * 18446744073709551616 + a * b % 18446744073709551616) c 0), AV.bool false true])) Tr.bad)
theorem run_skylightref01_Part (a : Int) (b : Int) (c : Int) (h_a : InR .u64 a) (h_b : InR .u64 b) (h_c : InR .u64 c) : (tr_skylightref01_Part a b c).run = some (.tuple [u6 (partQ (a * b) c), bb (decide (a * b / 18446744073709551616 < c))]) := by
  unfold tr_skylightref01_Part
  have ha := inR_u64.1 h_a
  have hb := inR_u64.1 h_b
  have hc := inR_u64.1 h_c
  have hP : 0 ≤ a * b := Int.mul_nonneg (by omega) (by omega)
  unfold partQ
  by_cases c0 : a * b / 18446744073709551616 ≥ c
  · rw [if_neg (by omega), show decide (a * b / 18446744073709551616 < c) = false from decide_eq_false (by omega)]
    exact run_t (decide_eq_true c0)
  · rw [if_pos (by omega), show decide (a * b / 18446744073709551616 < c) = true from decide_eq_true (by omega)]
    refine (run_f (decide_eq_false c0)).trans ((run_t (decide_eq_true ⟨by omega, by omega, by omega, by omega, by omega, by omega⟩)).trans ?_)
    rw [show a * b / 18446744073709551616 * 18446744073709551616 + a * b % 18446744073709551616 = a * b by omega]
    rw [partGo_spec 64 (a * b) c 0 (by omega) (by omega) (by
      rw [show (0 : Int) + 2 ^ 64 = 18446744073709551616 by decide]; omega)]
    rfl

end Go.Sky

/- Trees of functions, and what they come to. -/
set_option linter.unusedSimpArgs false
set_option linter.unusedVariables false
namespace Go.Sky
set_option maxRecDepth 100000

/-! skylightref03.At -/
def tr_skylightref03_At (v : Int) (f_n : Int) (f_d : Int) : Tr AV := Tr.node (!decide (f_d ≥ 1)) (Tr.leaf (AV.int IntKind.i64 false 0)) (Tr.node (!decide (v < 0) == decide (f_n < 0)) (Tr.node (decide (IntKind.u64.wrap (sz v * sz f_n / 18446744073709551616 + sz v * sz f_n % 18446744073709551616) > 0)) (Tr.node (!decide (sz v * sz f_n / 18446744073709551616 < IntKind.u64.wrap f_d)) (Tr.leaf (AV.int IntKind.i64 false (-9223372036854775808))) (Tr.node (decide (partQ (sz v * sz f_n) (IntKind.u64.wrap f_d) > 9223372036854775807)) (Tr.leaf (AV.int IntKind.i64 false (-9223372036854775808))) (Tr.node (partQ (sz v * sz f_n) (IntKind.u64.wrap f_d) * IntKind.u64.wrap f_d / 18446744073709551616 != sz v * sz f_n / 18446744073709551616) (Tr.leaf (AV.int IntKind.i64 false (IntKind.i64.wrap (IntKind.i64.wrap (0 - IntKind.i64.wrap (partQ (sz v * sz f_n) (IntKind.u64.wrap f_d))) - 1)))) (Tr.node (partQ (sz v * sz f_n) (IntKind.u64.wrap f_d) * IntKind.u64.wrap f_d % 18446744073709551616 != sz v * sz f_n % 18446744073709551616) (Tr.leaf (AV.int IntKind.i64 false (IntKind.i64.wrap (IntKind.i64.wrap (0 - IntKind.i64.wrap (partQ (sz v * sz f_n) (IntKind.u64.wrap f_d))) - 1)))) (Tr.leaf (AV.int IntKind.i64 false (IntKind.i64.wrap (0 - IntKind.i64.wrap (partQ (sz v * sz f_n) (IntKind.u64.wrap f_d)))))))))) (Tr.node (decide (sz v * sz f_n / (18446744073709551616 : Int) > 0)) (Tr.node (!decide (sz v * sz f_n / 18446744073709551616 < IntKind.u64.wrap f_d)) (Tr.node (!decide (v < 0) == decide (f_n < 0)) (Tr.leaf (AV.int IntKind.i64 false (-9223372036854775808))) (Tr.leaf (AV.int IntKind.i64 false 9223372036854775807))) (Tr.node (decide (partQ (sz v * sz f_n) (IntKind.u64.wrap f_d) > 9223372036854775807)) (Tr.node (!decide (v < 0) == decide (f_n < 0)) (Tr.leaf (AV.int IntKind.i64 false (-9223372036854775808))) (Tr.leaf (AV.int IntKind.i64 false 9223372036854775807))) (Tr.node (!!decide (v < 0) == decide (f_n < 0)) (Tr.leaf (AV.int IntKind.i64 false (IntKind.i64.wrap (partQ (sz v * sz f_n) (IntKind.u64.wrap f_d))))) (Tr.node (partQ (sz v * sz f_n) (IntKind.u64.wrap f_d) * IntKind.u64.wrap f_d / 18446744073709551616 != sz v * sz f_n / 18446744073709551616) (Tr.leaf (AV.int IntKind.i64 false (IntKind.i64.wrap (IntKind.i64.wrap (0 - IntKind.i64.wrap (partQ (sz v * sz f_n) (IntKind.u64.wrap f_d))) - 1)))) (Tr.node (partQ (sz v * sz f_n) (IntKind.u64.wrap f_d) * IntKind.u64.wrap f_d % 18446744073709551616 != sz v * sz f_n % 18446744073709551616) (Tr.leaf (AV.int IntKind.i64 false (IntKind.i64.wrap (IntKind.i64.wrap (0 - IntKind.i64.wrap (partQ (sz v * sz f_n) (IntKind.u64.wrap f_d))) - 1)))) (Tr.leaf (AV.int IntKind.i64 false (IntKind.i64.wrap (0 - IntKind.i64.wrap (partQ (sz v * sz f_n) (IntKind.u64.wrap f_d))))))))))) (Tr.node (!decide (sz v * sz f_n / 18446744073709551616 < IntKind.u64.wrap f_d)) (Tr.leaf (AV.int IntKind.i64 false 9223372036854775807)) (Tr.node (decide (partQ (sz v * sz f_n) (IntKind.u64.wrap f_d) > 9223372036854775807)) (Tr.leaf (AV.int IntKind.i64 false 9223372036854775807)) (Tr.leaf (AV.int IntKind.i64 false (IntKind.i64.wrap (partQ (sz v * sz f_n) (IntKind.u64.wrap f_d))))))))) (Tr.node (decide (sz v * sz f_n / (18446744073709551616 : Int) > 0)) (Tr.node (!decide (sz v * sz f_n / 18446744073709551616 < IntKind.u64.wrap f_d)) (Tr.node (!decide (v < 0) == decide (f_n < 0)) (Tr.leaf (AV.int IntKind.i64 false (-9223372036854775808))) (Tr.leaf (AV.int IntKind.i64 false 9223372036854775807))) (Tr.node (decide (partQ (sz v * sz f_n) (IntKind.u64.wrap f_d) > 9223372036854775807)) (Tr.node (!decide (v < 0) == decide (f_n < 0)) (Tr.leaf (AV.int IntKind.i64 false (-9223372036854775808))) (Tr.leaf (AV.int IntKind.i64 false 9223372036854775807))) (Tr.node (!!decide (v < 0) == decide (f_n < 0)) (Tr.leaf (AV.int IntKind.i64 false (IntKind.i64.wrap (partQ (sz v * sz f_n) (IntKind.u64.wrap f_d))))) (Tr.node (partQ (sz v * sz f_n) (IntKind.u64.wrap f_d) * IntKind.u64.wrap f_d / 18446744073709551616 != sz v * sz f_n / 18446744073709551616) (Tr.leaf (AV.int IntKind.i64 false (IntKind.i64.wrap (IntKind.i64.wrap (0 - IntKind.i64.wrap (partQ (sz v * sz f_n) (IntKind.u64.wrap f_d))) - 1)))) (Tr.node (partQ (sz v * sz f_n) (IntKind.u64.wrap f_d) * IntKind.u64.wrap f_d % 18446744073709551616 != sz v * sz f_n % 18446744073709551616) (Tr.leaf (AV.int IntKind.i64 false (IntKind.i64.wrap (IntKind.i64.wrap (0 - IntKind.i64.wrap (partQ (sz v * sz f_n) (IntKind.u64.wrap f_d))) - 1)))) (Tr.leaf (AV.int IntKind.i64 false (IntKind.i64.wrap (0 - IntKind.i64.wrap (partQ (sz v * sz f_n) (IntKind.u64.wrap f_d))))))))))) (Tr.node (!decide (sz v * sz f_n / 18446744073709551616 < IntKind.u64.wrap f_d)) (Tr.leaf (AV.int IntKind.i64 false 9223372036854775807)) (Tr.node (decide (partQ (sz v * sz f_n) (IntKind.u64.wrap f_d) > 9223372036854775807)) (Tr.leaf (AV.int IntKind.i64 false 9223372036854775807)) (Tr.leaf (AV.int IntKind.i64 false (IntKind.i64.wrap (partQ (sz v * sz f_n) (IntKind.u64.wrap f_d)))))))))
theorem run_skylightref03_At (v : Int) (f_n : Int) (f_d : Int) (h_v : InR .i64 v) (h_f_n : InR .i64 f_n) (h_f_d : InR .i64 f_d) : (tr_skylightref03_At v f_n f_d).run = some (i6 (atF v f_n f_d)) := by
  unfold tr_skylightref03_At
  have hv := inR_i64.1 h_v
  have hn := inR_i64.1 h_f_n
  have hd := inR_i64.1 h_f_d
  unfold atF
  by_cases d0 : f_d ≥ 1
  rotate_left
  · rw [if_neg (by omega)]; exact run_t (by simpa using d0)
  rw [if_pos (by omega), show IntKind.u64.wrap f_d = f_d from wrap_u64_id (by omega)]
  refine (run_f (by simpa using d0)).trans ?_
  have hM := mul_r hv hn
  obtain ⟨h1, h2⟩ := times_law (a := v) (b := f_n) (sz v * sz f_n) rfl ((decide (v < 0) == decide (f_n < 0)) = false) (by by_cases c1 : v < 0 <;> by_cases c2 : f_n < 0 <;> simp [c1, c2])
  generalize sz v * sz f_n = P at *
  generalize v * f_n = p at *
  have q0 : 0 ≤ P → 0 ≤ P / f_d := fun h => Int.ediv_nonneg h (by omega)
  have q1 := Int.mul_ediv_add_emod P f_d
  have q2 := Int.emod_nonneg P (show f_d ≠ 0 by omega)
  have q3 := Int.emod_lt_of_pos P (show 0 < f_d by omega)
  have q4 : ¬ (P / 18446744073709551616 < f_d) → 18446744073709551616 ≤ P / f_d := fun h => Int.le_ediv_of_mul_le (by omega) (by omega)
  have q5 : p = -P → (P / f_d * f_d = P → p / f_d = -(P / f_d)) ∧ (P / f_d * f_d ≠ P → p / f_d = -(P / f_d) - 1) := by
    intro hp
    rw [Int.mul_comm] at q1
    refine ⟨fun h => ?_, fun h => ?_⟩
    · rw [hp]; exact ediv_of (r := 0) (by rw [Int.mul_neg, Int.mul_comm]; omega) (by omega) (by omega)
    · rw [hp]; exact ediv_of (r := f_d - P % f_d) (by rw [Int.mul_sub, Int.mul_neg, Int.mul_comm f_d (P / f_d)]; omega) (by omega) (by omega)
  rw [Int.mul_comm] at q1
  have hP0 : 0 ≤ P := by
    by_cases hs : (decide (v < 0) == decide (f_n < 0)) = false
    · exact (h1 hs).2
    · exact (h2 hs).2
  have q10 : 0 ≤ P / 18446744073709551616 := by omega
  have q11 : ¬ (P / 18446744073709551616 > 0) → (P / 18446744073709551616 + P % 18446744073709551616) % 18446744073709551616 = P := by omega
  have q8 : P = 0 → P / f_d = 0 := fun h => by rw [h]; exact Int.zero_ediv _
  have q9 : P = 0 → P / f_d * f_d = 0 := fun h => by rw [q8 h]; exact Int.zero_mul _
  cases hx : (decide (v < 0) == decide (f_n < 0))
  · obtain ⟨h3, h4⟩ := h1 hx
    obtain ⟨q6, q7⟩ := q5 h3
    generalize p / f_d = pd at *
    clear hx h1 h2
    refine (run_t rfl).trans ?_
    simp only [Tr.run, i6, Bool.not_false, Bool.not_true, if_true, if_false, Bool.false_eq_true, decide_eq_true_eq, bne_iff_ne, ne_eq, Bool.not_eq_true', decide_eq_false_iff_not, wrap_u64, wrap_i64, sat]
    simp only [partQ]
    (repeat' split) <;> first | rfl | (exfalso; omega) | (congr 2; omega)
  · obtain ⟨h3, h4⟩ := h2 (by simp [hx])
    subst h3
    clear hx h1 h2 q5
    refine (run_f rfl).trans ?_
    simp only [Tr.run, i6, Bool.not_false, Bool.not_true, if_true, if_false, Bool.false_eq_true, decide_eq_true_eq, bne_iff_ne, ne_eq, Bool.not_eq_true', decide_eq_false_iff_not, wrap_u64, wrap_i64, sat]
    simp only [partQ]
    (repeat' split) <;> first | rfl | (exfalso; omega) | (congr 2; omega)

/-! skylightref06.within -/
def tr_skylightref06_within (v_x : Int) (v_y : Int) (v_z : Int) (n : Int) : Tr AV := Tr.node (decide (v_x ≥ IntKind.i64.wrap (0 - n))) (Tr.node (decide (v_x ≤ n)) (Tr.node (decide (v_y ≥ IntKind.i64.wrap (0 - n))) (Tr.node (decide (v_y ≤ n)) (Tr.node (decide (v_z ≥ IntKind.i64.wrap (0 - n))) (Tr.leaf (AV.bool false (decide (v_z ≤ n)))) (Tr.leaf (AV.bool false false))) (Tr.leaf (AV.bool false false))) (Tr.leaf (AV.bool false false))) (Tr.leaf (AV.bool false false))) (Tr.leaf (AV.bool false false))
theorem run_skylightref06_within (v_x : Int) (v_y : Int) (v_z : Int) (n : Int) (h_v_x : InR .i64 v_x) (h_v_y : InR .i64 v_y) (h_v_z : InR .i64 v_z) (h_n : InR .i64 n) (hpre : -9223372036854775808 < n) : (tr_skylightref06_within v_x v_y v_z n).run = some (bb (decide ((-n ≤ v_x ∧ v_x ≤ n) ∧ (-n ≤ v_y ∧ v_y ≤ n) ∧ (-n ≤ v_z ∧ v_z ≤ n)))) := by
  unfold tr_skylightref06_within
  have hn := inR_i64.1 h_n
  simp only [Tr.run, bb, decide_eq_true_eq, wrap_i64]
  (repeat' split) <;> congr 2 <;> first | (symm; rw [decide_eq_false_iff_not]; omega) | (rw [decide_eq_decide]; omega)

end Go.Sky

/- Trees of functions, and what they come to. -/
set_option linter.unusedSimpArgs false
set_option linter.unusedVariables false
namespace Go.Sky
set_option maxRecDepth 100000

/-! skylightref06.Even, block 0 -/
def st_skylightref06_Even_0 (t_x : Int) (t_y : Int) (t_z : Int) (q_x : Int) (q_y : Int) (q_z : Int) (x0 x2 x3 x4 x5 x6 x7 x8 x9 x10 x11 x12 x13 x14 x15 x16 x17 x18 x19 x20 x21 x22 x23 x24 x25 x26 x27 x28 : AV) : St := ⟨[x0, .ptr (some (0, 0)), x2, x3, x4, x5, x6, x7, x8, x9, x10, x11, x12, x13, x14, x15, x16, x17, x18, x19, x20, x21, x22, x23, x24, x25, x26, x27, x28], [[.int .i64 false t_x, .int .i64 false t_y, .int .i64 false t_z], [.int .i64 false q_x, .int .i64 false q_y, .int .i64 false q_z]]⟩
def kl_skylightref06_Even_0 (t_x : Int) (t_y : Int) (t_z : Int) (q_x : Int) (q_y : Int) (q_z : Int) (x0 x2 x3 x4 x5 x6 x7 x8 x9 x10 x11 x12 x13 x14 x15 x16 x17 x18 x19 x20 x21 x22 x23 x24 x25 x26 x27 x28 : AV) : List AV := [untag x0, untag (.ptr (some (0, 0))), untag x2, .undef, .undef, .undef, .undef, .undef, .undef, .undef, .undef, .undef, .undef, .undef, .undef, untag x15, untag x16, untag x17, untag x18, untag x19, untag x20, untag x21, untag x22, untag x23, untag x24, untag x25, untag x26, untag x27, untag x28]
def sl_skylightref06_Even_0_0 (t_x : Int) (t_y : Int) (t_z : Int) (q_x : Int) (q_y : Int) (q_z : Int) (x0 x2 x3 x4 x5 x6 x7 x8 x9 x10 x11 x12 x13 x14 x15 x16 x17 x18 x19 x20 x21 x22 x23 x24 x25 x26 x27 x28 : AV) : St := ⟨[x0, AV.ptr (some (0, 0)), x2, AV.agg [AV.int IntKind.i64 false t_x, AV.int IntKind.i64 false t_y, AV.int IntKind.i64 false t_z], AV.bool false (decide ((-524287 ≤ t_x ∧ t_x ≤ 524287) ∧ (-524287 ≤ t_y ∧ t_y ≤ 524287) ∧ -524287 ≤ t_z ∧ t_z ≤ 524287)), AV.ptr (some (0, 0)), AV.int IntKind.i64 false t_x, AV.int IntKind.i64 false (IntKind.i64.wrap (2 * t_x)), AV.ptr (some (0, 1)), AV.int IntKind.i64 false t_y, AV.int IntKind.i64 false (IntKind.i64.wrap (2 * t_y)), AV.ptr (some (0, 2)), AV.int IntKind.i64 false t_z, AV.int IntKind.i64 false (IntKind.i64.wrap (2 * t_z)), AV.agg [AV.int IntKind.i64 false (IntKind.i64.wrap (2 * t_x)), AV.int IntKind.i64 false (IntKind.i64.wrap (2 * t_y)), AV.int IntKind.i64 false (IntKind.i64.wrap (2 * t_z))], x15, x16, x17, x18, x19, x20, x21, x22, x23, x24, x25, x26, x27, x28], [[AV.int IntKind.i64 false (IntKind.i64.wrap (2 * t_x)), AV.int IntKind.i64 false (IntKind.i64.wrap (2 * t_y)), AV.int IntKind.i64 false (IntKind.i64.wrap (2 * t_z))], [AV.int IntKind.i64 false q_x, AV.int IntKind.i64 false q_y, AV.int IntKind.i64 false q_z]]⟩
def sl_skylightref06_Even_0_1 (t_x : Int) (t_y : Int) (t_z : Int) (q_x : Int) (q_y : Int) (q_z : Int) (x0 x2 x3 x4 x5 x6 x7 x8 x9 x10 x11 x12 x13 x14 x15 x16 x17 x18 x19 x20 x21 x22 x23 x24 x25 x26 x27 x28 : AV) : St := ⟨[x0, AV.ptr (some (0, 0)), x2, AV.agg [AV.int IntKind.i64 false t_x, AV.int IntKind.i64 false t_y, AV.int IntKind.i64 false t_z], AV.bool false (decide ((-524287 ≤ t_x ∧ t_x ≤ 524287) ∧ (-524287 ≤ t_y ∧ t_y ≤ 524287) ∧ -524287 ≤ t_z ∧ t_z ≤ 524287)), x5, x6, x7, x8, x9, x10, x11, x12, x13, x14, x15, x16, x17, x18, x19, x20, x21, x22, x23, x24, x25, x26, x27, x28], [[AV.int IntKind.i64 false t_x, AV.int IntKind.i64 false t_y, AV.int IntKind.i64 false t_z], [AV.int IntKind.i64 false q_x, AV.int IntKind.i64 false q_y, AV.int IntKind.i64 false q_z]]⟩
def rd_skylightref06_Even_0 (t_x : Int) (t_y : Int) (t_z : Int) (q_x : Int) (q_y : Int) (q_z : Int) (x0 x2 x3 x4 x5 x6 x7 x8 x9 x10 x11 x12 x13 x14 x15 x16 x17 x18 x19 x20 x21 x22 x23 x24 x25 x26 x27 x28 : AV) : Tr (Ex × St) := Tr.node true (Tr.node (decide ((-524287 ≤ t_x ∧ t_x ≤ 524287) ∧ (-524287 ≤ t_y ∧ t_y ≤ 524287) ∧ -524287 ≤ t_z ∧ t_z ≤ 524287)) (Tr.leaf (Ex.normal, sl_skylightref06_Even_0_0 t_x t_y t_z q_x q_y q_z x0 x2 x3 x4 x5 x6 x7 x8 x9 x10 x11 x12 x13 x14 x15 x16 x17 x18 x19 x20 x21 x22 x23 x24 x25 x26 x27 x28)) (Tr.leaf (Ex.exit 0, sl_skylightref06_Even_0_1 t_x t_y t_z q_x q_y q_z x0 x2 x3 x4 x5 x6 x7 x8 x9 x10 x11 x12 x13 x14 x15 x16 x17 x18 x19 x20 x21 x22 x23 x24 x25 x26 x27 x28))) (Tr.bad)
def g_skylightref06_Even_0 : PieceTold := fun l h => match l, h with | [.ptr (some (0, 0))], [[.int .i64 false t_x, .int .i64 false t_y, .int .i64 false t_z], [.int .i64 false q_x, .int .i64 false q_y, .int .i64 false q_z]] => .node (decide (1 ≤ mostI t_x t_y t_z ∧ mostI t_x t_y t_z ≤ 4611686018427387904)) (.leaf (.normal, [], [[i6 (upS 20 t_x (mostI t_x t_y t_z)), i6 (upS 20 t_y (mostI t_x t_y t_z)), i6 (upS 20 t_z (mostI t_x t_y t_z))], [.int .i64 false q_x, .int .i64 false q_y, .int .i64 false q_z]])) .bad | _, _ => .bad
def HR_skylightref06_Even_0 (rnd : Nat → St → Tr (Ex × St)) : Prop := ∀ L (t_x : Int) (t_y : Int) (t_z : Int) (q_x : Int) (q_y : Int) (q_z : Int) (x0 x2 x3 x4 x5 x6 x7 x8 x9 x10 x11 x12 x13 x14 x15 x16 x17 x18 x19 x20 x21 x22 x23 x24 x25 x26 x27 x28 : AV), rnd L (st_skylightref06_Even_0 t_x t_y t_z q_x q_y q_z x0 x2 x3 x4 x5 x6 x7 x8 x9 x10 x11 x12 x13 x14 x15 x16 x17 x18 x19 x20 x21 x22 x23 x24 x25 x26 x27 x28) = rd_skylightref06_Even_0 t_x t_y t_z q_x q_y q_z x0 x2 x3 x4 x5 x6 x7 x8 x9 x10 x11 x12 x13 x14 x15 x16 x17 x18 x19 x20 x21 x22 x23 x24 x25 x26 x27 x28
/-- From here the loop ends so. -/
def Fin_skylightref06_Even_0 (rnd : Nat → St → Tr (Ex × St)) (t_x : Int) (t_y : Int) (t_z : Int) (q_x : Int) (q_y : Int) (q_z : Int) (e : Ex) (outs : List (Nat × AV)) (hp : AH → AH) : Prop := ∀ (x0 x2 x3 x4 x5 x6 x7 x8 x9 x10 x11 x12 x13 x14 x15 x16 x17 x18 x19 x20 x21 x22 x23 x24 x25 x26 x27 x28 : AV),
    ∃ N s', (∀ L, (loopIterG none (rnd L) (N + 1) (st_skylightref06_Even_0 t_x t_y t_z q_x q_y q_z x0 x2 x3 x4 x5 x6 x7 x8 x9 x10 x11 x12 x13 x14 x15 x16 x17 x18 x19 x20 x21 x22 x23 x24 x25 x26 x27 x28)).run = some (e, s')) ∧ Leaves none 29 [3, 4, 5, 6, 7, 8, 9, 10, 11, 12, 13, 14] (st_skylightref06_Even_0 t_x t_y t_z q_x q_y q_z x0 x2 x3 x4 x5 x6 x7 x8 x9 x10 x11 x12 x13 x14 x15 x16 x17 x18 x19 x20 x21 x22 x23 x24 x25 x26 x27 x28).tmps outs (hp ([[.int .i64 false t_x, .int .i64 false t_y, .int .i64 false t_z], [.int .i64 false q_x, .int .i64 false q_y, .int .i64 false q_z]])) s'
theorem step_skylightref06_Even_0_0 {rnd : Nat → St → Tr (Ex × St)} (hr : HR_skylightref06_Even_0 rnd) (t_x : Int) (t_y : Int) (t_z : Int) (q_x : Int) (q_y : Int) (q_z : Int) (c0 : true = true) (c1 : (decide ((-524287 ≤ t_x ∧ t_x ≤ 524287) ∧ (-524287 ≤ t_y ∧ t_y ≤ 524287) ∧ -524287 ≤ t_z ∧ t_z ≤ 524287)) = true) {e : Ex} {outs : List (Nat × AV)} {hp : AH → AH} (hh : hp ([[AV.int IntKind.i64 false (IntKind.i64.wrap (2 * t_x)), AV.int IntKind.i64 false (IntKind.i64.wrap (2 * t_y)), AV.int IntKind.i64 false (IntKind.i64.wrap (2 * t_z))], [AV.int IntKind.i64 false q_x, AV.int IntKind.i64 false q_y, AV.int IntKind.i64 false q_z]]) = hp ([[.int .i64 false t_x, .int .i64 false t_y, .int .i64 false t_z], [.int .i64 false q_x, .int .i64 false q_y, .int .i64 false q_z]])) (hn : Fin_skylightref06_Even_0 rnd ((IntKind.i64.wrap (2 * t_x))) ((IntKind.i64.wrap (2 * t_y))) ((IntKind.i64.wrap (2 * t_z))) (q_x) (q_y) (q_z) e outs hp) : Fin_skylightref06_Even_0 rnd t_x t_y t_z q_x q_y q_z e outs hp := by
  intro x0 x2 x3 x4 x5 x6 x7 x8 x9 x10 x11 x12 x13 x14 x15 x16 x17 x18 x19 x20 x21 x22 x23 x24 x25 x26 x27 x28
  obtain ⟨N, s', h1, h2⟩ := hn (x0) (x2) (AV.agg [AV.int IntKind.i64 false t_x, AV.int IntKind.i64 false t_y, AV.int IntKind.i64 false t_z]) (AV.bool false (decide ((-524287 ≤ t_x ∧ t_x ≤ 524287) ∧ (-524287 ≤ t_y ∧ t_y ≤ 524287) ∧ -524287 ≤ t_z ∧ t_z ≤ 524287))) (AV.ptr (some (0, 0))) (AV.int IntKind.i64 false t_x) (AV.int IntKind.i64 false (IntKind.i64.wrap (2 * t_x))) (AV.ptr (some (0, 1))) (AV.int IntKind.i64 false t_y) (AV.int IntKind.i64 false (IntKind.i64.wrap (2 * t_y))) (AV.ptr (some (0, 2))) (AV.int IntKind.i64 false t_z) (AV.int IntKind.i64 false (IntKind.i64.wrap (2 * t_z))) (AV.agg [AV.int IntKind.i64 false (IntKind.i64.wrap (2 * t_x)), AV.int IntKind.i64 false (IntKind.i64.wrap (2 * t_y)), AV.int IntKind.i64 false (IntKind.i64.wrap (2 * t_z))]) (x15) (x16) (x17) (x18) (x19) (x20) (x21) (x22) (x23) (x24) (x25) (x26) (x27) (x28)
  refine ⟨N + 1, s', fun L => ?_, hh ▸ h2.of (s1 := sl_skylightref06_Even_0_0 t_x t_y t_z q_x q_y q_z x0 x2 x3 x4 x5 x6 x7 x8 x9 x10 x11 x12 x13 x14 x15 x16 x17 x18 x19 x20 x21 x22 x23 x24 x25 x26 x27 x28) rfl ((show _ = kl_skylightref06_Even_0 t_x t_y t_z q_x q_y q_z x0 x2 x3 x4 x5 x6 x7 x8 x9 x10 x11 x12 x13 x14 x15 x16 x17 x18 x19 x20 x21 x22 x23 x24 x25 x26 x27 x28 from rfl).trans (show kl_skylightref06_Even_0 t_x t_y t_z q_x q_y q_z x0 x2 x3 x4 x5 x6 x7 x8 x9 x10 x11 x12 x13 x14 x15 x16 x17 x18 x19 x20 x21 x22 x23 x24 x25 x26 x27 x28 = _ from rfl))⟩
  rw [loopIterG, hr L t_x t_y t_z q_x q_y q_z x0 x2 x3 x4 x5 x6 x7 x8 x9 x10 x11 x12 x13 x14 x15 x16 x17 x18 x19 x20 x21 x22 x23 x24 x25 x26 x27 x28, Tr.run_bind, show (rd_skylightref06_Even_0 t_x t_y t_z q_x q_y q_z x0 x2 x3 x4 x5 x6 x7 x8 x9 x10 x11 x12 x13 x14 x15 x16 x17 x18 x19 x20 x21 x22 x23 x24 x25 x26 x27 x28).run = some (.normal, sl_skylightref06_Even_0_0 t_x t_y t_z q_x q_y q_z x0 x2 x3 x4 x5 x6 x7 x8 x9 x10 x11 x12 x13 x14 x15 x16 x17 x18 x19 x20 x21 x22 x23 x24 x25 x26 x27 x28) from (run_t c0).trans ((run_t c1).trans (rfl))]
  exact h1 L
theorem stop_skylightref06_Even_0_1 {rnd : Nat → St → Tr (Ex × St)} (hr : HR_skylightref06_Even_0 rnd) (t_x : Int) (t_y : Int) (t_z : Int) (q_x : Int) (q_y : Int) (q_z : Int) (c0 : true = true) (c1 : (decide ((-524287 ≤ t_x ∧ t_x ≤ 524287) ∧ (-524287 ≤ t_y ∧ t_y ≤ 524287) ∧ -524287 ≤ t_z ∧ t_z ≤ 524287)) = false) {outs : List (Nat × AV)} {hp : AH → AH} (ho : ∀ (x0 x2 x3 x4 x5 x6 x7 x8 x9 x10 x11 x12 x13 x14 x15 x16 x17 x18 x19 x20 x21 x22 x23 x24 x25 x26 x27 x28 : AV), outs.map (fun p => untag ((sl_skylightref06_Even_0_1 t_x t_y t_z q_x q_y q_z x0 x2 x3 x4 x5 x6 x7 x8 x9 x10 x11 x12 x13 x14 x15 x16 x17 x18 x19 x20 x21 x22 x23 x24 x25 x26 x27 x28).tmps.getD p.1 .undef)) = outs.map (fun p => untag p.2)) (hh : ∀ h : AH, ([[AV.int IntKind.i64 false t_x, AV.int IntKind.i64 false t_y, AV.int IntKind.i64 false t_z], [AV.int IntKind.i64 false q_x, AV.int IntKind.i64 false q_y, AV.int IntKind.i64 false q_z]]).map untagL = (hp ([[.int .i64 false t_x, .int .i64 false t_y, .int .i64 false t_z], [.int .i64 false q_x, .int .i64 false q_y, .int .i64 false q_z]])).map untagL) : Fin_skylightref06_Even_0 rnd t_x t_y t_z q_x q_y q_z (.exit 0) outs hp := by
  intro x0 x2 x3 x4 x5 x6 x7 x8 x9 x10 x11 x12 x13 x14 x15 x16 x17 x18 x19 x20 x21 x22 x23 x24 x25 x26 x27 x28
  refine ⟨0, gcSt none (sl_skylightref06_Even_0_1 t_x t_y t_z q_x q_y q_z x0 x2 x3 x4 x5 x6 x7 x8 x9 x10 x11 x12 x13 x14 x15 x16 x17 x18 x19 x20 x21 x22 x23 x24 x25 x26 x27 x28), fun L => ?_, Leaves.stop (s1 := sl_skylightref06_Even_0_1 t_x t_y t_z q_x q_y q_z x0 x2 x3 x4 x5 x6 x7 x8 x9 x10 x11 x12 x13 x14 x15 x16 x17 x18 x19 x20 x21 x22 x23 x24 x25 x26 x27 x28) (hh []) rfl (ho x0 x2 x3 x4 x5 x6 x7 x8 x9 x10 x11 x12 x13 x14 x15 x16 x17 x18 x19 x20 x21 x22 x23 x24 x25 x26 x27 x28) ((show _ = kl_skylightref06_Even_0 t_x t_y t_z q_x q_y q_z x0 x2 x3 x4 x5 x6 x7 x8 x9 x10 x11 x12 x13 x14 x15 x16 x17 x18 x19 x20 x21 x22 x23 x24 x25 x26 x27 x28 from rfl).trans (show kl_skylightref06_Even_0 t_x t_y t_z q_x q_y q_z x0 x2 x3 x4 x5 x6 x7 x8 x9 x10 x11 x12 x13 x14 x15 x16 x17 x18 x19 x20 x21 x22 x23 x24 x25 x26 x27 x28 = _ from rfl))⟩
  rw [loopIterG, hr L t_x t_y t_z q_x q_y q_z x0 x2 x3 x4 x5 x6 x7 x8 x9 x10 x11 x12 x13 x14 x15 x16 x17 x18 x19 x20 x21 x22 x23 x24 x25 x26 x27 x28, Tr.run_bind, show (rd_skylightref06_Even_0 t_x t_y t_z q_x q_y q_z x0 x2 x3 x4 x5 x6 x7 x8 x9 x10 x11 x12 x13 x14 x15 x16 x17 x18 x19 x20 x21 x22 x23 x24 x25 x26 x27 x28).run = some (.exit 0, sl_skylightref06_Even_0_1 t_x t_y t_z q_x q_y q_z x0 x2 x3 x4 x5 x6 x7 x8 x9 x10 x11 x12 x13 x14 x15 x16 x17 x18 x19 x20 x21 x22 x23 x24 x25 x26 x27 x28) from (run_t c0).trans ((run_f c1).trans (rfl))]
  rfl
theorem core_skylightref06_Even_0 (rnd : Nat → St → Tr (Ex × St)) (hr : HR_skylightref06_Even_0 rnd) : ∀ (t_x : Int) (t_y : Int) (t_z : Int) (q_x : Int) (q_y : Int) (q_z : Int), 1 ≤ mostI t_x t_y t_z ∧ mostI t_x t_y t_z ≤ 4611686018427387904 → Fin_skylightref06_Even_0 rnd t_x t_y t_z q_x q_y q_z (.exit 0) [] (fun _ => [[i6 (upS 20 t_x (mostI t_x t_y t_z)), i6 (upS 20 t_y (mostI t_x t_y t_z)), i6 (upS 20 t_z (mostI t_x t_y t_z))], [.int .i64 false q_x, .int .i64 false q_y, .int .i64 false q_z]]) := by
  have key : ∀ (k : Nat) (t_x t_y t_z q_x q_y q_z : Int), (1 ≤ mostI t_x t_y t_z ∧ mostI t_x t_y t_z ≤ 4611686018427387904) ∧ 524288 ≤ mostI t_x t_y t_z * 2 ^ k →
      Fin_skylightref06_Even_0 rnd t_x t_y t_z q_x q_y q_z (.exit 0) [] (fun _ => [[i6 (upS k t_x (mostI t_x t_y t_z)), i6 (upS k t_y (mostI t_x t_y t_z)), i6 (upS k t_z (mostI t_x t_y t_z))], [.int .i64 false q_x, .int .i64 false q_y, .int .i64 false q_z]]) := by
    intro k
    induction k with
    | zero =>
      intro t_x t_y t_z q_x q_y q_z ⟨⟨h1, h2⟩, hk⟩
      obtain ⟨hx, hy, hz, hm⟩ := most_spec h2
      exact stop_skylightref06_Even_0_1 hr t_x t_y t_z q_x q_y q_z rfl (decide_eq_false (by omega)) (by intros; rfl) (fun h => rfl)
    | succ k ih =>
      intro t_x t_y t_z q_x q_y q_z ⟨⟨h1, h2⟩, hk⟩
      obtain ⟨hx, hy, hz, hm⟩ := most_spec h2
      by_cases hc : mostI t_x t_y t_z < 524288
      · refine step_skylightref06_Even_0_0 hr t_x t_y t_z q_x q_y q_z rfl (decide_eq_true (by omega)) rfl ?_
        rw [wrap_i64_id (n := 2 * t_x) (by omega), wrap_i64_id (n := 2 * t_y) (by omega), wrap_i64_id (n := 2 * t_z) (by omega)]
        simp only [upS, if_pos hc]
        have hd := most_double (x := t_x) (y := t_y) (z := t_z) (by omega)
        have := ih (2 * t_x) (2 * t_y) (2 * t_z) q_x q_y q_z (by
          rw [hd]
          have : mostI t_x t_y t_z * 2 ^ (k + 1) = 2 * mostI t_x t_y t_z * 2 ^ k := by rw [Int.pow_succ]; grind
          omega)
        rw [hd] at this
        exact this
      · refine stop_skylightref06_Even_0_1 hr t_x t_y t_z q_x q_y q_z rfl (decide_eq_false (by omega)) (by intros; rfl) (fun h => ?_)
        simp only [upS, if_neg hc]; rfl
  exact fun t_x t_y t_z q_x q_y q_z hc => key 20 t_x t_y t_z q_x q_y q_z ⟨hc, by omega⟩
theorem piece_skylightref06_Even_0 {P : Program} {T : Table} {O' : Known} {f : FuncId} (hb : blockOf P f 0 = .loop (loopOf P f 0)) (hid : O' 0 = none)
    (hr : HR_skylightref06_Even_0 (fun L => evCode P (evCall P T 16 6) L O' (loopOf P f 0))) :
    ∀ (s : St) (e : Ex) (outs : List (Nat × AV)) (hp : AH), s.tmps.length = 29 → (g_skylightref06_Even_0 (([1] : List Nat).map fun j => untag (s.tmps.getD j .undef)) (s.heap.map untagL)).run = some (e, outs, hp) → ∃ s', Good P T O' f 0 29 [3, 4, 5, 6, 7, 8, 9, 10, 11, 12, 13, 14] s e outs hp s' := by
  intro s e outs hp hk hg
  obtain ⟨tm, h⟩ := s
  have htm : untagL tm = [untag (tm.getD 0 .undef), untag (tm.getD 1 .undef), untag (tm.getD 2 .undef), untag (tm.getD 3 .undef), untag (tm.getD 4 .undef), untag (tm.getD 5 .undef), untag (tm.getD 6 .undef), untag (tm.getD 7 .undef), untag (tm.getD 8 .undef), untag (tm.getD 9 .undef), untag (tm.getD 10 .undef), untag (tm.getD 11 .undef), untag (tm.getD 12 .undef), untag (tm.getD 13 .undef), untag (tm.getD 14 .undef), untag (tm.getD 15 .undef), untag (tm.getD 16 .undef), untag (tm.getD 17 .undef), untag (tm.getD 18 .undef), untag (tm.getD 19 .undef), untag (tm.getD 20 .undef), untag (tm.getD 21 .undef), untag (tm.getD 22 .undef), untag (tm.getD 23 .undef), untag (tm.getD 24 .undef), untag (tm.getD 25 .undef), untag (tm.getD 26 .undef), untag (tm.getD 27 .undef), untag (tm.getD 28 .undef)] := tmps_eq hk
  unfold g_skylightref06_Even_0 at hg
  simp only [List.map_cons, List.map_nil] at hg
  split at hg
  · rename_i t_x t_y t_z q_x q_y q_z heq hheap
    simp only [List.cons.injEq, and_true] at heq
    have e1 := heq
    simp only [Tr.run] at hg
    split at hg
    · rename_i hc
      simp only [Option.some.injEq, Prod.mk.injEq] at hg
      obtain ⟨rfl, rfl, rfl⟩ := hg
      rw [e1] at htm
      obtain ⟨N, s', h1, h2⟩ := core_skylightref06_Even_0 (fun L => evCode P (evCall P T 16 6) L O' (loopOf P f 0)) hr t_x t_y t_z q_x q_y q_z (of_decide_eq_true hc) (untag (tm.getD 0 .undef)) (untag (tm.getD 2 .undef)) (untag (tm.getD 3 .undef)) (untag (tm.getD 4 .undef)) (untag (tm.getD 5 .undef)) (untag (tm.getD 6 .undef)) (untag (tm.getD 7 .undef)) (untag (tm.getD 8 .undef)) (untag (tm.getD 9 .undef)) (untag (tm.getD 10 .undef)) (untag (tm.getD 11 .undef)) (untag (tm.getD 12 .undef)) (untag (tm.getD 13 .undef)) (untag (tm.getD 14 .undef)) (untag (tm.getD 15 .undef)) (untag (tm.getD 16 .undef)) (untag (tm.getD 17 .undef)) (untag (tm.getD 18 .undef)) (untag (tm.getD 19 .undef)) (untag (tm.getD 20 .undef)) (untag (tm.getD 21 .undef)) (untag (tm.getD 22 .undef)) (untag (tm.getD 23 .undef)) (untag (tm.getD 24 .undef)) (untag (tm.getD 25 .undef)) (untag (tm.getD 26 .undef)) (untag (tm.getD 27 .undef)) (untag (tm.getD 28 .undef)) 
      exact ⟨s', good_loop (g := none) (e1 := .exit 0) hb (fun k e => by cases e) 16 6 N (by rw [htm, hheap]; exact h1) (by rw [htm]; exact h2)⟩
    · cases hg
  · cases hg

/-! skylightref06.Even, block 2 -/
def st_skylightref06_Even_2 (t_x : Int) (t_y : Int) (t_z : Int) (q_x : Int) (q_y : Int) (q_z : Int) (x0 x2 x3 x4 x5 x6 x7 x8 x9 x10 x11 x12 x13 x14 x15 x16 x17 x18 x19 x20 x21 x22 x23 x24 x25 x26 x27 x28 : AV) : St := ⟨[x0, .ptr (some (0, 0)), x2, x3, x4, x5, x6, x7, x8, x9, x10, x11, x12, x13, x14, x15, x16, x17, x18, x19, x20, x21, x22, x23, x24, x25, x26, x27, x28], [[.int .i64 false t_x, .int .i64 false t_y, .int .i64 false t_z], [.int .i64 false q_x, .int .i64 false q_y, .int .i64 false q_z]]⟩
def kl_skylightref06_Even_2 (t_x : Int) (t_y : Int) (t_z : Int) (q_x : Int) (q_y : Int) (q_z : Int) (x0 x2 x3 x4 x5 x6 x7 x8 x9 x10 x11 x12 x13 x14 x15 x16 x17 x18 x19 x20 x21 x22 x23 x24 x25 x26 x27 x28 : AV) : List AV := [untag x0, untag (.ptr (some (0, 0))), untag x2, untag x3, untag x4, untag x5, untag x6, untag x7, untag x8, untag x9, untag x10, untag x11, untag x12, untag x13, untag x14, .undef, .undef, .undef, .undef, .undef, .undef, .undef, .undef, .undef, .undef, .undef, .undef, .undef, untag x28]
def sl_skylightref06_Even_2_0 (t_x : Int) (t_y : Int) (t_z : Int) (q_x : Int) (q_y : Int) (q_z : Int) (x0 x2 x3 x4 x5 x6 x7 x8 x9 x10 x11 x12 x13 x14 x15 x16 x17 x18 x19 x20 x21 x22 x23 x24 x25 x26 x27 x28 : AV) : St := ⟨[x0, AV.ptr (some (0, 0)), x2, x3, x4, x5, x6, x7, x8, x9, x10, x11, x12, x13, x14, AV.agg [AV.int IntKind.i64 false t_x, AV.int IntKind.i64 false t_y, AV.int IntKind.i64 false t_z], AV.bool false (decide ((-1048575 ≤ t_x ∧ t_x ≤ 1048575) ∧ (-1048575 ≤ t_y ∧ t_y ≤ 1048575) ∧ -1048575 ≤ t_z ∧ t_z ≤ 1048575)), AV.bool false !decide ((-1048575 ≤ t_x ∧ t_x ≤ 1048575) ∧ (-1048575 ≤ t_y ∧ t_y ≤ 1048575) ∧ -1048575 ≤ t_z ∧ t_z ≤ 1048575), AV.ptr (some (0, 0)), AV.int IntKind.i64 false t_x, AV.int IntKind.i64 false (towS t_x 2), AV.ptr (some (0, 1)), AV.int IntKind.i64 false t_y, AV.int IntKind.i64 false (towS t_y 2), AV.ptr (some (0, 2)), AV.int IntKind.i64 false t_z, AV.int IntKind.i64 false (towS t_z 2), AV.agg [AV.int IntKind.i64 false (towS t_x 2), AV.int IntKind.i64 false (towS t_y 2), AV.int IntKind.i64 false (towS t_z 2)], x28], [[AV.int IntKind.i64 false (towS t_x 2), AV.int IntKind.i64 false (towS t_y 2), AV.int IntKind.i64 false (towS t_z 2)], [AV.int IntKind.i64 false q_x, AV.int IntKind.i64 false q_y, AV.int IntKind.i64 false q_z]]⟩
def sl_skylightref06_Even_2_1 (t_x : Int) (t_y : Int) (t_z : Int) (q_x : Int) (q_y : Int) (q_z : Int) (x0 x2 x3 x4 x5 x6 x7 x8 x9 x10 x11 x12 x13 x14 x15 x16 x17 x18 x19 x20 x21 x22 x23 x24 x25 x26 x27 x28 : AV) : St := ⟨[x0, AV.ptr (some (0, 0)), x2, x3, x4, x5, x6, x7, x8, x9, x10, x11, x12, x13, x14, AV.agg [AV.int IntKind.i64 false t_x, AV.int IntKind.i64 false t_y, AV.int IntKind.i64 false t_z], AV.bool false (decide ((-1048575 ≤ t_x ∧ t_x ≤ 1048575) ∧ (-1048575 ≤ t_y ∧ t_y ≤ 1048575) ∧ -1048575 ≤ t_z ∧ t_z ≤ 1048575)), AV.bool false !decide ((-1048575 ≤ t_x ∧ t_x ≤ 1048575) ∧ (-1048575 ≤ t_y ∧ t_y ≤ 1048575) ∧ -1048575 ≤ t_z ∧ t_z ≤ 1048575), x18, x19, x20, x21, x22, x23, x24, x25, x26, x27, x28], [[AV.int IntKind.i64 false t_x, AV.int IntKind.i64 false t_y, AV.int IntKind.i64 false t_z], [AV.int IntKind.i64 false q_x, AV.int IntKind.i64 false q_y, AV.int IntKind.i64 false q_z]]⟩
def rd_skylightref06_Even_2 (t_x : Int) (t_y : Int) (t_z : Int) (q_x : Int) (q_y : Int) (q_z : Int) (x0 x2 x3 x4 x5 x6 x7 x8 x9 x10 x11 x12 x13 x14 x15 x16 x17 x18 x19 x20 x21 x22 x23 x24 x25 x26 x27 x28 : AV) : Tr (Ex × St) := Tr.node true (Tr.node (!decide ((-1048575 ≤ t_x ∧ t_x ≤ 1048575) ∧ (-1048575 ≤ t_y ∧ t_y ≤ 1048575) ∧ -1048575 ≤ t_z ∧ t_z ≤ 1048575)) (Tr.leaf (Ex.normal, sl_skylightref06_Even_2_0 t_x t_y t_z q_x q_y q_z x0 x2 x3 x4 x5 x6 x7 x8 x9 x10 x11 x12 x13 x14 x15 x16 x17 x18 x19 x20 x21 x22 x23 x24 x25 x26 x27 x28)) (Tr.leaf (Ex.exit 2, sl_skylightref06_Even_2_1 t_x t_y t_z q_x q_y q_z x0 x2 x3 x4 x5 x6 x7 x8 x9 x10 x11 x12 x13 x14 x15 x16 x17 x18 x19 x20 x21 x22 x23 x24 x25 x26 x27 x28))) (Tr.bad)
def g_skylightref06_Even_2 : PieceTold := fun l h => match l, h with | [.ptr (some (0, 0))], [[.int .i64 false t_x, .int .i64 false t_y, .int .i64 false t_z], [.int .i64 false q_x, .int .i64 false q_y, .int .i64 false q_z]] => .node (decide (mostI t_x t_y t_z ≤ 4611686018427387904)) (.leaf (.normal, [], [[i6 (downS 45 t_x (mostI t_x t_y t_z)), i6 (downS 45 t_y (mostI t_x t_y t_z)), i6 (downS 45 t_z (mostI t_x t_y t_z))], [.int .i64 false q_x, .int .i64 false q_y, .int .i64 false q_z]])) .bad | _, _ => .bad
def HR_skylightref06_Even_2 (rnd : Nat → St → Tr (Ex × St)) : Prop := ∀ L (t_x : Int) (t_y : Int) (t_z : Int) (q_x : Int) (q_y : Int) (q_z : Int) (x0 x2 x3 x4 x5 x6 x7 x8 x9 x10 x11 x12 x13 x14 x15 x16 x17 x18 x19 x20 x21 x22 x23 x24 x25 x26 x27 x28 : AV), rnd L (st_skylightref06_Even_2 t_x t_y t_z q_x q_y q_z x0 x2 x3 x4 x5 x6 x7 x8 x9 x10 x11 x12 x13 x14 x15 x16 x17 x18 x19 x20 x21 x22 x23 x24 x25 x26 x27 x28) = rd_skylightref06_Even_2 t_x t_y t_z q_x q_y q_z x0 x2 x3 x4 x5 x6 x7 x8 x9 x10 x11 x12 x13 x14 x15 x16 x17 x18 x19 x20 x21 x22 x23 x24 x25 x26 x27 x28
/-- From here the loop ends so. -/
def Fin_skylightref06_Even_2 (rnd : Nat → St → Tr (Ex × St)) (t_x : Int) (t_y : Int) (t_z : Int) (q_x : Int) (q_y : Int) (q_z : Int) (e : Ex) (outs : List (Nat × AV)) (hp : AH → AH) : Prop := ∀ (x0 x2 x3 x4 x5 x6 x7 x8 x9 x10 x11 x12 x13 x14 x15 x16 x17 x18 x19 x20 x21 x22 x23 x24 x25 x26 x27 x28 : AV),
    ∃ N s', (∀ L, (loopIterG none (rnd L) (N + 1) (st_skylightref06_Even_2 t_x t_y t_z q_x q_y q_z x0 x2 x3 x4 x5 x6 x7 x8 x9 x10 x11 x12 x13 x14 x15 x16 x17 x18 x19 x20 x21 x22 x23 x24 x25 x26 x27 x28)).run = some (e, s')) ∧ Leaves none 29 [15, 16, 17, 18, 19, 20, 21, 22, 23, 24, 25, 26, 27] (st_skylightref06_Even_2 t_x t_y t_z q_x q_y q_z x0 x2 x3 x4 x5 x6 x7 x8 x9 x10 x11 x12 x13 x14 x15 x16 x17 x18 x19 x20 x21 x22 x23 x24 x25 x26 x27 x28).tmps outs (hp ([[.int .i64 false t_x, .int .i64 false t_y, .int .i64 false t_z], [.int .i64 false q_x, .int .i64 false q_y, .int .i64 false q_z]])) s'
theorem step_skylightref06_Even_2_0 {rnd : Nat → St → Tr (Ex × St)} (hr : HR_skylightref06_Even_2 rnd) (t_x : Int) (t_y : Int) (t_z : Int) (q_x : Int) (q_y : Int) (q_z : Int) (c0 : true = true) (c1 : (!decide ((-1048575 ≤ t_x ∧ t_x ≤ 1048575) ∧ (-1048575 ≤ t_y ∧ t_y ≤ 1048575) ∧ -1048575 ≤ t_z ∧ t_z ≤ 1048575)) = true) {e : Ex} {outs : List (Nat × AV)} {hp : AH → AH} (hh : hp ([[AV.int IntKind.i64 false (towS t_x 2), AV.int IntKind.i64 false (towS t_y 2), AV.int IntKind.i64 false (towS t_z 2)], [AV.int IntKind.i64 false q_x, AV.int IntKind.i64 false q_y, AV.int IntKind.i64 false q_z]]) = hp ([[.int .i64 false t_x, .int .i64 false t_y, .int .i64 false t_z], [.int .i64 false q_x, .int .i64 false q_y, .int .i64 false q_z]])) (hn : Fin_skylightref06_Even_2 rnd ((towS t_x 2)) ((towS t_y 2)) ((towS t_z 2)) (q_x) (q_y) (q_z) e outs hp) : Fin_skylightref06_Even_2 rnd t_x t_y t_z q_x q_y q_z e outs hp := by
  intro x0 x2 x3 x4 x5 x6 x7 x8 x9 x10 x11 x12 x13 x14 x15 x16 x17 x18 x19 x20 x21 x22 x23 x24 x25 x26 x27 x28
  obtain ⟨N, s', h1, h2⟩ := hn (x0) (x2) (x3) (x4) (x5) (x6) (x7) (x8) (x9) (x10) (x11) (x12) (x13) (x14) (AV.agg [AV.int IntKind.i64 false t_x, AV.int IntKind.i64 false t_y, AV.int IntKind.i64 false t_z]) (AV.bool false (decide ((-1048575 ≤ t_x ∧ t_x ≤ 1048575) ∧ (-1048575 ≤ t_y ∧ t_y ≤ 1048575) ∧ -1048575 ≤ t_z ∧ t_z ≤ 1048575))) (AV.bool false !decide ((-1048575 ≤ t_x ∧ t_x ≤ 1048575) ∧ (-1048575 ≤ t_y ∧ t_y ≤ 1048575) ∧ -1048575 ≤ t_z ∧ t_z ≤ 1048575)) (AV.ptr (some (0, 0))) (AV.int IntKind.i64 false t_x) (AV.int IntKind.i64 false (towS t_x 2)) (AV.ptr (some (0, 1))) (AV.int IntKind.i64 false t_y) (AV.int IntKind.i64 false (towS t_y 2)) (AV.ptr (some (0, 2))) (AV.int IntKind.i64 false t_z) (AV.int IntKind.i64 false (towS t_z 2)) (AV.agg [AV.int IntKind.i64 false (towS t_x 2), AV.int IntKind.i64 false (towS t_y 2), AV.int IntKind.i64 false (towS t_z 2)]) (x28)
  refine ⟨N + 1, s', fun L => ?_, hh ▸ h2.of (s1 := sl_skylightref06_Even_2_0 t_x t_y t_z q_x q_y q_z x0 x2 x3 x4 x5 x6 x7 x8 x9 x10 x11 x12 x13 x14 x15 x16 x17 x18 x19 x20 x21 x22 x23 x24 x25 x26 x27 x28) rfl ((show _ = kl_skylightref06_Even_2 t_x t_y t_z q_x q_y q_z x0 x2 x3 x4 x5 x6 x7 x8 x9 x10 x11 x12 x13 x14 x15 x16 x17 x18 x19 x20 x21 x22 x23 x24 x25 x26 x27 x28 from rfl).trans (show kl_skylightref06_Even_2 t_x t_y t_z q_x q_y q_z x0 x2 x3 x4 x5 x6 x7 x8 x9 x10 x11 x12 x13 x14 x15 x16 x17 x18 x19 x20 x21 x22 x23 x24 x25 x26 x27 x28 = _ from rfl))⟩
  rw [loopIterG, hr L t_x t_y t_z q_x q_y q_z x0 x2 x3 x4 x5 x6 x7 x8 x9 x10 x11 x12 x13 x14 x15 x16 x17 x18 x19 x20 x21 x22 x23 x24 x25 x26 x27 x28, Tr.run_bind, show (rd_skylightref06_Even_2 t_x t_y t_z q_x q_y q_z x0 x2 x3 x4 x5 x6 x7 x8 x9 x10 x11 x12 x13 x14 x15 x16 x17 x18 x19 x20 x21 x22 x23 x24 x25 x26 x27 x28).run = some (.normal, sl_skylightref06_Even_2_0 t_x t_y t_z q_x q_y q_z x0 x2 x3 x4 x5 x6 x7 x8 x9 x10 x11 x12 x13 x14 x15 x16 x17 x18 x19 x20 x21 x22 x23 x24 x25 x26 x27 x28) from (run_t c0).trans ((run_t c1).trans (rfl))]
  exact h1 L
theorem stop_skylightref06_Even_2_1 {rnd : Nat → St → Tr (Ex × St)} (hr : HR_skylightref06_Even_2 rnd) (t_x : Int) (t_y : Int) (t_z : Int) (q_x : Int) (q_y : Int) (q_z : Int) (c0 : true = true) (c1 : (!decide ((-1048575 ≤ t_x ∧ t_x ≤ 1048575) ∧ (-1048575 ≤ t_y ∧ t_y ≤ 1048575) ∧ -1048575 ≤ t_z ∧ t_z ≤ 1048575)) = false) {outs : List (Nat × AV)} {hp : AH → AH} (ho : ∀ (x0 x2 x3 x4 x5 x6 x7 x8 x9 x10 x11 x12 x13 x14 x15 x16 x17 x18 x19 x20 x21 x22 x23 x24 x25 x26 x27 x28 : AV), outs.map (fun p => untag ((sl_skylightref06_Even_2_1 t_x t_y t_z q_x q_y q_z x0 x2 x3 x4 x5 x6 x7 x8 x9 x10 x11 x12 x13 x14 x15 x16 x17 x18 x19 x20 x21 x22 x23 x24 x25 x26 x27 x28).tmps.getD p.1 .undef)) = outs.map (fun p => untag p.2)) (hh : ∀ h : AH, ([[AV.int IntKind.i64 false t_x, AV.int IntKind.i64 false t_y, AV.int IntKind.i64 false t_z], [AV.int IntKind.i64 false q_x, AV.int IntKind.i64 false q_y, AV.int IntKind.i64 false q_z]]).map untagL = (hp ([[.int .i64 false t_x, .int .i64 false t_y, .int .i64 false t_z], [.int .i64 false q_x, .int .i64 false q_y, .int .i64 false q_z]])).map untagL) : Fin_skylightref06_Even_2 rnd t_x t_y t_z q_x q_y q_z (.exit 2) outs hp := by
  intro x0 x2 x3 x4 x5 x6 x7 x8 x9 x10 x11 x12 x13 x14 x15 x16 x17 x18 x19 x20 x21 x22 x23 x24 x25 x26 x27 x28
  refine ⟨0, gcSt none (sl_skylightref06_Even_2_1 t_x t_y t_z q_x q_y q_z x0 x2 x3 x4 x5 x6 x7 x8 x9 x10 x11 x12 x13 x14 x15 x16 x17 x18 x19 x20 x21 x22 x23 x24 x25 x26 x27 x28), fun L => ?_, Leaves.stop (s1 := sl_skylightref06_Even_2_1 t_x t_y t_z q_x q_y q_z x0 x2 x3 x4 x5 x6 x7 x8 x9 x10 x11 x12 x13 x14 x15 x16 x17 x18 x19 x20 x21 x22 x23 x24 x25 x26 x27 x28) (hh []) rfl (ho x0 x2 x3 x4 x5 x6 x7 x8 x9 x10 x11 x12 x13 x14 x15 x16 x17 x18 x19 x20 x21 x22 x23 x24 x25 x26 x27 x28) ((show _ = kl_skylightref06_Even_2 t_x t_y t_z q_x q_y q_z x0 x2 x3 x4 x5 x6 x7 x8 x9 x10 x11 x12 x13 x14 x15 x16 x17 x18 x19 x20 x21 x22 x23 x24 x25 x26 x27 x28 from rfl).trans (show kl_skylightref06_Even_2 t_x t_y t_z q_x q_y q_z x0 x2 x3 x4 x5 x6 x7 x8 x9 x10 x11 x12 x13 x14 x15 x16 x17 x18 x19 x20 x21 x22 x23 x24 x25 x26 x27 x28 = _ from rfl))⟩
  rw [loopIterG, hr L t_x t_y t_z q_x q_y q_z x0 x2 x3 x4 x5 x6 x7 x8 x9 x10 x11 x12 x13 x14 x15 x16 x17 x18 x19 x20 x21 x22 x23 x24 x25 x26 x27 x28, Tr.run_bind, show (rd_skylightref06_Even_2 t_x t_y t_z q_x q_y q_z x0 x2 x3 x4 x5 x6 x7 x8 x9 x10 x11 x12 x13 x14 x15 x16 x17 x18 x19 x20 x21 x22 x23 x24 x25 x26 x27 x28).run = some (.exit 2, sl_skylightref06_Even_2_1 t_x t_y t_z q_x q_y q_z x0 x2 x3 x4 x5 x6 x7 x8 x9 x10 x11 x12 x13 x14 x15 x16 x17 x18 x19 x20 x21 x22 x23 x24 x25 x26 x27 x28) from (run_t c0).trans ((run_f c1).trans (rfl))]
  rfl
theorem core_skylightref06_Even_2 (rnd : Nat → St → Tr (Ex × St)) (hr : HR_skylightref06_Even_2 rnd) : ∀ (t_x : Int) (t_y : Int) (t_z : Int) (q_x : Int) (q_y : Int) (q_z : Int), mostI t_x t_y t_z ≤ 4611686018427387904 → Fin_skylightref06_Even_2 rnd t_x t_y t_z q_x q_y q_z (.exit 2) [] (fun _ => [[i6 (downS 45 t_x (mostI t_x t_y t_z)), i6 (downS 45 t_y (mostI t_x t_y t_z)), i6 (downS 45 t_z (mostI t_x t_y t_z))], [.int .i64 false q_x, .int .i64 false q_y, .int .i64 false q_z]]) := by
  have key : ∀ (k : Nat) (t_x t_y t_z q_x q_y q_z : Int), mostI t_x t_y t_z ≤ 4611686018427387904 ∧ mostI t_x t_y t_z < 1048576 * 2 ^ k →
      Fin_skylightref06_Even_2 rnd t_x t_y t_z q_x q_y q_z (.exit 2) [] (fun _ => [[i6 (downS k t_x (mostI t_x t_y t_z)), i6 (downS k t_y (mostI t_x t_y t_z)), i6 (downS k t_z (mostI t_x t_y t_z))], [.int .i64 false q_x, .int .i64 false q_y, .int .i64 false q_z]]) := by
    intro k
    induction k with
    | zero =>
      intro t_x t_y t_z q_x q_y q_z ⟨h1, hk⟩
      obtain ⟨hx, hy, hz, hm⟩ := most_spec h1
      exact stop_skylightref06_Even_2_1 hr t_x t_y t_z q_x q_y q_z rfl (by rw [decide_eq_true (by omega)]; rfl) (by intros; rfl) (fun h => rfl)
    | succ k ih =>
      intro t_x t_y t_z q_x q_y q_z ⟨h1, hk⟩
      obtain ⟨hx, hy, hz, hm⟩ := most_spec h1
      by_cases hc : mostI t_x t_y t_z ≥ 1048576
      · refine step_skylightref06_Even_2_0 hr t_x t_y t_z q_x q_y q_z rfl (by rw [decide_eq_false (by omega)]; rfl) rfl ?_
        rw [towS_2 (x := t_x) (by omega), towS_2 (x := t_y) (by omega), towS_2 (x := t_z) (by omega)]
        simp only [downS, if_pos hc]
        have hh := most_half h1
        have hn := ih (t_x.tdiv 2) (t_y.tdiv 2) (t_z.tdiv 2) q_x q_y q_z (by
          rw [hh]
          have : (1048576 : Int) * 2 ^ (k + 1) = 2 * (1048576 * 2 ^ k) := by rw [Int.pow_succ]; grind
          omega)
        rw [hh] at hn
        exact hn
      · refine stop_skylightref06_Even_2_1 hr t_x t_y t_z q_x q_y q_z rfl (by rw [decide_eq_true (by omega)]; rfl) (by intros; rfl) (fun h => ?_)
        simp only [downS, if_neg hc]; rfl
  exact fun t_x t_y t_z q_x q_y q_z hc => key 45 t_x t_y t_z q_x q_y q_z ⟨hc, by omega⟩
theorem piece_skylightref06_Even_2 {P : Program} {T : Table} {O' : Known} {f : FuncId} (hb : blockOf P f 2 = .loop (loopOf P f 2)) (hid : O' 2 = none)
    (hr : HR_skylightref06_Even_2 (fun L => evCode P (evCall P T 16 6) L O' (loopOf P f 2))) :
    ∀ (s : St) (e : Ex) (outs : List (Nat × AV)) (hp : AH), s.tmps.length = 29 → (g_skylightref06_Even_2 (([1] : List Nat).map fun j => untag (s.tmps.getD j .undef)) (s.heap.map untagL)).run = some (e, outs, hp) → ∃ s', Good P T O' f 2 29 [15, 16, 17, 18, 19, 20, 21, 22, 23, 24, 25, 26, 27] s e outs hp s' := by
  intro s e outs hp hk hg
  obtain ⟨tm, h⟩ := s
  have htm : untagL tm = [untag (tm.getD 0 .undef), untag (tm.getD 1 .undef), untag (tm.getD 2 .undef), untag (tm.getD 3 .undef), untag (tm.getD 4 .undef), untag (tm.getD 5 .undef), untag (tm.getD 6 .undef), untag (tm.getD 7 .undef), untag (tm.getD 8 .undef), untag (tm.getD 9 .undef), untag (tm.getD 10 .undef), untag (tm.getD 11 .undef), untag (tm.getD 12 .undef), untag (tm.getD 13 .undef), untag (tm.getD 14 .undef), untag (tm.getD 15 .undef), untag (tm.getD 16 .undef), untag (tm.getD 17 .undef), untag (tm.getD 18 .undef), untag (tm.getD 19 .undef), untag (tm.getD 20 .undef), untag (tm.getD 21 .undef), untag (tm.getD 22 .undef), untag (tm.getD 23 .undef), untag (tm.getD 24 .undef), untag (tm.getD 25 .undef), untag (tm.getD 26 .undef), untag (tm.getD 27 .undef), untag (tm.getD 28 .undef)] := tmps_eq hk
  unfold g_skylightref06_Even_2 at hg
  simp only [List.map_cons, List.map_nil] at hg
  split at hg
  · rename_i t_x t_y t_z q_x q_y q_z heq hheap
    simp only [List.cons.injEq, and_true] at heq
    have e1 := heq
    simp only [Tr.run] at hg
    split at hg
    · rename_i hc
      simp only [Option.some.injEq, Prod.mk.injEq] at hg
      obtain ⟨rfl, rfl, rfl⟩ := hg
      rw [e1] at htm
      obtain ⟨N, s', h1, h2⟩ := core_skylightref06_Even_2 (fun L => evCode P (evCall P T 16 6) L O' (loopOf P f 2)) hr t_x t_y t_z q_x q_y q_z (of_decide_eq_true hc) (untag (tm.getD 0 .undef)) (untag (tm.getD 2 .undef)) (untag (tm.getD 3 .undef)) (untag (tm.getD 4 .undef)) (untag (tm.getD 5 .undef)) (untag (tm.getD 6 .undef)) (untag (tm.getD 7 .undef)) (untag (tm.getD 8 .undef)) (untag (tm.getD 9 .undef)) (untag (tm.getD 10 .undef)) (untag (tm.getD 11 .undef)) (untag (tm.getD 12 .undef)) (untag (tm.getD 13 .undef)) (untag (tm.getD 14 .undef)) (untag (tm.getD 15 .undef)) (untag (tm.getD 16 .undef)) (untag (tm.getD 17 .undef)) (untag (tm.getD 18 .undef)) (untag (tm.getD 19 .undef)) (untag (tm.getD 20 .undef)) (untag (tm.getD 21 .undef)) (untag (tm.getD 22 .undef)) (untag (tm.getD 23 .undef)) (untag (tm.getD 24 .undef)) (untag (tm.getD 25 .undef)) (untag (tm.getD 26 .undef)) (untag (tm.getD 27 .undef)) (untag (tm.getD 28 .undef)) 
      exact ⟨s', good_loop (g := none) (e1 := .exit 2) hb (fun k e => by cases e) 16 6 N (by rw [htm, hheap]; exact h1) (by rw [htm]; exact h2)⟩
    · cases hg
  · cases hg

/-! skylightref06.Even -/
def tr_skylightref06_Even (v_x : Int) (v_y : Int) (v_z : Int) : Tr AV := Tr.node (decide (1 ≤ mostI v_x v_y v_z ∧ mostI v_x v_y v_z ≤ 4611686018427387904)) (Tr.node (decide (mostI (upS 20 v_x (mostI v_x v_y v_z)) (upS 20 v_y (mostI v_x v_y v_z)) (upS 20 v_z (mostI v_x v_y v_z)) ≤ 4611686018427387904)) (Tr.leaf (AV.agg [AV.int IntKind.i64 false (downS 45 (upS 20 v_x (mostI v_x v_y v_z)) (mostI (upS 20 v_x (mostI v_x v_y v_z)) (upS 20 v_y (mostI v_x v_y v_z)) (upS 20 v_z (mostI v_x v_y v_z)))), AV.int IntKind.i64 false (downS 45 (upS 20 v_y (mostI v_x v_y v_z)) (mostI (upS 20 v_x (mostI v_x v_y v_z)) (upS 20 v_y (mostI v_x v_y v_z)) (upS 20 v_z (mostI v_x v_y v_z)))), AV.int IntKind.i64 false (downS 45 (upS 20 v_z (mostI v_x v_y v_z)) (mostI (upS 20 v_x (mostI v_x v_y v_z)) (upS 20 v_y (mostI v_x v_y v_z)) (upS 20 v_z (mostI v_x v_y v_z))))])) Tr.bad) Tr.bad
theorem run_skylightref06_Even (v_x : Int) (v_y : Int) (v_z : Int) (h_v_x : InR .i64 v_x) (h_v_y : InR .i64 v_y) (h_v_z : InR .i64 v_z) (hpre : 1 ≤ mostI v_x v_y v_z ∧ mostI v_x v_y v_z ≤ 4611686018427387904) : (tr_skylightref06_Even v_x v_y v_z).run = some (v3 (nrm v_x v_y v_z v_x) (nrm v_x v_y v_z v_y) (nrm v_x v_y v_z v_z)) := by
  unfold tr_skylightref06_Even
  have ok : okU v_x v_y v_z = true := by unfold okU; simp; omega
  obtain ⟨n, _, _, _, he⟩ := even_spec ok
  exact (run_t (decide_eq_true hpre)).trans (run_t (decide_eq_true he))

/-! skylightref06.Unit -/
def tr_skylightref06_Unit (v_x : Int) (v_y : Int) (v_z : Int) : Tr AV := Tr.node true (Tr.node (!decide ((-4611686018427387904 ≤ v_x ∧ v_x ≤ 4611686018427387904) ∧ (-4611686018427387904 ≤ v_y ∧ v_y ≤ 4611686018427387904) ∧ -4611686018427387904 ≤ v_z ∧ v_z ≤ 4611686018427387904)) (Tr.leaf (AV.tuple [AV.agg [AV.int IntKind.i64 false 0, AV.int IntKind.i64 false 0, AV.int IntKind.i64 false 0], AV.bool false false])) (Tr.node true (Tr.node (decide ((0 ≤ v_x ∧ v_x ≤ 0) ∧ (0 ≤ v_y ∧ v_y ≤ 0) ∧ 0 ≤ v_z ∧ v_z ≤ 0)) (Tr.leaf (AV.tuple [AV.agg [AV.int IntKind.i64 false 0, AV.int IntKind.i64 false 0, AV.int IntKind.i64 false 0], AV.bool false false])) (Tr.node (decide (1 ≤ mostI v_x v_y v_z ∧ mostI v_x v_y v_z ≤ 4611686018427387904)) (Tr.leaf (AV.tuple [AV.agg [AV.int IntKind.i64 false (towS (IntKind.i64.wrap (nrm v_x v_y v_z v_x * 16384)) (isq (dotN (nrm v_x v_y v_z v_x) (nrm v_x v_y v_z v_y) (nrm v_x v_y v_z v_z) (nrm v_x v_y v_z v_x) (nrm v_x v_y v_z v_y) (nrm v_x v_y v_z v_z)))), AV.int IntKind.i64 false (towS (IntKind.i64.wrap (nrm v_x v_y v_z v_y * 16384)) (isq (dotN (nrm v_x v_y v_z v_x) (nrm v_x v_y v_z v_y) (nrm v_x v_y v_z v_z) (nrm v_x v_y v_z v_x) (nrm v_x v_y v_z v_y) (nrm v_x v_y v_z v_z)))), AV.int IntKind.i64 false (towS (IntKind.i64.wrap (nrm v_x v_y v_z v_z * 16384)) (isq (dotN (nrm v_x v_y v_z v_x) (nrm v_x v_y v_z v_y) (nrm v_x v_y v_z v_z) (nrm v_x v_y v_z v_x) (nrm v_x v_y v_z v_y) (nrm v_x v_y v_z v_z))))], AV.bool false true])) Tr.bad)) Tr.bad)) Tr.bad
theorem run_skylightref06_Unit (v_x : Int) (v_y : Int) (v_z : Int) (h_v_x : InR .i64 v_x) (h_v_y : InR .i64 v_y) (h_v_z : InR .i64 v_z) : (tr_skylightref06_Unit v_x v_y v_z).run = some (.tuple [v3 (unitC v_x v_y v_z v_x) (unitC v_x v_y v_z v_y) (unitC v_x v_y v_z v_z), bb (okU v_x v_y v_z)]) := by
  unfold tr_skylightref06_Unit
  have hx := inR_i64.1 h_v_x
  have hy := inR_i64.1 h_v_y
  have hz := inR_i64.1 h_v_z
  have h0 := most_nonneg v_x v_y v_z
  have hm : (mostI v_x v_y v_z ≤ 4611686018427387904 ↔ ((-4611686018427387904 ≤ v_x ∧ v_x ≤ 4611686018427387904) ∧ (-4611686018427387904 ≤ v_y ∧ v_y ≤ 4611686018427387904) ∧ -4611686018427387904 ≤ v_z ∧ v_z ≤ 4611686018427387904)) ∧ (mostI v_x v_y v_z = 0 ↔ ((0 ≤ v_x ∧ v_x ≤ 0) ∧ (0 ≤ v_y ∧ v_y ≤ 0) ∧ 0 ≤ v_z ∧ v_z ≤ 0)) := by
    unfold mostI; simp only [max_r, sat]; omega
  obtain ⟨m1, m2⟩ := hm
  refine (run_t rfl).trans ?_
  by_cases c1 : mostI v_x v_y v_z ≤ 4611686018427387904
  rotate_left
  · have ok : okU v_x v_y v_z = false := by unfold okU; simp; omega
    rw [ok, unitC_no ok, unitC_no ok, unitC_no ok]
    exact run_t (by rw [decide_eq_false (fun h => c1 (m1.2 h))]; rfl)
  refine (run_f (by rw [decide_eq_true (m1.1 c1)]; rfl)).trans ((run_t rfl).trans ?_)
  by_cases c0 : mostI v_x v_y v_z = 0
  · have ok : okU v_x v_y v_z = false := by unfold okU; simp [c0]
    rw [ok, unitC_no ok, unitC_no ok, unitC_no ok]
    exact run_t (decide_eq_true (m2.1 c0))
  refine (run_f (decide_eq_false (fun h => c0 (m2.2 h)))).trans ((run_t (decide_eq_true ⟨by omega, c1⟩)).trans ?_)
  have ok : okU v_x v_y v_z = true := by unfold okU; simp [c0]; omega
  obtain ⟨near, l1, l2, l3, l4⟩ := len_spec ok
  obtain ⟨u1, u2, ux, uy, uz⟩ := unitC_r ok
  have el : isq (dotN (nrm v_x v_y v_z v_x) (nrm v_x v_y v_z v_y) (nrm v_x v_y v_z v_z) (nrm v_x v_y v_z v_x) (nrm v_x v_y v_z v_y) (nrm v_x v_y v_z v_z)) = lenU v_x v_y v_z := by
    unfold lenU dotN; rw [if_pos ⟨near, near⟩]
  have rn := near_r near
  rw [ok, el, wrap_i64_id (n := nrm v_x v_y v_z v_x * 16384) (by omega), wrap_i64_id (n := nrm v_x v_y v_z v_y * 16384) (by omega), wrap_i64_id (n := nrm v_x v_y v_z v_z * 16384) (by omega)]
  have e : ∀ c, unitC v_x v_y v_z c = (nrm v_x v_y v_z c * 16384).tdiv (lenU v_x v_y v_z) := fun c => by unfold unitC; rw [if_pos ok]
  rw [towS_tdiv (by omega) (by omega), towS_tdiv (by omega) (by omega), towS_tdiv (by omega) (by omega), ← e, ← e, ← e]
  rfl

end Go.Sky

/- Bent light: what is reckoned. -/
set_option linter.unusedSimpArgs false
set_option linter.unusedVariables false
namespace Go.Sky

def dv (a b : Int) : Int := if 1 ≤ b then a / b else 0
def md (a b : Int) : Int := if 1 ≤ b then a % b else 0
def hold (n lo hi : Int) : Int := if n < lo then lo else if n > hi then hi else n
/-- A coordinate of the vector that is against another one. -/
def facC (c nx ny nz dx dy dz : Int) : Int := if nearB dx dy dz = true ∧ nearB nx ny nz = true then (if dotI nx ny nz dx dy dz > 0 then -c else c) else 0
def cosB (c : Int) : Bool := decide (0 ≤ c ∧ c ≤ 16384)
def idxB (n : Int) : Bool := decide (16384 ≤ n ∧ n ≤ 65536)
def shortB (x y z : Int) : Bool := decide ((-16385 ≤ x ∧ x ≤ 16385) ∧ (-16385 ≤ y ∧ y ≤ 16385) ∧ (-16385 ≤ z ∧ z ≤ 16385))
def backA (n : Int) : Int := (n - 16384) * (n - 16384) * 65536 / ((n + 16384) * (n + 16384))
def backM (c : Int) : Int := ((16384 - c) * (16384 - c) / 16384) * ((16384 - c) * (16384 - c) / 16384) / 16384 * (16384 - c) / 16384
def backN (c n : Int) : Int := if cosB c = true ∧ idxB n = true then backA n + (65536 - backA n) * backM c / 16384 else 0
def cosR (nx ny nz dx dy dz : Int) : Int := hold (sz (dotI nx ny nz dx dy dz) / 16384) 0 16384
def cosN (nx ny nz dx dy dz : Int) : Int := if shortB nx ny nz = true ∧ shortB dx dy dz = true then cosR nx ny nz dx dy dz else 0
def sineN (c a b : Int) : Int := if cosB c = true ∧ idxB a = true ∧ idxB b = true then (268435456 - c * c) * a * a / (b * b) else 0
def bendK (c a b : Int) : Int := c * a / b - isq (268435456 - sineN c a b)
/-- A coordinate that is bent, not yet made even. -/
def bndC (d f dx dy dz nx ny nz a b : Int) : Int := d * a / b + facC f nx ny nz dx dy dz * bendK (cosN nx ny nz dx dy dz) a b / 16384
def bendOk (dx dy dz nx ny nz a b : Int) : Bool := shortB dx dy dz && shortB nx ny nz && idxB a && idxB b && decide (sineN (cosN nx ny nz dx dy dz) a b ≤ 268435456)
def bendU (c dx dy dz nx ny nz a b : Int) : Int :=
  if bendOk dx dy dz nx ny nz a b = true then unitC (bndC dx nx dx dy dz nx ny nz a b) (bndC dy ny dx dy dz nx ny nz a b) (bndC dz nz dx dy dz nx ny nz a b) c else 0
def bendIs (dx dy dz nx ny nz a b : Int) : Bool :=
  bendOk dx dy dz nx ny nz a b && okU (bndC dx nx dx dy dz nx ny nz a b) (bndC dy ny dx dy dz nx ny nz a b) (bndC dz nz dx dy dz nx ny nz a b)

theorem dv_16384 (x : Int) : dv x 16384 = x / 16384 := by unfold dv; rw [if_pos (by decide)]

theorem mul_mono {a b c d : Int} (h1 : 0 ≤ a) (h2 : a ≤ b) (h3 : 0 ≤ c) (h4 : c ≤ d) : 0 ≤ a * c ∧ a * c ≤ b * d := ⟨Int.mul_nonneg h1 h3, Int.mul_le_mul h2 h4 h3 (by omega)⟩

theorem ediv_cross {P Q R S : Int} (hQ : 0 < Q) (hS : 0 < S) (h : P * S ≤ R * Q) : P / Q ≤ R / S := by
  apply Int.le_ediv_of_mul_le hS
  have h1 := Int.ediv_mul_le P (show Q ≠ 0 by omega)
  have h2 : P / Q * Q * S ≤ P * S := Int.mul_le_mul_of_nonneg_right h1 (by omega)
  have h3 : P / Q * S * Q ≤ R * Q := by rw [Int.mul_assoc, Int.mul_comm S Q, ← Int.mul_assoc]; exact Int.le_trans h2 h
  exact Int.le_of_mul_le_mul_right h3 hQ

theorem mx_gt (x y z k : Int) : (mm true (mm true x y) z > k) ↔ (x > k ∨ y > k ∨ z > k) := by simp only [max_r]; omega
theorem mx_le (x y z k : Int) : (mm true (mm true x y) z ≤ k) ↔ (x ≤ k ∧ y ≤ k ∧ z ≤ k) := by simp only [max_r]; omega
theorem mn_lt (x y z k : Int) : (mm false (mm false x y) z < k) ↔ (x < k ∨ y < k ∨ z < k) := by simp only [min_r]; omega
theorem mn_ge (x y z k : Int) : (mm false (mm false x y) z ≥ k) ↔ (x ≥ k ∧ y ≥ k ∧ z ≥ k) := by simp only [min_r]; omega

theorem run_guard {α : Type} {b : Bool} {t e : Tr α} {x : Option α} (ht : b = true → t.run = x) (he : b = false → e.run = x) : (Tr.node b t e).run = x := by
  cases b
  · exact he rfl
  · exact ht rfl

theorem cosB_r {c : Int} (h : cosB c = true) : 0 ≤ c ∧ c ≤ 16384 := of_decide_eq_true h
theorem idxB_r {c : Int} (h : idxB c = true) : 16384 ≤ c ∧ c ≤ 65536 := of_decide_eq_true h

/-- A number's square and so on, of numbers up to a unit. -/
theorem backM_r {c : Int} (h : 0 ≤ c ∧ c ≤ 16384) :
    (0 ≤ (16384 - c) * (16384 - c) ∧ (16384 - c) * (16384 - c) ≤ 268435456) ∧
    (0 ≤ (16384 - c) * (16384 - c) / 16384 * ((16384 - c) * (16384 - c) / 16384) ∧ (16384 - c) * (16384 - c) / 16384 * ((16384 - c) * (16384 - c) / 16384) ≤ 268435456) ∧
    (0 ≤ (16384 - c) * (16384 - c) / 16384 * ((16384 - c) * (16384 - c) / 16384) / 16384 * (16384 - c) ∧ (16384 - c) * (16384 - c) / 16384 * ((16384 - c) * (16384 - c) / 16384) / 16384 * (16384 - c) ≤ 268435456) ∧
    0 ≤ backM c ∧ backM c ≤ 16384 := by
  have h1 := mul_mono (a := 16384 - c) (b := 16384) (c := 16384 - c) (d := 16384) (by omega) (by omega) (by omega) (by omega)
  have h2 := mul_mono (a := (16384 - c) * (16384 - c) / 16384) (b := 16384) (c := (16384 - c) * (16384 - c) / 16384) (d := 16384) (by omega) (by omega) (by omega) (by omega)
  have h3 := mul_mono (a := (16384 - c) * (16384 - c) / 16384 * ((16384 - c) * (16384 - c) / 16384) / 16384) (b := 16384) (c := 16384 - c) (d := 16384) (by omega) (by omega) (by omega) (by omega)
  unfold backM
  omega

theorem backM_mono {c d : Int} (hc : 0 ≤ c) (h : c ≤ d) (hd : d ≤ 16384) : backM d ≤ backM c := by
  have h1 := mul_mono (a := 16384 - d) (b := 16384 - c) (c := 16384 - d) (d := 16384 - c) (by omega) (by omega) (by omega) (by omega)
  have e1 : (16384 - d) * (16384 - d) / 16384 ≤ (16384 - c) * (16384 - c) / 16384 := by omega
  have h2 := mul_mono (a := (16384 - d) * (16384 - d) / 16384) (b := (16384 - c) * (16384 - c) / 16384) (c := (16384 - d) * (16384 - d) / 16384) (d := (16384 - c) * (16384 - c) / 16384) (by omega) e1 (by omega) e1
  have h3 := mul_mono (a := (16384 - d) * (16384 - d) / 16384 * ((16384 - d) * (16384 - d) / 16384) / 16384) (b := (16384 - c) * (16384 - c) / 16384 * ((16384 - c) * (16384 - c) / 16384) / 16384) (c := 16384 - d) (d := 16384 - c) (by omega) (by omega) (by omega) (by omega)
  unfold backM
  omega

theorem backA_r {n : Int} (h : 16384 ≤ n ∧ n ≤ 65536) :
    (0 ≤ (n - 16384) * (n - 16384) ∧ (n - 16384) * (n - 16384) ≤ 2415919104) ∧ (1073741824 ≤ (n + 16384) * (n + 16384) ∧ (n + 16384) * (n + 16384) ≤ 6710886400) ∧ 0 ≤ backA n ∧ backA n ≤ 65536 := by
  have h1 := mul_mono (a := n - 16384) (b := 49152) (c := n - 16384) (d := 49152) (by omega) (by omega) (by omega) (by omega)
  have h2 := mul_mono (a := 32768) (b := n + 16384) (c := 32768) (d := n + 16384) (by omega) (by omega) (by omega) (by omega)
  have h3 := mul_mono (a := n + 16384) (b := 81920) (c := n + 16384) (d := 81920) (by omega) (by omega) (by omega) (by omega)
  have h4 := mul_mono (a := n - 16384) (b := n + 16384) (c := n - 16384) (d := n + 16384) (by omega) (by omega) (by omega) (by omega)
  have h5 : 0 ≤ backA n := Int.ediv_nonneg (by omega) (by omega)
  have h6 : backA n < 65537 := Int.ediv_lt_of_lt_mul (by omega) (by omega)
  omega

theorem backA_mono {a b : Int} (ha : 16384 ≤ a) (h : a ≤ b) : backA a ≤ backA b := by
  unfold backA
  have h2 := mul_mono (a := 32768) (b := a + 16384) (c := 32768) (d := a + 16384) (by omega) (by omega) (by omega) (by omega)
  have h3 := mul_mono (a := 32768) (b := b + 16384) (c := 32768) (d := b + 16384) (by omega) (by omega) (by omega) (by omega)
  refine ediv_cross (by omega) (by omega) ?_
  have e : (a - 16384) * (b + 16384) ≤ (b - 16384) * (a + 16384) := by
    have e1 : (b - 16384) * (a + 16384) - (a - 16384) * (b + 16384) = 32768 * (b - a) := by grind
    omega
  have e2 : 0 ≤ (a - 16384) * (b + 16384) := Int.mul_nonneg (by omega) (by omega)
  have e3 := mul_mono e2 e e2 e
  have e4 : (a - 16384) * (a - 16384) * 65536 * ((b + 16384) * (b + 16384)) = 65536 * ((a - 16384) * (b + 16384) * ((a - 16384) * (b + 16384))) := by grind
  have e5 : (b - 16384) * (b - 16384) * 65536 * ((a + 16384) * (a + 16384)) = 65536 * ((b - 16384) * (a + 16384) * ((b - 16384) * (a + 16384))) := by grind
  rw [e4, e5]; omega

/-- How much is thrown back: what it is, and its part of the whole. -/
theorem backP_r {c n : Int} (hc : 0 ≤ c ∧ c ≤ 16384) (hn : 16384 ≤ n ∧ n ≤ 65536) :
    0 ≤ (65536 - backA n) * backM c ∧ (65536 - backA n) * backM c ≤ (65536 - backA n) * 16384 := by
  obtain ⟨_, _, _, h1, h2⟩ := backM_r hc
  obtain ⟨_, _, h3, h4⟩ := backA_r hn
  exact mul_mono (by omega) (Int.le_refl _) h1 h2

theorem backN_eq {c n : Int} (hc : 0 ≤ c ∧ c ≤ 16384) (hn : 16384 ≤ n ∧ n ≤ 65536) : backN c n = backA n + (65536 - backA n) * backM c / 16384 := by
  unfold backN cosB idxB; rw [if_pos ⟨decide_eq_true hc, decide_eq_true hn⟩]

theorem backN_r {c n : Int} (hc : 0 ≤ c ∧ c ≤ 16384) (hn : 16384 ≤ n ∧ n ≤ 65536) : 0 ≤ backN c n ∧ backN c n ≤ 65536 := by
  have h := backP_r hc hn
  have := backA_r hn
  rw [backN_eq hc hn]; omega

theorem backN_mono {c d n : Int} (hc : 0 ≤ c) (h : c ≤ d) (hd : d ≤ 16384) (hn : 16384 ≤ n ∧ n ≤ 65536) : backN d n ≤ backN c n := by
  rw [backN_eq ⟨hc, by omega⟩ hn, backN_eq ⟨by omega, hd⟩ hn]
  have h1 := backM_mono hc h hd
  have h2 := backA_r hn
  have h3 : (65536 - backA n) * backM d ≤ (65536 - backA n) * backM c := Int.mul_le_mul_of_nonneg_left h1 (by omega)
  omega

theorem backN_0 {n : Int} (hn : 16384 ≤ n ∧ n ≤ 65536) : backN 0 n = 65536 := by
  rw [backN_eq (by decide) hn, show backM 0 = 16384 by decide]; omega
theorem backN_1 {n : Int} (hn : 16384 ≤ n ∧ n ≤ 65536) : backN 16384 n = backA n := by
  rw [backN_eq (by decide) hn, show backM 16384 = 0 by decide]; omega

theorem sine_r {c a b : Int} (hc : 0 ≤ c ∧ c ≤ 16384) (ha : 16384 ≤ a ∧ a ≤ 65536) (hb : 16384 ≤ b ∧ b ≤ 65536) :
    (0 ≤ c * c ∧ c * c ≤ 268435456) ∧ (0 ≤ (268435456 - c * c) * a ∧ (268435456 - c * c) * a ≤ 17592186044416) ∧ (0 ≤ (268435456 - c * c) * a * a ∧ (268435456 - c * c) * a * a ≤ 1152921504606846976) ∧
    (268435456 ≤ b * b ∧ b * b ≤ 4294967296) ∧ 0 ≤ (268435456 - c * c) * a * a / (b * b) := by
  have h1 := mul_mono (a := c) (b := 16384) (c := c) (d := 16384) (by omega) (by omega) (by omega) (by omega)
  have h2 := mul_mono (a := 268435456 - c * c) (b := 268435456) (c := a) (d := 65536) (by omega) (by omega) (by omega) (by omega)
  have h3 := mul_mono (a := (268435456 - c * c) * a) (b := 17592186044416) (c := a) (d := 65536) (by omega) (by omega) (by omega) (by omega)
  have h4 := mul_mono (a := 16384) (b := b) (c := 16384) (d := b) (by omega) (by omega) (by omega) (by omega)
  have h5 := mul_mono (a := b) (b := 65536) (c := b) (d := 65536) (by omega) (by omega) (by omega) (by omega)
  have h6 : 0 ≤ (268435456 - c * c) * a * a / (b * b) := Int.ediv_nonneg (by omega) (by omega)
  refine ⟨by omega, by omega, by omega, by omega, h6⟩

theorem sineN_eq {c a b : Int} (hc : 0 ≤ c ∧ c ≤ 16384) (ha : 16384 ≤ a ∧ a ≤ 65536) (hb : 16384 ≤ b ∧ b ≤ 65536) : sineN c a b = (268435456 - c * c) * a * a / (b * b) := by
  unfold sineN cosB idxB; rw [if_pos ⟨decide_eq_true hc, decide_eq_true ha, decide_eq_true hb⟩]

theorem sineN_mono {c d a b : Int} (hc : 0 ≤ c) (h : c ≤ d) (hd : d ≤ 16384) (ha : 16384 ≤ a ∧ a ≤ 65536) (hb : 16384 ≤ b ∧ b ≤ 65536) : sineN d a b ≤ sineN c a b := by
  rw [sineN_eq ⟨hc, by omega⟩ ha hb, sineN_eq ⟨by omega, hd⟩ ha hb]
  have h1 := mul_mono (a := c) (b := d) (c := c) (d := d) (by omega) (by omega) (by omega) (by omega)
  have h2 : (268435456 - d * d) * a ≤ (268435456 - c * c) * a := Int.mul_le_mul_of_nonneg_right (by omega) (by omega)
  have h3 : (268435456 - d * d) * a * a ≤ (268435456 - c * c) * a * a := Int.mul_le_mul_of_nonneg_right h2 (by omega)
  have h4 := mul_mono (a := 16384) (b := b) (c := 16384) (d := b) (by omega) (by omega) (by omega) (by omega)
  exact Int.ediv_le_ediv (by omega) h3

theorem short_r {x y z : Int} (h : shortB x y z = true) : (-16385 ≤ x ∧ x ≤ 16385) ∧ (-16385 ≤ y ∧ y ≤ 16385) ∧ (-16385 ≤ z ∧ z ≤ 16385) := of_decide_eq_true h
theorem short_near {x y z : Int} (h : shortB x y z = true) : nearB x y z = true := by
  have := short_r h
  unfold nearB; exact decide_eq_true (by omega)

theorem dotI_neg (x y z a b c : Int) : dotI (-x) (-y) (-z) a b c = -(dotI x y z a b c) := by unfold dotI; rw [Int.neg_mul, Int.neg_mul, Int.neg_mul]; omega

theorem facC_eq {nx ny nz dx dy dz : Int} (hn : nearB nx ny nz = true) (hd : nearB dx dy dz = true) (c : Int) : facC c nx ny nz dx dy dz = if dotI nx ny nz dx dy dz > 0 then -c else c := by
  unfold facC; rw [if_pos ⟨hd, hn⟩]

theorem facC_near {nx ny nz dx dy dz : Int} (hn : nearB nx ny nz = true) (hd : nearB dx dy dz = true) : nearB (facC nx nx ny nz dx dy dz) (facC ny nx ny nz dx dy dz) (facC nz nx ny nz dx dy dz) = true := by
  have := near_r hn
  simp only [facC_eq hn hd]
  unfold nearB
  apply decide_eq_true
  omega

theorem fac_dot {nx ny nz dx dy dz : Int} (hn : nearB nx ny nz = true) (hd : nearB dx dy dz = true) :
    dotN (facC nx nx ny nz dx dy dz) (facC ny nx ny nz dx dy dz) (facC nz nx ny nz dx dy dz) dx dy dz = -(sz (dotI nx ny nz dx dy dz)) := by
  unfold dotN
  rw [if_pos ⟨facC_near hn hd, hd⟩]
  simp only [facC_eq hn hd]
  unfold sz
  by_cases h : dotI nx ny nz dx dy dz > 0
  · simp only [if_pos h, dotI_neg]; omega
  · simp only [if_neg h]; omega

theorem dotI_r {nx ny nz dx dy dz : Int} (hn : nearB nx ny nz = true) (hd : nearB dx dy dz = true) : -3298534883328 ≤ dotI nx ny nz dx dy dz ∧ dotI nx ny nz dx dy dz ≤ 3298534883328 := by
  have := dotN_r hn hd
  unfold dotN at this
  rw [if_pos ⟨hn, hd⟩] at this
  exact this

theorem sz_r {x m : Int} (h : -m ≤ x ∧ x ≤ m) : 0 ≤ sz x ∧ sz x ≤ m := by unfold sz; omega

/-- How steep a direction is: all of it. -/
theorem cos_all {nx ny nz dx dy dz : Int} (hn : nearB nx ny nz = true) (hd : nearB dx dy dz = true) :
    hold (dv (IntKind.i64.wrap (0 - dotN (facC nx nx ny nz dx dy dz) (facC ny nx ny nz dx dy dz) (facC nz nx ny nz dx dy dz) dx dy dz)) 16384) 0 16384 = cosR nx ny nz dx dy dz := by
  have h := sz_r (dotI_r hn hd)
  rw [fac_dot hn hd, wrap_i64_id (by omega), show (0 : Int) - -(sz (dotI nx ny nz dx dy dz)) = sz (dotI nx ny nz dx dy dz) by omega]
  unfold cosR dv
  rw [if_pos (by decide)]

theorem cosR_r {nx ny nz dx dy dz : Int} : 0 ≤ cosR nx ny nz dx dy dz ∧ cosR nx ny nz dx dy dz ≤ 16384 := by
  unfold cosR hold; omega

theorem cosN_eq {nx ny nz dx dy dz : Int} (hn : shortB nx ny nz = true) (hd : shortB dx dy dz = true) : cosN nx ny nz dx dy dz = cosR nx ny nz dx dy dz := by
  unfold cosN; rw [if_pos ⟨hn, hd⟩]

theorem cosN_r {nx ny nz dx dy dz : Int} : 0 ≤ cosN nx ny nz dx dy dz ∧ cosN nx ny nz dx dy dz ≤ 16384 := by
  unfold cosN; have := @cosR_r nx ny nz dx dy dz; omega

theorem isq_28 {s : Int} (h0 : 0 ≤ s) (h1 : s ≤ 268435456) : 0 ≤ isq s ∧ isq s ≤ 16384 := by
  obtain ⟨a, b, c, d⟩ := isq_spec (n := s) h0 (by omega)
  refine ⟨a, ?_⟩
  have : isq s < 16385 := sq_lt a (by omega) (by omega)
  omega

theorem mul_abs {x y m k : Int} (hx : -m ≤ x ∧ x ≤ m) (hy : -k ≤ y ∧ y ≤ k) : -(m * k) ≤ x * y ∧ x * y ≤ m * k := by
  have hm : 0 ≤ m := by omega
  have hk : 0 ≤ k := by omega
  have h := Int.natAbs_mul x y
  have h2 : x.natAbs * y.natAbs ≤ m.natAbs * k.natAbs := Nat.mul_le_mul (by omega) (by omega)
  have h3 : ((m.natAbs * k.natAbs : Nat) : Int) = m * k := by rw [Int.natCast_mul]; congr 1 <;> omega
  omega

/-- What is reckoned of one coordinate lies within bounds. -/
theorem bnd_r {c a b s d f : Int} (hc : 0 ≤ c ∧ c ≤ 16384) (ha : 16384 ≤ a ∧ a ≤ 65536) (hb : 16384 ≤ b ∧ b ≤ 65536) (hs : 0 ≤ s ∧ s ≤ 268435456) (hd : -16385 ≤ d ∧ d ≤ 16385) (hf : -16385 ≤ f ∧ f ≤ 16385) :
    (0 ≤ c * a ∧ c * a ≤ 1073741824) ∧ (0 ≤ c * a / b ∧ c * a / b ≤ 65536) ∧ (0 ≤ isq (268435456 - s) ∧ isq (268435456 - s) ≤ 16384) ∧ (-1073807360 ≤ d * a ∧ d * a ≤ 1073807360) ∧
    (-65540 ≤ d * a / b ∧ d * a / b ≤ 65540) ∧ (-1073807360 ≤ f * (c * a / b - isq (268435456 - s)) ∧ f * (c * a / b - isq (268435456 - s)) ≤ 1073807360) ∧
    (-65540 ≤ f * (c * a / b - isq (268435456 - s)) / 16384 ∧ f * (c * a / b - isq (268435456 - s)) / 16384 ≤ 65540) := by
  have h1 := mul_mono (a := c) (b := 16384) (c := a) (d := 65536) (by omega) (by omega) (by omega) (by omega)
  have h2 : 0 ≤ c * a / b := Int.ediv_nonneg (by omega) (by omega)
  have h3 : c * a / b < 65537 := Int.ediv_lt_of_lt_mul (by omega) (by omega)
  have h4 := isq_28 (s := 268435456 - s) (by omega) (by omega)
  have h5 := mul_abs hd (show -65536 ≤ a ∧ a ≤ 65536 by omega)
  have h6 : d * a / b < 65541 := Int.ediv_lt_of_lt_mul (by omega) (by omega)
  have h7 : -65540 ≤ d * a / b := Int.le_ediv_of_mul_le (by omega) (by omega)
  have h8 := mul_abs hf (show -65536 ≤ c * a / b - isq (268435456 - s) ∧ c * a / b - isq (268435456 - s) ≤ 65536 by omega)
  omega

/-- One coordinate, as the program reckons it. -/
theorem bnd_prog {c a b s d f : Int} (hc : 0 ≤ c ∧ c ≤ 16384) (ha : 16384 ≤ a ∧ a ≤ 65536) (hb : 16384 ≤ b ∧ b ≤ 65536) (hs : 0 ≤ s ∧ s ≤ 268435456) (hd : -16385 ≤ d ∧ d ≤ 16385) (hf : -16385 ≤ f ∧ f ≤ 16385) :
    sat (atF d a b + atF f (IntKind.i64.wrap (IntKind.i64.wrap ((IntKind.i64.wrap (c * a)).tdiv b) - isq (IntKind.u64.wrap (IntKind.i64.wrap (268435456 - s))))) 16384) = d * a / b + f * (c * a / b - isq (268435456 - s)) / 16384 := by
  obtain ⟨h1, h2, h3, h4, h5, h6, h7⟩ := bnd_r hc ha hb hs hd hf
  rw [wrap_i64_id (n := c * a) (by omega), Int.tdiv_eq_ediv_of_nonneg h1.1, wrap_i64_id (n := c * a / b) (by omega), wrap_i64_id (n := 268435456 - s) (by omega), wrap_u64_id (n := 268435456 - s) (by omega),
    wrap_i64_id (n := c * a / b - isq (268435456 - s)) (by omega)]
  unfold atF
  rw [if_pos (by omega), if_pos (by omega), sat_id (n := d * a / b) (by omega), sat_id (n := f * (c * a / b - isq (268435456 - s)) / 16384) (by omega), sat_id (by omega)]

/-- One coordinate, as the document's answer reckons it. -/
theorem bnd_ref {c a b s d f : Int} (hc : 0 ≤ c ∧ c ≤ 16384) (ha : 16384 ≤ a ∧ a ≤ 65536) (hb : 16384 ≤ b ∧ b ≤ 65536) (hs : 0 ≤ s ∧ s ≤ 268435456) (hd : -16385 ≤ d ∧ d ≤ 16385) (hf : -16385 ≤ f ∧ f ≤ 16385) :
    IntKind.i64.wrap ((if 1 ≤ b then IntKind.i64.wrap (d * a) / b else 0) + if (1 : Int) ≤ 16384 then IntKind.i64.wrap (f * IntKind.i64.wrap ((if 1 ≤ b then IntKind.i64.wrap (c * a) / b else 0) - isq (IntKind.u64.wrap (IntKind.i64.wrap (268435456 - s))))) / 16384 else 0)
      = d * a / b + f * (c * a / b - isq (268435456 - s)) / 16384 := by
  obtain ⟨h1, h2, h3, h4, h5, h6, h7⟩ := bnd_r hc ha hb hs hd hf
  rw [if_pos (by omega), if_pos (by omega), if_pos (by omega), wrap_i64_id (n := c * a) (by omega), wrap_i64_id (n := d * a) (by omega), wrap_i64_id (n := 268435456 - s) (by omega), wrap_u64_id (n := 268435456 - s) (by omega),
    wrap_i64_id (n := c * a / b - isq (268435456 - s)) (by omega), wrap_i64_id (n := f * (c * a / b - isq (268435456 - s))) (by omega), wrap_i64_id (by omega)]

theorem facC_r {c nx ny nz dx dy dz m : Int} (h : -m ≤ c ∧ c ≤ m) : -m ≤ facC c nx ny nz dx dy dz ∧ facC c nx ny nz dx dy dz ≤ m := by unfold facC; omega

end Go.Sky
