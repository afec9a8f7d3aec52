/- Trees of functions, and what they come to. -/
import Derived.Test.YtpljpbmkklcbkaaQba310fbe
set_option linter.unusedSimpArgs false
set_option linter.unusedVariables false
namespace Go.Sky
set_option maxRecDepth 100000

/-! (vec.triple).most -/
def tr_vec_triple_most (v_x : Int) (v_y : Int) (v_z : Int) : Tr AV := Tr.leaf (AV.int IntKind.i64 false (mm true (mm true (mm true (mm true (mm true (mm true 0 v_x) (sat (v_x * -1))) v_y) (sat (v_y * -1))) v_z) (sat (v_z * -1))))
theorem run_vec_triple_most (v_x : Int) (v_y : Int) (v_z : Int) (h_v_x : InR .i64 v_x) (h_v_y : InR .i64 v_y) (h_v_z : InR .i64 v_z) : (tr_vec_triple_most v_x v_y v_z).run = some (i6 (mostI v_x v_y v_z)) := by
  unfold tr_vec_triple_most
  rfl

/-! vec.Len -/
def tr_vec_Len (v_x : Int) (v_y : Int) (v_z : Int) : Tr AV := Tr.leaf (AV.int IntKind.i64 false (isq (IntKind.u64.wrap (dotN v_x v_y v_z v_x v_y v_z))))
theorem run_vec_Len (v_x : Int) (v_y : Int) (v_z : Int) (h_v_x : InR .i64 v_x) (h_v_y : InR .i64 v_y) (h_v_z : InR .i64 v_z) : (tr_vec_Len v_x v_y v_z).run = some (i6 (isq (dotN v_x v_y v_z v_x v_y v_z))) := by
  unfold tr_vec_Len
  simp only [Tr.run, i6]
  have h := dotN_self v_x v_y v_z
  rw [wrap_u64_id (by omega)]

/-! vec.Unit, block 0 -/
def st_vec_Unit_0 (m : Int) (p_x : Int) (p_y : Int) (p_z : Int) (q_x : Int) (q_y : Int) (q_z : Int) (t_x : Int) (t_y : Int) (t_z : Int) (x0 x1 x2 x3 x6 x7 x8 x9 x10 x11 x12 x13 x14 x15 x16 x17 x18 x19 x20 x21 x22 x23 x24 x25 x26 x27 x28 x29 x30 x31 x32 x33 x34 x35 : AV) : St := ⟨[x0, x1, x2, x3, .ptr (some (2, 0)), .int .i64 false m, x6, x7, x8, x9, x10, x11, x12, x13, x14, x15, x16, x17, x18, x19, x20, x21, x22, x23, x24, x25, x26, x27, x28, x29, x30, x31, x32, x33, x34, x35], [[.int .i64 false p_x, .int .i64 false p_y, .int .i64 false p_z], [.int .i64 false q_x, .int .i64 false q_y, .int .i64 false q_z], [.int .i64 false t_x, .int .i64 false t_y, .int .i64 false t_z]]⟩
def kl_vec_Unit_0 (m : Int) (p_x : Int) (p_y : Int) (p_z : Int) (q_x : Int) (q_y : Int) (q_z : Int) (t_x : Int) (t_y : Int) (t_z : Int) (x0 x1 x2 x3 x6 x7 x8 x9 x10 x11 x12 x13 x14 x15 x16 x17 x18 x19 x20 x21 x22 x23 x24 x25 x26 x27 x28 x29 x30 x31 x32 x33 x34 x35 : AV) : List AV := [untag x0, untag x1, untag x2, untag x3, untag (.ptr (some (2, 0))), .undef, untag x6, untag x7, untag x8, untag x9, untag x10, untag x11, untag x12, untag x13, untag x14, untag x15, untag x16, untag x17, .undef, .undef, .undef, .undef, .undef, .undef, untag x24, untag x25, untag x26, untag x27, untag x28, untag x29, untag x30, untag x31, untag x32, untag x33, untag x34, untag x35]
def sl_vec_Unit_0_0 (m : Int) (p_x : Int) (p_y : Int) (p_z : Int) (q_x : Int) (q_y : Int) (q_z : Int) (t_x : Int) (t_y : Int) (t_z : Int) (x0 x1 x2 x3 x6 x7 x8 x9 x10 x11 x12 x13 x14 x15 x16 x17 x18 x19 x20 x21 x22 x23 x24 x25 x26 x27 x28 x29 x30 x31 x32 x33 x34 x35 : AV) : St := ⟨[x0, x1, x2, x3, AV.ptr (some (2, 0)), AV.int IntKind.i64 false (IntKind.i64.wrap (m * 2)), x6, x7, x8, x9, x10, x11, x12, x13, x14, x15, x16, x17, AV.int IntKind.i64 false m, AV.bool false (decide (m < 524288)), AV.int IntKind.i64 false m, AV.int IntKind.i64 false (IntKind.i64.wrap (m * 2)), AV.agg [AV.int IntKind.i64 false t_x, AV.int IntKind.i64 false t_y, AV.int IntKind.i64 false t_z], AV.agg [AV.int IntKind.i64 false (IntKind.i64.wrap (2 * t_x)), AV.int IntKind.i64 false (IntKind.i64.wrap (2 * t_y)), AV.int IntKind.i64 false (IntKind.i64.wrap (2 * t_z))], x24, x25, x26, x27, x28, x29, x30, x31, x32, x33, x34, x35], [[AV.int IntKind.i64 false p_x, AV.int IntKind.i64 false p_y, AV.int IntKind.i64 false p_z], [AV.int IntKind.i64 false q_x, AV.int IntKind.i64 false q_y, AV.int IntKind.i64 false q_z], [AV.int IntKind.i64 false (IntKind.i64.wrap (2 * t_x)), AV.int IntKind.i64 false (IntKind.i64.wrap (2 * t_y)), AV.int IntKind.i64 false (IntKind.i64.wrap (2 * t_z))]]⟩
def sl_vec_Unit_0_1 (m : Int) (p_x : Int) (p_y : Int) (p_z : Int) (q_x : Int) (q_y : Int) (q_z : Int) (t_x : Int) (t_y : Int) (t_z : Int) (x0 x1 x2 x3 x6 x7 x8 x9 x10 x11 x12 x13 x14 x15 x16 x17 x18 x19 x20 x21 x22 x23 x24 x25 x26 x27 x28 x29 x30 x31 x32 x33 x34 x35 : AV) : St := ⟨[x0, x1, x2, x3, AV.ptr (some (2, 0)), AV.int IntKind.i64 false m, x6, x7, x8, x9, x10, x11, x12, x13, x14, x15, x16, x17, AV.int IntKind.i64 false m, AV.bool false (decide (m < 524288)), x20, x21, x22, x23, x24, x25, x26, x27, x28, x29, x30, x31, x32, x33, x34, x35], [[AV.int IntKind.i64 false p_x, AV.int IntKind.i64 false p_y, AV.int IntKind.i64 false p_z], [AV.int IntKind.i64 false q_x, AV.int IntKind.i64 false q_y, AV.int IntKind.i64 false q_z], [AV.int IntKind.i64 false t_x, AV.int IntKind.i64 false t_y, AV.int IntKind.i64 false t_z]]⟩
def rd_vec_Unit_0 (m : Int) (p_x : Int) (p_y : Int) (p_z : Int) (q_x : Int) (q_y : Int) (q_z : Int) (t_x : Int) (t_y : Int) (t_z : Int) (x0 x1 x2 x3 x6 x7 x8 x9 x10 x11 x12 x13 x14 x15 x16 x17 x18 x19 x20 x21 x22 x23 x24 x25 x26 x27 x28 x29 x30 x31 x32 x33 x34 x35 : AV) : Tr (Ex × St) := Tr.node (decide (m < 524288)) (Tr.leaf (Ex.normal, sl_vec_Unit_0_0 m p_x p_y p_z q_x q_y q_z t_x t_y t_z x0 x1 x2 x3 x6 x7 x8 x9 x10 x11 x12 x13 x14 x15 x16 x17 x18 x19 x20 x21 x22 x23 x24 x25 x26 x27 x28 x29 x30 x31 x32 x33 x34 x35)) (Tr.leaf (Ex.exit 0, sl_vec_Unit_0_1 m p_x p_y p_z q_x q_y q_z t_x t_y t_z x0 x1 x2 x3 x6 x7 x8 x9 x10 x11 x12 x13 x14 x15 x16 x17 x18 x19 x20 x21 x22 x23 x24 x25 x26 x27 x28 x29 x30 x31 x32 x33 x34 x35))
def g_vec_Unit_0 : PieceTold := fun l h => match l, h with | [.ptr (some (2, 0)), .int .i64 false m], [[.int .i64 false p_x, .int .i64 false p_y, .int .i64 false p_z], [.int .i64 false q_x, .int .i64 false q_y, .int .i64 false q_z], [.int .i64 false t_x, .int .i64 false t_y, .int .i64 false t_z]] => .node (decide (1 ≤ m ∧ m ≤ 4611686018427387904 ∧ (-m ≤ t_x ∧ t_x ≤ m) ∧ (-m ≤ t_y ∧ t_y ≤ m) ∧ (-m ≤ t_z ∧ t_z ≤ m))) (.leaf (.normal, [], [[.int .i64 false p_x, .int .i64 false p_y, .int .i64 false p_z], [.int .i64 false q_x, .int .i64 false q_y, .int .i64 false q_z], [i6 (upS 20 t_x m), i6 (upS 20 t_y m), i6 (upS 20 t_z m)]])) .bad | _, _ => .bad
def HR_vec_Unit_0 (rnd : Nat → St → Tr (Ex × St)) : Prop := ∀ L (m : Int) (p_x : Int) (p_y : Int) (p_z : Int) (q_x : Int) (q_y : Int) (q_z : Int) (t_x : Int) (t_y : Int) (t_z : Int) (x0 x1 x2 x3 x6 x7 x8 x9 x10 x11 x12 x13 x14 x15 x16 x17 x18 x19 x20 x21 x22 x23 x24 x25 x26 x27 x28 x29 x30 x31 x32 x33 x34 x35 : AV), rnd L (st_vec_Unit_0 m p_x p_y p_z q_x q_y q_z t_x t_y t_z x0 x1 x2 x3 x6 x7 x8 x9 x10 x11 x12 x13 x14 x15 x16 x17 x18 x19 x20 x21 x22 x23 x24 x25 x26 x27 x28 x29 x30 x31 x32 x33 x34 x35) = rd_vec_Unit_0 m p_x p_y p_z q_x q_y q_z t_x t_y t_z x0 x1 x2 x3 x6 x7 x8 x9 x10 x11 x12 x13 x14 x15 x16 x17 x18 x19 x20 x21 x22 x23 x24 x25 x26 x27 x28 x29 x30 x31 x32 x33 x34 x35
/-- From here the loop ends so. -/
def Fin_vec_Unit_0 (rnd : Nat → St → Tr (Ex × St)) (m : Int) (p_x : Int) (p_y : Int) (p_z : Int) (q_x : Int) (q_y : Int) (q_z : Int) (t_x : Int) (t_y : Int) (t_z : Int) (e : Ex) (outs : List (Nat × AV)) (hp : AH → AH) : Prop := ∀ (x0 x1 x2 x3 x6 x7 x8 x9 x10 x11 x12 x13 x14 x15 x16 x17 x18 x19 x20 x21 x22 x23 x24 x25 x26 x27 x28 x29 x30 x31 x32 x33 x34 x35 : AV),
    ∃ N s', (∀ L, (loopIterG none (rnd L) (N + 1) (st_vec_Unit_0 m p_x p_y p_z q_x q_y q_z t_x t_y t_z x0 x1 x2 x3 x6 x7 x8 x9 x10 x11 x12 x13 x14 x15 x16 x17 x18 x19 x20 x21 x22 x23 x24 x25 x26 x27 x28 x29 x30 x31 x32 x33 x34 x35)).run = some (e, s')) ∧ Leaves none 36 [5, 18, 19, 20, 21, 22, 23] (st_vec_Unit_0 m p_x p_y p_z q_x q_y q_z t_x t_y t_z x0 x1 x2 x3 x6 x7 x8 x9 x10 x11 x12 x13 x14 x15 x16 x17 x18 x19 x20 x21 x22 x23 x24 x25 x26 x27 x28 x29 x30 x31 x32 x33 x34 x35).tmps outs (hp ([[.int .i64 false p_x, .int .i64 false p_y, .int .i64 false p_z], [.int .i64 false q_x, .int .i64 false q_y, .int .i64 false q_z], [.int .i64 false t_x, .int .i64 false t_y, .int .i64 false t_z]])) s'
theorem step_vec_Unit_0_0 {rnd : Nat → St → Tr (Ex × St)} (hr : HR_vec_Unit_0 rnd) (m : Int) (p_x : Int) (p_y : Int) (p_z : Int) (q_x : Int) (q_y : Int) (q_z : Int) (t_x : Int) (t_y : Int) (t_z : Int) (c0 : (decide (m < 524288)) = true) {e : Ex} {outs : List (Nat × AV)} {hp : AH → AH} (hh : hp ([[AV.int IntKind.i64 false p_x, AV.int IntKind.i64 false p_y, AV.int IntKind.i64 false p_z], [AV.int IntKind.i64 false q_x, AV.int IntKind.i64 false q_y, AV.int IntKind.i64 false q_z], [AV.int IntKind.i64 false (IntKind.i64.wrap (2 * t_x)), AV.int IntKind.i64 false (IntKind.i64.wrap (2 * t_y)), AV.int IntKind.i64 false (IntKind.i64.wrap (2 * t_z))]]) = hp ([[.int .i64 false p_x, .int .i64 false p_y, .int .i64 false p_z], [.int .i64 false q_x, .int .i64 false q_y, .int .i64 false q_z], [.int .i64 false t_x, .int .i64 false t_y, .int .i64 false t_z]])) (hn : Fin_vec_Unit_0 rnd ((IntKind.i64.wrap (m * 2))) (p_x) (p_y) (p_z) (q_x) (q_y) (q_z) ((IntKind.i64.wrap (2 * t_x))) ((IntKind.i64.wrap (2 * t_y))) ((IntKind.i64.wrap (2 * t_z))) e outs hp) : Fin_vec_Unit_0 rnd m p_x p_y p_z q_x q_y q_z t_x t_y t_z e outs hp := by
  intro x0 x1 x2 x3 x6 x7 x8 x9 x10 x11 x12 x13 x14 x15 x16 x17 x18 x19 x20 x21 x22 x23 x24 x25 x26 x27 x28 x29 x30 x31 x32 x33 x34 x35
  obtain ⟨N, s', h1, h2⟩ := hn (x0) (x1) (x2) (x3) (x6) (x7) (x8) (x9) (x10) (x11) (x12) (x13) (x14) (x15) (x16) (x17) (AV.int IntKind.i64 false m) (AV.bool false (decide (m < 524288))) (AV.int IntKind.i64 false m) (AV.int IntKind.i64 false (IntKind.i64.wrap (m * 2))) (AV.agg [AV.int IntKind.i64 false t_x, AV.int IntKind.i64 false t_y, AV.int IntKind.i64 false t_z]) (AV.agg [AV.int IntKind.i64 false (IntKind.i64.wrap (2 * t_x)), AV.int IntKind.i64 false (IntKind.i64.wrap (2 * t_y)), AV.int IntKind.i64 false (IntKind.i64.wrap (2 * t_z))]) (x24) (x25) (x26) (x27) (x28) (x29) (x30) (x31) (x32) (x33) (x34) (x35)
  refine ⟨N + 1, s', fun L => ?_, hh ▸ h2.of (s1 := sl_vec_Unit_0_0 m p_x p_y p_z q_x q_y q_z t_x t_y t_z x0 x1 x2 x3 x6 x7 x8 x9 x10 x11 x12 x13 x14 x15 x16 x17 x18 x19 x20 x21 x22 x23 x24 x25 x26 x27 x28 x29 x30 x31 x32 x33 x34 x35) rfl ((show _ = kl_vec_Unit_0 m p_x p_y p_z q_x q_y q_z t_x t_y t_z x0 x1 x2 x3 x6 x7 x8 x9 x10 x11 x12 x13 x14 x15 x16 x17 x18 x19 x20 x21 x22 x23 x24 x25 x26 x27 x28 x29 x30 x31 x32 x33 x34 x35 from rfl).trans (show kl_vec_Unit_0 m p_x p_y p_z q_x q_y q_z t_x t_y t_z x0 x1 x2 x3 x6 x7 x8 x9 x10 x11 x12 x13 x14 x15 x16 x17 x18 x19 x20 x21 x22 x23 x24 x25 x26 x27 x28 x29 x30 x31 x32 x33 x34 x35 = _ from rfl))⟩
  rw [loopIterG, hr L m p_x p_y p_z q_x q_y q_z t_x t_y t_z x0 x1 x2 x3 x6 x7 x8 x9 x10 x11 x12 x13 x14 x15 x16 x17 x18 x19 x20 x21 x22 x23 x24 x25 x26 x27 x28 x29 x30 x31 x32 x33 x34 x35, Tr.run_bind, show (rd_vec_Unit_0 m p_x p_y p_z q_x q_y q_z t_x t_y t_z x0 x1 x2 x3 x6 x7 x8 x9 x10 x11 x12 x13 x14 x15 x16 x17 x18 x19 x20 x21 x22 x23 x24 x25 x26 x27 x28 x29 x30 x31 x32 x33 x34 x35).run = some (.normal, sl_vec_Unit_0_0 m p_x p_y p_z q_x q_y q_z t_x t_y t_z x0 x1 x2 x3 x6 x7 x8 x9 x10 x11 x12 x13 x14 x15 x16 x17 x18 x19 x20 x21 x22 x23 x24 x25 x26 x27 x28 x29 x30 x31 x32 x33 x34 x35) from (run_t c0).trans (rfl)]
  exact h1 L
theorem stop_vec_Unit_0_1 {rnd : Nat → St → Tr (Ex × St)} (hr : HR_vec_Unit_0 rnd) (m : Int) (p_x : Int) (p_y : Int) (p_z : Int) (q_x : Int) (q_y : Int) (q_z : Int) (t_x : Int) (t_y : Int) (t_z : Int) (c0 : (decide (m < 524288)) = false) {outs : List (Nat × AV)} {hp : AH → AH} (ho : ∀ (x0 x1 x2 x3 x6 x7 x8 x9 x10 x11 x12 x13 x14 x15 x16 x17 x18 x19 x20 x21 x22 x23 x24 x25 x26 x27 x28 x29 x30 x31 x32 x33 x34 x35 : AV), outs.map (fun p => untag ((sl_vec_Unit_0_1 m p_x p_y p_z q_x q_y q_z t_x t_y t_z x0 x1 x2 x3 x6 x7 x8 x9 x10 x11 x12 x13 x14 x15 x16 x17 x18 x19 x20 x21 x22 x23 x24 x25 x26 x27 x28 x29 x30 x31 x32 x33 x34 x35).tmps.getD p.1 .undef)) = outs.map (fun p => untag p.2)) (hh : ∀ h : AH, ([[AV.int IntKind.i64 false p_x, AV.int IntKind.i64 false p_y, AV.int IntKind.i64 false p_z], [AV.int IntKind.i64 false q_x, AV.int IntKind.i64 false q_y, AV.int IntKind.i64 false q_z], [AV.int IntKind.i64 false t_x, AV.int IntKind.i64 false t_y, AV.int IntKind.i64 false t_z]]).map untagL = (hp ([[.int .i64 false p_x, .int .i64 false p_y, .int .i64 false p_z], [.int .i64 false q_x, .int .i64 false q_y, .int .i64 false q_z], [.int .i64 false t_x, .int .i64 false t_y, .int .i64 false t_z]])).map untagL) : Fin_vec_Unit_0 rnd m p_x p_y p_z q_x q_y q_z t_x t_y t_z (.exit 0) outs hp := by
  intro x0 x1 x2 x3 x6 x7 x8 x9 x10 x11 x12 x13 x14 x15 x16 x17 x18 x19 x20 x21 x22 x23 x24 x25 x26 x27 x28 x29 x30 x31 x32 x33 x34 x35
  refine ⟨0, gcSt none (sl_vec_Unit_0_1 m p_x p_y p_z q_x q_y q_z t_x t_y t_z x0 x1 x2 x3 x6 x7 x8 x9 x10 x11 x12 x13 x14 x15 x16 x17 x18 x19 x20 x21 x22 x23 x24 x25 x26 x27 x28 x29 x30 x31 x32 x33 x34 x35), fun L => ?_, Leaves.stop (s1 := sl_vec_Unit_0_1 m p_x p_y p_z q_x q_y q_z t_x t_y t_z x0 x1 x2 x3 x6 x7 x8 x9 x10 x11 x12 x13 x14 x15 x16 x17 x18 x19 x20 x21 x22 x23 x24 x25 x26 x27 x28 x29 x30 x31 x32 x33 x34 x35) (hh []) rfl (ho x0 x1 x2 x3 x6 x7 x8 x9 x10 x11 x12 x13 x14 x15 x16 x17 x18 x19 x20 x21 x22 x23 x24 x25 x26 x27 x28 x29 x30 x31 x32 x33 x34 x35) ((show _ = kl_vec_Unit_0 m p_x p_y p_z q_x q_y q_z t_x t_y t_z x0 x1 x2 x3 x6 x7 x8 x9 x10 x11 x12 x13 x14 x15 x16 x17 x18 x19 x20 x21 x22 x23 x24 x25 x26 x27 x28 x29 x30 x31 x32 x33 x34 x35 from rfl).trans (show kl_vec_Unit_0 m p_x p_y p_z q_x q_y q_z t_x t_y t_z x0 x1 x2 x3 x6 x7 x8 x9 x10 x11 x12 x13 x14 x15 x16 x17 x18 x19 x20 x21 x22 x23 x24 x25 x26 x27 x28 x29 x30 x31 x32 x33 x34 x35 = _ from rfl))⟩
  rw [loopIterG, hr L m p_x p_y p_z q_x q_y q_z t_x t_y t_z x0 x1 x2 x3 x6 x7 x8 x9 x10 x11 x12 x13 x14 x15 x16 x17 x18 x19 x20 x21 x22 x23 x24 x25 x26 x27 x28 x29 x30 x31 x32 x33 x34 x35, Tr.run_bind, show (rd_vec_Unit_0 m p_x p_y p_z q_x q_y q_z t_x t_y t_z x0 x1 x2 x3 x6 x7 x8 x9 x10 x11 x12 x13 x14 x15 x16 x17 x18 x19 x20 x21 x22 x23 x24 x25 x26 x27 x28 x29 x30 x31 x32 x33 x34 x35).run = some (.exit 0, sl_vec_Unit_0_1 m p_x p_y p_z q_x q_y q_z t_x t_y t_z x0 x1 x2 x3 x6 x7 x8 x9 x10 x11 x12 x13 x14 x15 x16 x17 x18 x19 x20 x21 x22 x23 x24 x25 x26 x27 x28 x29 x30 x31 x32 x33 x34 x35) from (run_f c0).trans (rfl)]
  rfl
theorem core_vec_Unit_0 (rnd : Nat → St → Tr (Ex × St)) (hr : HR_vec_Unit_0 rnd) : ∀ (m : Int) (p_x : Int) (p_y : Int) (p_z : Int) (q_x : Int) (q_y : Int) (q_z : Int) (t_x : Int) (t_y : Int) (t_z : Int), 1 ≤ m ∧ m ≤ 4611686018427387904 ∧ (-m ≤ t_x ∧ t_x ≤ m) ∧ (-m ≤ t_y ∧ t_y ≤ m) ∧ (-m ≤ t_z ∧ t_z ≤ m) → Fin_vec_Unit_0 rnd m p_x p_y p_z q_x q_y q_z t_x t_y t_z (.exit 0) [] (fun _ => [[.int .i64 false p_x, .int .i64 false p_y, .int .i64 false p_z], [.int .i64 false q_x, .int .i64 false q_y, .int .i64 false q_z], [i6 (upS 20 t_x m), i6 (upS 20 t_y m), i6 (upS 20 t_z m)]]) := by
  have key : ∀ (k : Nat) (m p_x p_y p_z q_x q_y q_z t_x t_y t_z : Int), (1 ≤ m ∧ m ≤ 4611686018427387904 ∧ (-m ≤ t_x ∧ t_x ≤ m) ∧ (-m ≤ t_y ∧ t_y ≤ m) ∧ (-m ≤ t_z ∧ t_z ≤ m)) ∧ 524288 ≤ m * 2 ^ k →
      Fin_vec_Unit_0 rnd m p_x p_y p_z q_x q_y q_z t_x t_y t_z (.exit 0) [] (fun _ => [[.int .i64 false p_x, .int .i64 false p_y, .int .i64 false p_z], [.int .i64 false q_x, .int .i64 false q_y, .int .i64 false q_z], [i6 (upS k t_x m), i6 (upS k t_y m), i6 (upS k t_z m)]]) := by
    intro k
    induction k with
    | zero =>
      intro m p_x p_y p_z q_x q_y q_z t_x t_y t_z ⟨⟨h1, h2, hx, hy, hz⟩, hk⟩
      exact stop_vec_Unit_0_1 hr m p_x p_y p_z q_x q_y q_z t_x t_y t_z (decide_eq_false (by omega)) (by intros; rfl) (fun h => rfl)
    | succ k ih =>
      intro m p_x p_y p_z q_x q_y q_z t_x t_y t_z ⟨⟨h1, h2, hx, hy, hz⟩, hk⟩
      by_cases hc : m < 524288
      · refine step_vec_Unit_0_0 hr m p_x p_y p_z q_x q_y q_z t_x t_y t_z (decide_eq_true hc) rfl ?_
        rw [wrap_i64_id (n := m * 2) (by omega), wrap_i64_id (n := 2 * t_x) (by omega), wrap_i64_id (n := 2 * t_y) (by omega), wrap_i64_id (n := 2 * t_z) (by omega), Int.mul_comm m 2]
        simp only [upS, if_pos hc]
        refine ih (2 * m) p_x p_y p_z q_x q_y q_z (2 * t_x) (2 * t_y) (2 * t_z) ⟨⟨by omega, by omega, by omega, by omega, by omega⟩, ?_⟩
        have : m * 2 ^ (k + 1) = 2 * m * 2 ^ k := by rw [Int.pow_succ]; grind
        omega
      · refine stop_vec_Unit_0_1 hr m p_x p_y p_z q_x q_y q_z t_x t_y t_z (decide_eq_false hc) (by intros; rfl) (fun h => ?_)
        simp only [upS, if_neg hc]; rfl
  exact fun m p_x p_y p_z q_x q_y q_z t_x t_y t_z hc => key 20 m p_x p_y p_z q_x q_y q_z t_x t_y t_z ⟨hc, by omega⟩
theorem piece_vec_Unit_0 {P : Program} {T : Table} {O' : Known} {f : FuncId} (hb : blockOf P f 0 = .loop (loopOf P f 0)) (hid : O' 0 = none)
    (hr : HR_vec_Unit_0 (fun L => evCode P (evCall P T 16 6) L O' (loopOf P f 0))) :
    ∀ (s : St) (e : Ex) (outs : List (Nat × AV)) (hp : AH), s.tmps.length = 36 → (g_vec_Unit_0 (([4, 5] : List Nat).map fun j => untag (s.tmps.getD j .undef)) (s.heap.map untagL)).run = some (e, outs, hp) → ∃ s', Good P T O' f 0 36 [5, 18, 19, 20, 21, 22, 23] s e outs hp s' := by
  intro s e outs hp hk hg
  obtain ⟨tm, h⟩ := s
  have htm : untagL tm = [untag (tm.getD 0 .undef), untag (tm.getD 1 .undef), untag (tm.getD 2 .undef), untag (tm.getD 3 .undef), untag (tm.getD 4 .undef), untag (tm.getD 5 .undef), untag (tm.getD 6 .undef), untag (tm.getD 7 .undef), untag (tm.getD 8 .undef), untag (tm.getD 9 .undef), untag (tm.getD 10 .undef), untag (tm.getD 11 .undef), untag (tm.getD 12 .undef), untag (tm.getD 13 .undef), untag (tm.getD 14 .undef), untag (tm.getD 15 .undef), untag (tm.getD 16 .undef), untag (tm.getD 17 .undef), untag (tm.getD 18 .undef), untag (tm.getD 19 .undef), untag (tm.getD 20 .undef), untag (tm.getD 21 .undef), untag (tm.getD 22 .undef), untag (tm.getD 23 .undef), untag (tm.getD 24 .undef), untag (tm.getD 25 .undef), untag (tm.getD 26 .undef), untag (tm.getD 27 .undef), untag (tm.getD 28 .undef), untag (tm.getD 29 .undef), untag (tm.getD 30 .undef), untag (tm.getD 31 .undef), untag (tm.getD 32 .undef), untag (tm.getD 33 .undef), untag (tm.getD 34 .undef), untag (tm.getD 35 .undef)] := tmps_eq hk
  unfold g_vec_Unit_0 at hg
  simp only [List.map_cons, List.map_nil] at hg
  split at hg
  · rename_i m p_x p_y p_z q_x q_y q_z t_x t_y t_z heq hheap
    simp only [List.cons.injEq, and_true] at heq
    obtain ⟨e4, e5⟩ := heq
    simp only [Tr.run] at hg
    split at hg
    · rename_i hc
      simp only [Option.some.injEq, Prod.mk.injEq] at hg
      obtain ⟨rfl, rfl, rfl⟩ := hg
      rw [e4, e5] at htm
      obtain ⟨N, s', h1, h2⟩ := core_vec_Unit_0 (fun L => evCode P (evCall P T 16 6) L O' (loopOf P f 0)) hr m p_x p_y p_z q_x q_y q_z t_x t_y t_z (of_decide_eq_true hc) (untag (tm.getD 0 .undef)) (untag (tm.getD 1 .undef)) (untag (tm.getD 2 .undef)) (untag (tm.getD 3 .undef)) (untag (tm.getD 6 .undef)) (untag (tm.getD 7 .undef)) (untag (tm.getD 8 .undef)) (untag (tm.getD 9 .undef)) (untag (tm.getD 10 .undef)) (untag (tm.getD 11 .undef)) (untag (tm.getD 12 .undef)) (untag (tm.getD 13 .undef)) (untag (tm.getD 14 .undef)) (untag (tm.getD 15 .undef)) (untag (tm.getD 16 .undef)) (untag (tm.getD 17 .undef)) (untag (tm.getD 18 .undef)) (untag (tm.getD 19 .undef)) (untag (tm.getD 20 .undef)) (untag (tm.getD 21 .undef)) (untag (tm.getD 22 .undef)) (untag (tm.getD 23 .undef)) (untag (tm.getD 24 .undef)) (untag (tm.getD 25 .undef)) (untag (tm.getD 26 .undef)) (untag (tm.getD 27 .undef)) (untag (tm.getD 28 .undef)) (untag (tm.getD 29 .undef)) (untag (tm.getD 30 .undef)) (untag (tm.getD 31 .undef)) (untag (tm.getD 32 .undef)) (untag (tm.getD 33 .undef)) (untag (tm.getD 34 .undef)) (untag (tm.getD 35 .undef)) 
      exact ⟨s', good_loop (g := none) (e1 := .exit 0) hb (fun k e => by cases e) 16 6 N (by rw [htm, hheap]; exact h1) (by rw [htm]; exact h2)⟩
    · cases hg
  · cases hg

/-! vec.Unit, block 2 -/
def st_vec_Unit_2 (p_x : Int) (p_y : Int) (p_z : Int) (q_x : Int) (q_y : Int) (q_z : Int) (t_x : Int) (t_y : Int) (t_z : Int) (x0 x1 x2 x3 x5 x6 x7 x8 x9 x10 x11 x12 x13 x14 x15 x16 x17 x18 x19 x20 x21 x22 x23 x24 x25 x26 x27 x28 x29 x30 x31 x32 x33 x34 x35 : AV) : St := ⟨[x0, x1, x2, x3, .ptr (some (2, 0)), x5, x6, x7, x8, x9, x10, x11, x12, x13, x14, x15, x16, x17, x18, x19, x20, x21, x22, x23, x24, x25, x26, x27, x28, x29, x30, x31, x32, x33, x34, x35], [[.int .i64 false p_x, .int .i64 false p_y, .int .i64 false p_z], [.int .i64 false q_x, .int .i64 false q_y, .int .i64 false q_z], [.int .i64 false t_x, .int .i64 false t_y, .int .i64 false t_z]]⟩
def kl_vec_Unit_2 (p_x : Int) (p_y : Int) (p_z : Int) (q_x : Int) (q_y : Int) (q_z : Int) (t_x : Int) (t_y : Int) (t_z : Int) (x0 x1 x2 x3 x5 x6 x7 x8 x9 x10 x11 x12 x13 x14 x15 x16 x17 x18 x19 x20 x21 x22 x23 x24 x25 x26 x27 x28 x29 x30 x31 x32 x33 x34 x35 : AV) : List AV := [untag x0, untag x1, untag x2, untag x3, untag (.ptr (some (2, 0))), untag x5, untag x6, untag x7, untag x8, untag x9, untag x10, untag x11, untag x12, untag x13, untag x14, untag x15, untag x16, untag x17, untag x18, untag x19, untag x20, untag x21, untag x22, untag x23, .undef, .undef, .undef, .undef, .undef, untag x29, untag x30, untag x31, untag x32, untag x33, untag x34, untag x35]
def sl_vec_Unit_2_0 (p_x : Int) (p_y : Int) (p_z : Int) (q_x : Int) (q_y : Int) (q_z : Int) (t_x : Int) (t_y : Int) (t_z : Int) (x0 x1 x2 x3 x5 x6 x7 x8 x9 x10 x11 x12 x13 x14 x15 x16 x17 x18 x19 x20 x21 x22 x23 x24 x25 x26 x27 x28 x29 x30 x31 x32 x33 x34 x35 : AV) : St := ⟨[x0, x1, x2, x3, AV.ptr (some (2, 0)), x5, x6, x7, x8, x9, x10, x11, x12, x13, x14, x15, x16, x17, x18, x19, x20, x21, x22, x23, AV.agg [AV.int IntKind.i64 false t_x, AV.int IntKind.i64 false t_y, AV.int IntKind.i64 false t_z], AV.int IntKind.i64 false (mostI t_x t_y t_z), AV.bool false (decide (mostI t_x t_y t_z ≥ 1048576)), AV.agg [AV.int IntKind.i64 false t_x, AV.int IntKind.i64 false t_y, AV.int IntKind.i64 false t_z], AV.agg [AV.int IntKind.i64 false (IntKind.i64.wrap (t_x.tdiv 2)), AV.int IntKind.i64 false (IntKind.i64.wrap (t_y.tdiv 2)), AV.int IntKind.i64 false (IntKind.i64.wrap (t_z.tdiv 2))], x29, x30, x31, x32, x33, x34, x35], [[AV.int IntKind.i64 false p_x, AV.int IntKind.i64 false p_y, AV.int IntKind.i64 false p_z], [AV.int IntKind.i64 false q_x, AV.int IntKind.i64 false q_y, AV.int IntKind.i64 false q_z], [AV.int IntKind.i64 false (IntKind.i64.wrap (t_x.tdiv 2)), AV.int IntKind.i64 false (IntKind.i64.wrap (t_y.tdiv 2)), AV.int IntKind.i64 false (IntKind.i64.wrap (t_z.tdiv 2))]]⟩
def sl_vec_Unit_2_1 (p_x : Int) (p_y : Int) (p_z : Int) (q_x : Int) (q_y : Int) (q_z : Int) (t_x : Int) (t_y : Int) (t_z : Int) (x0 x1 x2 x3 x5 x6 x7 x8 x9 x10 x11 x12 x13 x14 x15 x16 x17 x18 x19 x20 x21 x22 x23 x24 x25 x26 x27 x28 x29 x30 x31 x32 x33 x34 x35 : AV) : St := ⟨[x0, x1, x2, x3, AV.ptr (some (2, 0)), x5, x6, x7, x8, x9, x10, x11, x12, x13, x14, x15, x16, x17, x18, x19, x20, x21, x22, x23, AV.agg [AV.int IntKind.i64 false t_x, AV.int IntKind.i64 false t_y, AV.int IntKind.i64 false t_z], AV.int IntKind.i64 false (mostI t_x t_y t_z), AV.bool false (decide (mostI t_x t_y t_z ≥ 1048576)), x27, x28, x29, x30, x31, x32, x33, x34, x35], [[AV.int IntKind.i64 false p_x, AV.int IntKind.i64 false p_y, AV.int IntKind.i64 false p_z], [AV.int IntKind.i64 false q_x, AV.int IntKind.i64 false q_y, AV.int IntKind.i64 false q_z], [AV.int IntKind.i64 false t_x, AV.int IntKind.i64 false t_y, AV.int IntKind.i64 false t_z]]⟩
def rd_vec_Unit_2 (p_x : Int) (p_y : Int) (p_z : Int) (q_x : Int) (q_y : Int) (q_z : Int) (t_x : Int) (t_y : Int) (t_z : Int) (x0 x1 x2 x3 x5 x6 x7 x8 x9 x10 x11 x12 x13 x14 x15 x16 x17 x18 x19 x20 x21 x22 x23 x24 x25 x26 x27 x28 x29 x30 x31 x32 x33 x34 x35 : AV) : Tr (Ex × St) := Tr.node (decide (mostI t_x t_y t_z ≥ 1048576)) (Tr.leaf (Ex.normal, sl_vec_Unit_2_0 p_x p_y p_z q_x q_y q_z t_x t_y t_z x0 x1 x2 x3 x5 x6 x7 x8 x9 x10 x11 x12 x13 x14 x15 x16 x17 x18 x19 x20 x21 x22 x23 x24 x25 x26 x27 x28 x29 x30 x31 x32 x33 x34 x35)) (Tr.leaf (Ex.exit 2, sl_vec_Unit_2_1 p_x p_y p_z q_x q_y q_z t_x t_y t_z x0 x1 x2 x3 x5 x6 x7 x8 x9 x10 x11 x12 x13 x14 x15 x16 x17 x18 x19 x20 x21 x22 x23 x24 x25 x26 x27 x28 x29 x30 x31 x32 x33 x34 x35))
def g_vec_Unit_2 : PieceTold := fun l h => match l, h with | [.ptr (some (2, 0))], [[.int .i64 false p_x, .int .i64 false p_y, .int .i64 false p_z], [.int .i64 false q_x, .int .i64 false q_y, .int .i64 false q_z], [.int .i64 false t_x, .int .i64 false t_y, .int .i64 false t_z]] => .node (decide (mostI t_x t_y t_z ≤ 4611686018427387904)) (.leaf (.normal, [], [[.int .i64 false p_x, .int .i64 false p_y, .int .i64 false p_z], [.int .i64 false q_x, .int .i64 false q_y, .int .i64 false q_z], [i6 (downS 45 t_x (mostI t_x t_y t_z)), i6 (downS 45 t_y (mostI t_x t_y t_z)), i6 (downS 45 t_z (mostI t_x t_y t_z))]])) .bad | _, _ => .bad
def HR_vec_Unit_2 (rnd : Nat → St → Tr (Ex × St)) : Prop := ∀ L (p_x : Int) (p_y : Int) (p_z : Int) (q_x : Int) (q_y : Int) (q_z : Int) (t_x : Int) (t_y : Int) (t_z : Int) (x0 x1 x2 x3 x5 x6 x7 x8 x9 x10 x11 x12 x13 x14 x15 x16 x17 x18 x19 x20 x21 x22 x23 x24 x25 x26 x27 x28 x29 x30 x31 x32 x33 x34 x35 : AV), rnd L (st_vec_Unit_2 p_x p_y p_z q_x q_y q_z t_x t_y t_z x0 x1 x2 x3 x5 x6 x7 x8 x9 x10 x11 x12 x13 x14 x15 x16 x17 x18 x19 x20 x21 x22 x23 x24 x25 x26 x27 x28 x29 x30 x31 x32 x33 x34 x35) = rd_vec_Unit_2 p_x p_y p_z q_x q_y q_z t_x t_y t_z x0 x1 x2 x3 x5 x6 x7 x8 x9 x10 x11 x12 x13 x14 x15 x16 x17 x18 x19 x20 x21 x22 x23 x24 x25 x26 x27 x28 x29 x30 x31 x32 x33 x34 x35
/-- From here the loop ends so. -/
def Fin_vec_Unit_2 (rnd : Nat → St → Tr (Ex × St)) (p_x : Int) (p_y : Int) (p_z : Int) (q_x : Int) (q_y : Int) (q_z : Int) (t_x : Int) (t_y : Int) (t_z : Int) (e : Ex) (outs : List (Nat × AV)) (hp : AH → AH) : Prop := ∀ (x0 x1 x2 x3 x5 x6 x7 x8 x9 x10 x11 x12 x13 x14 x15 x16 x17 x18 x19 x20 x21 x22 x23 x24 x25 x26 x27 x28 x29 x30 x31 x32 x33 x34 x35 : AV),
    ∃ N s', (∀ L, (loopIterG none (rnd L) (N + 1) (st_vec_Unit_2 p_x p_y p_z q_x q_y q_z t_x t_y t_z x0 x1 x2 x3 x5 x6 x7 x8 x9 x10 x11 x12 x13 x14 x15 x16 x17 x18 x19 x20 x21 x22 x23 x24 x25 x26 x27 x28 x29 x30 x31 x32 x33 x34 x35)).run = some (e, s')) ∧ Leaves none 36 [24, 25, 26, 27, 28] (st_vec_Unit_2 p_x p_y p_z q_x q_y q_z t_x t_y t_z x0 x1 x2 x3 x5 x6 x7 x8 x9 x10 x11 x12 x13 x14 x15 x16 x17 x18 x19 x20 x21 x22 x23 x24 x25 x26 x27 x28 x29 x30 x31 x32 x33 x34 x35).tmps outs (hp ([[.int .i64 false p_x, .int .i64 false p_y, .int .i64 false p_z], [.int .i64 false q_x, .int .i64 false q_y, .int .i64 false q_z], [.int .i64 false t_x, .int .i64 false t_y, .int .i64 false t_z]])) s'
theorem step_vec_Unit_2_0 {rnd : Nat → St → Tr (Ex × St)} (hr : HR_vec_Unit_2 rnd) (p_x : Int) (p_y : Int) (p_z : Int) (q_x : Int) (q_y : Int) (q_z : Int) (t_x : Int) (t_y : Int) (t_z : Int) (c0 : (decide (mostI t_x t_y t_z ≥ 1048576)) = true) {e : Ex} {outs : List (Nat × AV)} {hp : AH → AH} (hh : hp ([[AV.int IntKind.i64 false p_x, AV.int IntKind.i64 false p_y, AV.int IntKind.i64 false p_z], [AV.int IntKind.i64 false q_x, AV.int IntKind.i64 false q_y, AV.int IntKind.i64 false q_z], [AV.int IntKind.i64 false (IntKind.i64.wrap (t_x.tdiv 2)), AV.int IntKind.i64 false (IntKind.i64.wrap (t_y.tdiv 2)), AV.int IntKind.i64 false (IntKind.i64.wrap (t_z.tdiv 2))]]) = hp ([[.int .i64 false p_x, .int .i64 false p_y, .int .i64 false p_z], [.int .i64 false q_x, .int .i64 false q_y, .int .i64 false q_z], [.int .i64 false t_x, .int .i64 false t_y, .int .i64 false t_z]])) (hn : Fin_vec_Unit_2 rnd (p_x) (p_y) (p_z) (q_x) (q_y) (q_z) ((IntKind.i64.wrap (t_x.tdiv 2))) ((IntKind.i64.wrap (t_y.tdiv 2))) ((IntKind.i64.wrap (t_z.tdiv 2))) e outs hp) : Fin_vec_Unit_2 rnd p_x p_y p_z q_x q_y q_z t_x t_y t_z e outs hp := by
  intro x0 x1 x2 x3 x5 x6 x7 x8 x9 x10 x11 x12 x13 x14 x15 x16 x17 x18 x19 x20 x21 x22 x23 x24 x25 x26 x27 x28 x29 x30 x31 x32 x33 x34 x35
  obtain ⟨N, s', h1, h2⟩ := hn (x0) (x1) (x2) (x3) (x5) (x6) (x7) (x8) (x9) (x10) (x11) (x12) (x13) (x14) (x15) (x16) (x17) (x18) (x19) (x20) (x21) (x22) (x23) (AV.agg [AV.int IntKind.i64 false t_x, AV.int IntKind.i64 false t_y, AV.int IntKind.i64 false t_z]) (AV.int IntKind.i64 false (mostI t_x t_y t_z)) (AV.bool false (decide (mostI t_x t_y t_z ≥ 1048576))) (AV.agg [AV.int IntKind.i64 false t_x, AV.int IntKind.i64 false t_y, AV.int IntKind.i64 false t_z]) (AV.agg [AV.int IntKind.i64 false (IntKind.i64.wrap (t_x.tdiv 2)), AV.int IntKind.i64 false (IntKind.i64.wrap (t_y.tdiv 2)), AV.int IntKind.i64 false (IntKind.i64.wrap (t_z.tdiv 2))]) (x29) (x30) (x31) (x32) (x33) (x34) (x35)
  refine ⟨N + 1, s', fun L => ?_, hh ▸ h2.of (s1 := sl_vec_Unit_2_0 p_x p_y p_z q_x q_y q_z t_x t_y t_z x0 x1 x2 x3 x5 x6 x7 x8 x9 x10 x11 x12 x13 x14 x15 x16 x17 x18 x19 x20 x21 x22 x23 x24 x25 x26 x27 x28 x29 x30 x31 x32 x33 x34 x35) rfl ((show _ = kl_vec_Unit_2 p_x p_y p_z q_x q_y q_z t_x t_y t_z x0 x1 x2 x3 x5 x6 x7 x8 x9 x10 x11 x12 x13 x14 x15 x16 x17 x18 x19 x20 x21 x22 x23 x24 x25 x26 x27 x28 x29 x30 x31 x32 x33 x34 x35 from rfl).trans (show kl_vec_Unit_2 p_x p_y p_z q_x q_y q_z t_x t_y t_z x0 x1 x2 x3 x5 x6 x7 x8 x9 x10 x11 x12 x13 x14 x15 x16 x17 x18 x19 x20 x21 x22 x23 x24 x25 x26 x27 x28 x29 x30 x31 x32 x33 x34 x35 = _ from rfl))⟩
  rw [loopIterG, hr L p_x p_y p_z q_x q_y q_z t_x t_y t_z x0 x1 x2 x3 x5 x6 x7 x8 x9 x10 x11 x12 x13 x14 x15 x16 x17 x18 x19 x20 x21 x22 x23 x24 x25 x26 x27 x28 x29 x30 x31 x32 x33 x34 x35, Tr.run_bind, show (rd_vec_Unit_2 p_x p_y p_z q_x q_y q_z t_x t_y t_z x0 x1 x2 x3 x5 x6 x7 x8 x9 x10 x11 x12 x13 x14 x15 x16 x17 x18 x19 x20 x21 x22 x23 x24 x25 x26 x27 x28 x29 x30 x31 x32 x33 x34 x35).run = some (.normal, sl_vec_Unit_2_0 p_x p_y p_z q_x q_y q_z t_x t_y t_z x0 x1 x2 x3 x5 x6 x7 x8 x9 x10 x11 x12 x13 x14 x15 x16 x17 x18 x19 x20 x21 x22 x23 x24 x25 x26 x27 x28 x29 x30 x31 x32 x33 x34 x35) from (run_t c0).trans (rfl)]
  exact h1 L
theorem stop_vec_Unit_2_1 {rnd : Nat → St → Tr (Ex × St)} (hr : HR_vec_Unit_2 rnd) (p_x : Int) (p_y : Int) (p_z : Int) (q_x : Int) (q_y : Int) (q_z : Int) (t_x : Int) (t_y : Int) (t_z : Int) (c0 : (decide (mostI t_x t_y t_z ≥ 1048576)) = false) {outs : List (Nat × AV)} {hp : AH → AH} (ho : ∀ (x0 x1 x2 x3 x5 x6 x7 x8 x9 x10 x11 x12 x13 x14 x15 x16 x17 x18 x19 x20 x21 x22 x23 x24 x25 x26 x27 x28 x29 x30 x31 x32 x33 x34 x35 : AV), outs.map (fun p => untag ((sl_vec_Unit_2_1 p_x p_y p_z q_x q_y q_z t_x t_y t_z x0 x1 x2 x3 x5 x6 x7 x8 x9 x10 x11 x12 x13 x14 x15 x16 x17 x18 x19 x20 x21 x22 x23 x24 x25 x26 x27 x28 x29 x30 x31 x32 x33 x34 x35).tmps.getD p.1 .undef)) = outs.map (fun p => untag p.2)) (hh : ∀ h : AH, ([[AV.int IntKind.i64 false p_x, AV.int IntKind.i64 false p_y, AV.int IntKind.i64 false p_z], [AV.int IntKind.i64 false q_x, AV.int IntKind.i64 false q_y, AV.int IntKind.i64 false q_z], [AV.int IntKind.i64 false t_x, AV.int IntKind.i64 false t_y, AV.int IntKind.i64 false t_z]]).map untagL = (hp ([[.int .i64 false p_x, .int .i64 false p_y, .int .i64 false p_z], [.int .i64 false q_x, .int .i64 false q_y, .int .i64 false q_z], [.int .i64 false t_x, .int .i64 false t_y, .int .i64 false t_z]])).map untagL) : Fin_vec_Unit_2 rnd p_x p_y p_z q_x q_y q_z t_x t_y t_z (.exit 2) outs hp := by
  intro x0 x1 x2 x3 x5 x6 x7 x8 x9 x10 x11 x12 x13 x14 x15 x16 x17 x18 x19 x20 x21 x22 x23 x24 x25 x26 x27 x28 x29 x30 x31 x32 x33 x34 x35
  refine ⟨0, gcSt none (sl_vec_Unit_2_1 p_x p_y p_z q_x q_y q_z t_x t_y t_z x0 x1 x2 x3 x5 x6 x7 x8 x9 x10 x11 x12 x13 x14 x15 x16 x17 x18 x19 x20 x21 x22 x23 x24 x25 x26 x27 x28 x29 x30 x31 x32 x33 x34 x35), fun L => ?_, Leaves.stop (s1 := sl_vec_Unit_2_1 p_x p_y p_z q_x q_y q_z t_x t_y t_z x0 x1 x2 x3 x5 x6 x7 x8 x9 x10 x11 x12 x13 x14 x15 x16 x17 x18 x19 x20 x21 x22 x23 x24 x25 x26 x27 x28 x29 x30 x31 x32 x33 x34 x35) (hh []) rfl (ho x0 x1 x2 x3 x5 x6 x7 x8 x9 x10 x11 x12 x13 x14 x15 x16 x17 x18 x19 x20 x21 x22 x23 x24 x25 x26 x27 x28 x29 x30 x31 x32 x33 x34 x35) ((show _ = kl_vec_Unit_2 p_x p_y p_z q_x q_y q_z t_x t_y t_z x0 x1 x2 x3 x5 x6 x7 x8 x9 x10 x11 x12 x13 x14 x15 x16 x17 x18 x19 x20 x21 x22 x23 x24 x25 x26 x27 x28 x29 x30 x31 x32 x33 x34 x35 from rfl).trans (show kl_vec_Unit_2 p_x p_y p_z q_x q_y q_z t_x t_y t_z x0 x1 x2 x3 x5 x6 x7 x8 x9 x10 x11 x12 x13 x14 x15 x16 x17 x18 x19 x20 x21 x22 x23 x24 x25 x26 x27 x28 x29 x30 x31 x32 x33 x34 x35 = _ from rfl))⟩
  rw [loopIterG, hr L p_x p_y p_z q_x q_y q_z t_x t_y t_z x0 x1 x2 x3 x5 x6 x7 x8 x9 x10 x11 x12 x13 x14 x15 x16 x17 x18 x19 x20 x21 x22 x23 x24 x25 x26 x27 x28 x29 x30 x31 x32 x33 x34 x35, Tr.run_bind, show (rd_vec_Unit_2 p_x p_y p_z q_x q_y q_z t_x t_y t_z x0 x1 x2 x3 x5 x6 x7 x8 x9 x10 x11 x12 x13 x14 x15 x16 x17 x18 x19 x20 x21 x22 x23 x24 x25 x26 x27 x28 x29 x30 x31 x32 x33 x34 x35).run = some (.exit 2, sl_vec_Unit_2_1 p_x p_y p_z q_x q_y q_z t_x t_y t_z x0 x1 x2 x3 x5 x6 x7 x8 x9 x10 x11 x12 x13 x14 x15 x16 x17 x18 x19 x20 x21 x22 x23 x24 x25 x26 x27 x28 x29 x30 x31 x32 x33 x34 x35) from (run_f c0).trans (rfl)]
  rfl
theorem core_vec_Unit_2 (rnd : Nat → St → Tr (Ex × St)) (hr : HR_vec_Unit_2 rnd) : ∀ (p_x : Int) (p_y : Int) (p_z : Int) (q_x : Int) (q_y : Int) (q_z : Int) (t_x : Int) (t_y : Int) (t_z : Int), mostI t_x t_y t_z ≤ 4611686018427387904 → Fin_vec_Unit_2 rnd p_x p_y p_z q_x q_y q_z t_x t_y t_z (.exit 2) [] (fun _ => [[.int .i64 false p_x, .int .i64 false p_y, .int .i64 false p_z], [.int .i64 false q_x, .int .i64 false q_y, .int .i64 false q_z], [i6 (downS 45 t_x (mostI t_x t_y t_z)), i6 (downS 45 t_y (mostI t_x t_y t_z)), i6 (downS 45 t_z (mostI t_x t_y t_z))]]) := by
  have key : ∀ (k : Nat) (p_x p_y p_z q_x q_y q_z t_x t_y t_z : Int), mostI t_x t_y t_z ≤ 4611686018427387904 ∧ mostI t_x t_y t_z < 1048576 * 2 ^ k →
      Fin_vec_Unit_2 rnd p_x p_y p_z q_x q_y q_z t_x t_y t_z (.exit 2) [] (fun _ => [[.int .i64 false p_x, .int .i64 false p_y, .int .i64 false p_z], [.int .i64 false q_x, .int .i64 false q_y, .int .i64 false q_z], [i6 (downS k t_x (mostI t_x t_y t_z)), i6 (downS k t_y (mostI t_x t_y t_z)), i6 (downS k t_z (mostI t_x t_y t_z))]]) := by
    intro k
    induction k with
    | zero =>
      intro p_x p_y p_z q_x q_y q_z t_x t_y t_z ⟨h1, hk⟩
      exact stop_vec_Unit_2_1 hr p_x p_y p_z q_x q_y q_z t_x t_y t_z (decide_eq_false (by omega)) (by intros; rfl) (fun h => rfl)
    | succ k ih =>
      intro p_x p_y p_z q_x q_y q_z t_x t_y t_z ⟨h1, hk⟩
      obtain ⟨hx, hy, hz, _⟩ := most_spec h1
      by_cases hc : mostI t_x t_y t_z ≥ 1048576
      · refine step_vec_Unit_2_0 hr p_x p_y p_z q_x q_y q_z t_x t_y t_z (decide_eq_true hc) rfl ?_
        rw [tdiv2_wrap (x := t_x) (by omega), tdiv2_wrap (x := t_y) (by omega), tdiv2_wrap (x := t_z) (by omega)]
        simp only [downS, if_pos hc]
        have hh := most_half h1
        have hn := ih p_x p_y p_z q_x q_y q_z (t_x.tdiv 2) (t_y.tdiv 2) (t_z.tdiv 2) (by
          rw [hh]
          have : (1048576 : Int) * 2 ^ (k + 1) = 2 * (1048576 * 2 ^ k) := by rw [Int.pow_succ]; grind
          omega)
        rw [hh] at hn
        exact hn
      · refine stop_vec_Unit_2_1 hr p_x p_y p_z q_x q_y q_z t_x t_y t_z (decide_eq_false hc) (by intros; rfl) (fun h => ?_)
        simp only [downS, if_neg hc]; rfl
  exact fun p_x p_y p_z q_x q_y q_z t_x t_y t_z hc => key 45 p_x p_y p_z q_x q_y q_z t_x t_y t_z ⟨hc, by omega⟩
theorem piece_vec_Unit_2 {P : Program} {T : Table} {O' : Known} {f : FuncId} (hb : blockOf P f 2 = .loop (loopOf P f 2)) (hid : O' 2 = none)
    (hr : HR_vec_Unit_2 (fun L => evCode P (evCall P T 16 6) L O' (loopOf P f 2))) :
    ∀ (s : St) (e : Ex) (outs : List (Nat × AV)) (hp : AH), s.tmps.length = 36 → (g_vec_Unit_2 (([4] : List Nat).map fun j => untag (s.tmps.getD j .undef)) (s.heap.map untagL)).run = some (e, outs, hp) → ∃ s', Good P T O' f 2 36 [24, 25, 26, 27, 28] s e outs hp s' := by
  intro s e outs hp hk hg
  obtain ⟨tm, h⟩ := s
  have htm : untagL tm = [untag (tm.getD 0 .undef), untag (tm.getD 1 .undef), untag (tm.getD 2 .undef), untag (tm.getD 3 .undef), untag (tm.getD 4 .undef), untag (tm.getD 5 .undef), untag (tm.getD 6 .undef), untag (tm.getD 7 .undef), untag (tm.getD 8 .undef), untag (tm.getD 9 .undef), untag (tm.getD 10 .undef), untag (tm.getD 11 .undef), untag (tm.getD 12 .undef), untag (tm.getD 13 .undef), untag (tm.getD 14 .undef), untag (tm.getD 15 .undef), untag (tm.getD 16 .undef), untag (tm.getD 17 .undef), untag (tm.getD 18 .undef), untag (tm.getD 19 .undef), untag (tm.getD 20 .undef), untag (tm.getD 21 .undef), untag (tm.getD 22 .undef), untag (tm.getD 23 .undef), untag (tm.getD 24 .undef), untag (tm.getD 25 .undef), untag (tm.getD 26 .undef), untag (tm.getD 27 .undef), untag (tm.getD 28 .undef), untag (tm.getD 29 .undef), untag (tm.getD 30 .undef), untag (tm.getD 31 .undef), untag (tm.getD 32 .undef), untag (tm.getD 33 .undef), untag (tm.getD 34 .undef), untag (tm.getD 35 .undef)] := tmps_eq hk
  unfold g_vec_Unit_2 at hg
  simp only [List.map_cons, List.map_nil] at hg
  split at hg
  · rename_i p_x p_y p_z q_x q_y q_z t_x t_y t_z heq hheap
    simp only [List.cons.injEq, and_true] at heq
    have e4 := heq
    simp only [Tr.run] at hg
    split at hg
    · rename_i hc
      simp only [Option.some.injEq, Prod.mk.injEq] at hg
      obtain ⟨rfl, rfl, rfl⟩ := hg
      rw [e4] at htm
      obtain ⟨N, s', h1, h2⟩ := core_vec_Unit_2 (fun L => evCode P (evCall P T 16 6) L O' (loopOf P f 2)) hr p_x p_y p_z q_x q_y q_z t_x t_y t_z (of_decide_eq_true hc) (untag (tm.getD 0 .undef)) (untag (tm.getD 1 .undef)) (untag (tm.getD 2 .undef)) (untag (tm.getD 3 .undef)) (untag (tm.getD 5 .undef)) (untag (tm.getD 6 .undef)) (untag (tm.getD 7 .undef)) (untag (tm.getD 8 .undef)) (untag (tm.getD 9 .undef)) (untag (tm.getD 10 .undef)) (untag (tm.getD 11 .undef)) (untag (tm.getD 12 .undef)) (untag (tm.getD 13 .undef)) (untag (tm.getD 14 .undef)) (untag (tm.getD 15 .undef)) (untag (tm.getD 16 .undef)) (untag (tm.getD 17 .undef)) (untag (tm.getD 18 .undef)) (untag (tm.getD 19 .undef)) (untag (tm.getD 20 .undef)) (untag (tm.getD 21 .undef)) (untag (tm.getD 22 .undef)) (untag (tm.getD 23 .undef)) (untag (tm.getD 24 .undef)) (untag (tm.getD 25 .undef)) (untag (tm.getD 26 .undef)) (untag (tm.getD 27 .undef)) (untag (tm.getD 28 .undef)) (untag (tm.getD 29 .undef)) (untag (tm.getD 30 .undef)) (untag (tm.getD 31 .undef)) (untag (tm.getD 32 .undef)) (untag (tm.getD 33 .undef)) (untag (tm.getD 34 .undef)) (untag (tm.getD 35 .undef)) 
      exact ⟨s', good_loop (g := none) (e1 := .exit 2) hb (fun k e => by cases e) 16 6 N (by rw [htm, hheap]; exact h1) (by rw [htm]; exact h2)⟩
    · cases hg
  · cases hg

/-! vec.Unit -/
def tr_vec_Unit (v_x : Int) (v_y : Int) (v_z : Int) : Tr AV := Tr.node (mostI v_x v_y v_z == 0) (Tr.leaf (AV.tuple [AV.agg [AV.int IntKind.i64 false 0, AV.int IntKind.i64 false 0, AV.int IntKind.i64 false 0], AV.bool false false])) (Tr.node (decide (mostI v_x v_y v_z > 4611686018427387904)) (Tr.leaf (AV.tuple [AV.agg [AV.int IntKind.i64 false 0, AV.int IntKind.i64 false 0, AV.int IntKind.i64 false 0], AV.bool false false])) (Tr.node (decide (1 ≤ mostI v_x v_y v_z ∧ mostI v_x v_y v_z ≤ 4611686018427387904 ∧ (-mostI v_x v_y v_z ≤ v_x ∧ v_x ≤ mostI v_x v_y v_z) ∧ (-mostI v_x v_y v_z ≤ v_y ∧ v_y ≤ mostI v_x v_y v_z) ∧ -mostI v_x v_y v_z ≤ v_z ∧ v_z ≤ mostI v_x v_y v_z)) (Tr.node (decide (mostI (upS 20 v_x (mostI v_x v_y v_z)) (upS 20 v_y (mostI v_x v_y v_z)) (upS 20 v_z (mostI v_x v_y v_z)) ≤ 4611686018427387904)) (Tr.node (decide (isq (dotN (downS 45 (upS 20 v_x (mostI v_x v_y v_z)) (mostI (upS 20 v_x (mostI v_x v_y v_z)) (upS 20 v_y (mostI v_x v_y v_z)) (upS 20 v_z (mostI v_x v_y v_z)))) (downS 45 (upS 20 v_y (mostI v_x v_y v_z)) (mostI (upS 20 v_x (mostI v_x v_y v_z)) (upS 20 v_y (mostI v_x v_y v_z)) (upS 20 v_z (mostI v_x v_y v_z)))) (downS 45 (upS 20 v_z (mostI v_x v_y v_z)) (mostI (upS 20 v_x (mostI v_x v_y v_z)) (upS 20 v_y (mostI v_x v_y v_z)) (upS 20 v_z (mostI v_x v_y v_z)))) (downS 45 (upS 20 v_x (mostI v_x v_y v_z)) (mostI (upS 20 v_x (mostI v_x v_y v_z)) (upS 20 v_y (mostI v_x v_y v_z)) (upS 20 v_z (mostI v_x v_y v_z)))) (downS 45 (upS 20 v_y (mostI v_x v_y v_z)) (mostI (upS 20 v_x (mostI v_x v_y v_z)) (upS 20 v_y (mostI v_x v_y v_z)) (upS 20 v_z (mostI v_x v_y v_z)))) (downS 45 (upS 20 v_z (mostI v_x v_y v_z)) (mostI (upS 20 v_x (mostI v_x v_y v_z)) (upS 20 v_y (mostI v_x v_y v_z)) (upS 20 v_z (mostI v_x v_y v_z))))) = 0)) Tr.bad (Tr.node (decide (isq (dotN (downS 45 (upS 20 v_x (mostI v_x v_y v_z)) (mostI (upS 20 v_x (mostI v_x v_y v_z)) (upS 20 v_y (mostI v_x v_y v_z)) (upS 20 v_z (mostI v_x v_y v_z)))) (downS 45 (upS 20 v_y (mostI v_x v_y v_z)) (mostI (upS 20 v_x (mostI v_x v_y v_z)) (upS 20 v_y (mostI v_x v_y v_z)) (upS 20 v_z (mostI v_x v_y v_z)))) (downS 45 (upS 20 v_z (mostI v_x v_y v_z)) (mostI (upS 20 v_x (mostI v_x v_y v_z)) (upS 20 v_y (mostI v_x v_y v_z)) (upS 20 v_z (mostI v_x v_y v_z)))) (downS 45 (upS 20 v_x (mostI v_x v_y v_z)) (mostI (upS 20 v_x (mostI v_x v_y v_z)) (upS 20 v_y (mostI v_x v_y v_z)) (upS 20 v_z (mostI v_x v_y v_z)))) (downS 45 (upS 20 v_y (mostI v_x v_y v_z)) (mostI (upS 20 v_x (mostI v_x v_y v_z)) (upS 20 v_y (mostI v_x v_y v_z)) (upS 20 v_z (mostI v_x v_y v_z)))) (downS 45 (upS 20 v_z (mostI v_x v_y v_z)) (mostI (upS 20 v_x (mostI v_x v_y v_z)) (upS 20 v_y (mostI v_x v_y v_z)) (upS 20 v_z (mostI v_x v_y v_z))))) = 0)) Tr.bad (Tr.node (decide (isq (dotN (downS 45 (upS 20 v_x (mostI v_x v_y v_z)) (mostI (upS 20 v_x (mostI v_x v_y v_z)) (upS 20 v_y (mostI v_x v_y v_z)) (upS 20 v_z (mostI v_x v_y v_z)))) (downS 45 (upS 20 v_y (mostI v_x v_y v_z)) (mostI (upS 20 v_x (mostI v_x v_y v_z)) (upS 20 v_y (mostI v_x v_y v_z)) (upS 20 v_z (mostI v_x v_y v_z)))) (downS 45 (upS 20 v_z (mostI v_x v_y v_z)) (mostI (upS 20 v_x (mostI v_x v_y v_z)) (upS 20 v_y (mostI v_x v_y v_z)) (upS 20 v_z (mostI v_x v_y v_z)))) (downS 45 (upS 20 v_x (mostI v_x v_y v_z)) (mostI (upS 20 v_x (mostI v_x v_y v_z)) (upS 20 v_y (mostI v_x v_y v_z)) (upS 20 v_z (mostI v_x v_y v_z)))) (downS 45 (upS 20 v_y (mostI v_x v_y v_z)) (mostI (upS 20 v_x (mostI v_x v_y v_z)) (upS 20 v_y (mostI v_x v_y v_z)) (upS 20 v_z (mostI v_x v_y v_z)))) (downS 45 (upS 20 v_z (mostI v_x v_y v_z)) (mostI (upS 20 v_x (mostI v_x v_y v_z)) (upS 20 v_y (mostI v_x v_y v_z)) (upS 20 v_z (mostI v_x v_y v_z))))) = 0)) Tr.bad (Tr.leaf (AV.tuple [AV.agg [AV.int IntKind.i64 false (IntKind.i64.wrap ((IntKind.i64.wrap (downS 45 (upS 20 v_x (mostI v_x v_y v_z)) (mostI (upS 20 v_x (mostI v_x v_y v_z)) (upS 20 v_y (mostI v_x v_y v_z)) (upS 20 v_z (mostI v_x v_y v_z))) * 16384)).tdiv (isq (dotN (downS 45 (upS 20 v_x (mostI v_x v_y v_z)) (mostI (upS 20 v_x (mostI v_x v_y v_z)) (upS 20 v_y (mostI v_x v_y v_z)) (upS 20 v_z (mostI v_x v_y v_z)))) (downS 45 (upS 20 v_y (mostI v_x v_y v_z)) (mostI (upS 20 v_x (mostI v_x v_y v_z)) (upS 20 v_y (mostI v_x v_y v_z)) (upS 20 v_z (mostI v_x v_y v_z)))) (downS 45 (upS 20 v_z (mostI v_x v_y v_z)) (mostI (upS 20 v_x (mostI v_x v_y v_z)) (upS 20 v_y (mostI v_x v_y v_z)) (upS 20 v_z (mostI v_x v_y v_z)))) (downS 45 (upS 20 v_x (mostI v_x v_y v_z)) (mostI (upS 20 v_x (mostI v_x v_y v_z)) (upS 20 v_y (mostI v_x v_y v_z)) (upS 20 v_z (mostI v_x v_y v_z)))) (downS 45 (upS 20 v_y (mostI v_x v_y v_z)) (mostI (upS 20 v_x (mostI v_x v_y v_z)) (upS 20 v_y (mostI v_x v_y v_z)) (upS 20 v_z (mostI v_x v_y v_z)))) (downS 45 (upS 20 v_z (mostI v_x v_y v_z)) (mostI (upS 20 v_x (mostI v_x v_y v_z)) (upS 20 v_y (mostI v_x v_y v_z)) (upS 20 v_z (mostI v_x v_y v_z)))))))), AV.int IntKind.i64 false (IntKind.i64.wrap ((IntKind.i64.wrap (downS 45 (upS 20 v_y (mostI v_x v_y v_z)) (mostI (upS 20 v_x (mostI v_x v_y v_z)) (upS 20 v_y (mostI v_x v_y v_z)) (upS 20 v_z (mostI v_x v_y v_z))) * 16384)).tdiv (isq (dotN (downS 45 (upS 20 v_x (mostI v_x v_y v_z)) (mostI (upS 20 v_x (mostI v_x v_y v_z)) (upS 20 v_y (mostI v_x v_y v_z)) (upS 20 v_z (mostI v_x v_y v_z)))) (downS 45 (upS 20 v_y (mostI v_x v_y v_z)) (mostI (upS 20 v_x (mostI v_x v_y v_z)) (upS 20 v_y (mostI v_x v_y v_z)) (upS 20 v_z (mostI v_x v_y v_z)))) (downS 45 (upS 20 v_z (mostI v_x v_y v_z)) (mostI (upS 20 v_x (mostI v_x v_y v_z)) (upS 20 v_y (mostI v_x v_y v_z)) (upS 20 v_z (mostI v_x v_y v_z)))) (downS 45 (upS 20 v_x (mostI v_x v_y v_z)) (mostI (upS 20 v_x (mostI v_x v_y v_z)) (upS 20 v_y (mostI v_x v_y v_z)) (upS 20 v_z (mostI v_x v_y v_z)))) (downS 45 (upS 20 v_y (mostI v_x v_y v_z)) (mostI (upS 20 v_x (mostI v_x v_y v_z)) (upS 20 v_y (mostI v_x v_y v_z)) (upS 20 v_z (mostI v_x v_y v_z)))) (downS 45 (upS 20 v_z (mostI v_x v_y v_z)) (mostI (upS 20 v_x (mostI v_x v_y v_z)) (upS 20 v_y (mostI v_x v_y v_z)) (upS 20 v_z (mostI v_x v_y v_z)))))))), AV.int IntKind.i64 false (IntKind.i64.wrap ((IntKind.i64.wrap (downS 45 (upS 20 v_z (mostI v_x v_y v_z)) (mostI (upS 20 v_x (mostI v_x v_y v_z)) (upS 20 v_y (mostI v_x v_y v_z)) (upS 20 v_z (mostI v_x v_y v_z))) * 16384)).tdiv (isq (dotN (downS 45 (upS 20 v_x (mostI v_x v_y v_z)) (mostI (upS 20 v_x (mostI v_x v_y v_z)) (upS 20 v_y (mostI v_x v_y v_z)) (upS 20 v_z (mostI v_x v_y v_z)))) (downS 45 (upS 20 v_y (mostI v_x v_y v_z)) (mostI (upS 20 v_x (mostI v_x v_y v_z)) (upS 20 v_y (mostI v_x v_y v_z)) (upS 20 v_z (mostI v_x v_y v_z)))) (downS 45 (upS 20 v_z (mostI v_x v_y v_z)) (mostI (upS 20 v_x (mostI v_x v_y v_z)) (upS 20 v_y (mostI v_x v_y v_z)) (upS 20 v_z (mostI v_x v_y v_z)))) (downS 45 (upS 20 v_x (mostI v_x v_y v_z)) (mostI (upS 20 v_x (mostI v_x v_y v_z)) (upS 20 v_y (mostI v_x v_y v_z)) (upS 20 v_z (mostI v_x v_y v_z)))) (downS 45 (upS 20 v_y (mostI v_x v_y v_z)) (mostI (upS 20 v_x (mostI v_x v_y v_z)) (upS 20 v_y (mostI v_x v_y v_z)) (upS 20 v_z (mostI v_x v_y v_z)))) (downS 45 (upS 20 v_z (mostI v_x v_y v_z)) (mostI (upS 20 v_x (mostI v_x v_y v_z)) (upS 20 v_y (mostI v_x v_y v_z)) (upS 20 v_z (mostI v_x v_y v_z))))))))], AV.bool false true]))))) Tr.bad) Tr.bad))
theorem run_vec_Unit (v_x : Int) (v_y : Int) (v_z : Int) (h_v_x : InR .i64 v_x) (h_v_y : InR .i64 v_y) (h_v_z : InR .i64 v_z) : (tr_vec_Unit v_x v_y v_z).run = some (.tuple [v3 (unitC v_x v_y v_z v_x) (unitC v_x v_y v_z v_y) (unitC v_x v_y v_z v_z), bb (okU v_x v_y v_z)]) := by
  unfold tr_vec_Unit
  have h0 := most_nonneg v_x v_y v_z
  by_cases c0 : mostI v_x v_y v_z = 0
  · have ok : okU v_x v_y v_z = false := by unfold okU; simp [c0]
    rw [ok, unitC_no ok, unitC_no ok, unitC_no ok]
    exact run_t (by simpa using c0)
  · by_cases c1 : mostI v_x v_y v_z > 4611686018427387904
    · have ok : okU v_x v_y v_z = false := by unfold okU; simp [c0, c1]
      rw [ok, unitC_no ok, unitC_no ok, unitC_no ok]
      exact (run_f (by simpa using c0)).trans (run_t (decide_eq_true c1))
    · have ok : okU v_x v_y v_z = true := by unfold okU; simp [c0]; omega
      obtain ⟨mx, my, mz, _⟩ := most_spec (x := v_x) (y := v_y) (z := v_z) (by omega)
      obtain ⟨n, _, _, _, he⟩ := even_spec ok
      obtain ⟨near, l1, l2, l3, l4⟩ := len_spec ok
      obtain ⟨u1, u2, ux, uy, uz⟩ := unitC_r ok
      refine (run_f (by simpa using c0)).trans ((run_f (decide_eq_false c1)).trans ((run_t (decide_eq_true ⟨by omega, by omega, mx, my, mz⟩)).trans ((run_t (decide_eq_true he)).trans ?_)))
      rw [ok]
      change Tr.run (α := AV) (.node (decide (isq (dotN (nrm v_x v_y v_z v_x) (nrm v_x v_y v_z v_y) (nrm v_x v_y v_z v_z) (nrm v_x v_y v_z v_x) (nrm v_x v_y v_z v_y) (nrm v_x v_y v_z v_z)) = 0)) .bad
        (.node (decide (isq (dotN (nrm v_x v_y v_z v_x) (nrm v_x v_y v_z v_y) (nrm v_x v_y v_z v_z) (nrm v_x v_y v_z v_x) (nrm v_x v_y v_z v_y) (nrm v_x v_y v_z v_z)) = 0)) .bad (.node (decide (isq (dotN (nrm v_x v_y v_z v_x) (nrm v_x v_y v_z v_y) (nrm v_x v_y v_z v_z) (nrm v_x v_y v_z v_x) (nrm v_x v_y v_z v_y) (nrm v_x v_y v_z v_z)) = 0)) .bad (.leaf (.tuple [.agg [i6 (IntKind.i64.wrap ((IntKind.i64.wrap (nrm v_x v_y v_z v_x * 16384)).tdiv (isq (dotN (nrm v_x v_y v_z v_x) (nrm v_x v_y v_z v_y) (nrm v_x v_y v_z v_z) (nrm v_x v_y v_z v_x) (nrm v_x v_y v_z v_y) (nrm v_x v_y v_z v_z))))),
          i6 (IntKind.i64.wrap ((IntKind.i64.wrap (nrm v_x v_y v_z v_y * 16384)).tdiv (isq (dotN (nrm v_x v_y v_z v_x) (nrm v_x v_y v_z v_y) (nrm v_x v_y v_z v_z) (nrm v_x v_y v_z v_x) (nrm v_x v_y v_z v_y) (nrm v_x v_y v_z v_z))))),
          i6 (IntKind.i64.wrap ((IntKind.i64.wrap (nrm v_x v_y v_z v_z * 16384)).tdiv (isq (dotN (nrm v_x v_y v_z v_x) (nrm v_x v_y v_z v_y) (nrm v_x v_y v_z v_z) (nrm v_x v_y v_z v_x) (nrm v_x v_y v_z v_y) (nrm v_x v_y v_z v_z)))))], bb true]))))) = _
      have el : isq (dotN (nrm v_x v_y v_z v_x) (nrm v_x v_y v_z v_y) (nrm v_x v_y v_z v_z) (nrm v_x v_y v_z v_x) (nrm v_x v_y v_z v_y) (nrm v_x v_y v_z v_z)) = lenU v_x v_y v_z := by
        unfold lenU dotN; rw [if_pos ⟨near, near⟩]
      have rn := near_r near
      rw [el, wrap_i64_id (n := nrm v_x v_y v_z v_x * 16384) (by omega), wrap_i64_id (n := nrm v_x v_y v_z v_y * 16384) (by omega), wrap_i64_id (n := nrm v_x v_y v_z v_z * 16384) (by omega)]
      have e : ∀ c, (nrm v_x v_y v_z c * 16384).tdiv (lenU v_x v_y v_z) = unitC v_x v_y v_z c := fun c => by unfold unitC; rw [if_pos ok]
      rw [e, e, e, wrap_i64_id (n := unitC v_x v_y v_z v_x) (by omega), wrap_i64_id (n := unitC v_x v_y v_z v_y) (by omega), wrap_i64_id (n := unitC v_x v_y v_z v_z) (by omega)]
      exact (run_f (decide_eq_false (by omega))).trans ((run_f (decide_eq_false (by omega))).trans (run_f (decide_eq_false (by omega))))

end Go.Sky

/- The document's answers: what is reckoned. -/
set_option linter.unusedSimpArgs false
set_option linter.unusedVariables false
namespace Go.Sky

theorem ediv_of {a b q r : Int} (e : a = b * q + r) (h0 : 0 ≤ r) (h1 : r < b) : a / b = q := by
  rw [e, Int.add_comm, Int.add_mul_ediv_left _ _ (by omega), Int.ediv_eq_zero_of_lt h0 h1]; omega

/-- Toward 0, as the document's answer reckons it. -/
def towS (a b : Int) : Int := if a < 0 then IntKind.i64.wrap (0 - if 1 ≤ b then IntKind.i64.wrap (0 - a) / b else 0) else if 1 ≤ b then a / b else 0

theorem wrap_add3b {p q r : Int} (hp : -1099511627776 ≤ p ∧ p ≤ 1099511627776) (hq : -1099511627776 ≤ q ∧ q ≤ 1099511627776) (hr : -1099511627776 ≤ r ∧ r ≤ 1099511627776) :
    IntKind.i64.wrap (IntKind.i64.wrap (IntKind.i64.wrap p + IntKind.i64.wrap q) + IntKind.i64.wrap r) = p + q + r := by
  simp only [wrap_i64]; omega

theorem wrap_add3b' {p q r : Int} (hp : -2305843009213693952 ≤ p ∧ p ≤ 2305843009213693952) (hq : -2305843009213693952 ≤ q ∧ q ≤ 2305843009213693952) (hr : -2305843009213693952 ≤ r ∧ r ≤ 2305843009213693952) :
    IntKind.i64.wrap (IntKind.i64.wrap (IntKind.i64.wrap p + IntKind.i64.wrap q) + IntKind.i64.wrap r) = p + q + r := by
  simp only [wrap_i64]; omega

theorem mul_32 {x y : Int} (hx : 0 ≤ x ∧ x ≤ 4294967295) (hy : 0 ≤ y ∧ y ≤ 4294967295) : 0 ≤ x * y ∧ x * y ≤ 18446744065119617025 :=
  ⟨Int.mul_nonneg hx.1 hy.1, Int.le_trans (Int.mul_le_mul hx.2 hy.2 hy.1 (by omega)) (by decide)⟩

end Go.Sky

/- Trees of functions, and what they come to. -/
set_option linter.unusedSimpArgs false
set_option linter.unusedVariables false
namespace Go.Sky
set_option maxRecDepth 100000

/-! skylightref01.Plus -/
def tr_skylightref01_Plus (a : Int) (b : Int) : Tr AV := Tr.node (decide (a ≥ 0)) (Tr.node (decide (b > IntKind.i64.wrap (9223372036854775807 - a))) (Tr.leaf (AV.int IntKind.i64 false 9223372036854775807)) (Tr.node (decide (a < 0)) (Tr.node (decide (b < IntKind.i64.wrap (-9223372036854775808 - a))) (Tr.leaf (AV.int IntKind.i64 false (-9223372036854775808))) (Tr.leaf (AV.int IntKind.i64 false (IntKind.i64.wrap (a + b))))) (Tr.leaf (AV.int IntKind.i64 false (IntKind.i64.wrap (a + b)))))) (Tr.node (decide (a < 0)) (Tr.node (decide (b < IntKind.i64.wrap (-9223372036854775808 - a))) (Tr.leaf (AV.int IntKind.i64 false (-9223372036854775808))) (Tr.leaf (AV.int IntKind.i64 false (IntKind.i64.wrap (a + b))))) (Tr.leaf (AV.int IntKind.i64 false (IntKind.i64.wrap (a + b)))))
theorem run_skylightref01_Plus (a : Int) (b : Int) (h_a : InR .i64 a) (h_b : InR .i64 b) : (tr_skylightref01_Plus a b).run = some (i6 (sat (a + b))) := by
  unfold tr_skylightref01_Plus
  have ha := inR_i64.1 h_a
  have hb := inR_i64.1 h_b
  simp only [Tr.run, i6, decide_eq_true_eq, wrap_i64, sat]
  (repeat' split) <;> first | rfl | (congr 2; omega)

/-! skylightref01.Size -/
def tr_skylightref01_Size (n : Int) : Tr AV := Tr.node (decide (n < 0)) (Tr.leaf (AV.int IntKind.u64 false (IntKind.u64.wrap (IntKind.u64.wrap (IntKind.i64.wrap (0 - IntKind.i64.wrap (n + 1))) + 1)))) (Tr.leaf (AV.int IntKind.u64 false (IntKind.u64.wrap n)))
theorem run_skylightref01_Size (n : Int) (h_n : InR .i64 n) : (tr_skylightref01_Size n).run = some (u6 (sz n)) := by
  unfold tr_skylightref01_Size
  have h := inR_i64.1 h_n
  simp only [Tr.run, u6, decide_eq_true_eq, wrap_i64, wrap_u64, sz]
  (repeat' split) <;> first | rfl | (congr 2; omega)

/-! skylightref01.Mul -/
def tr_skylightref01_Mul (a : Int) (b : Int) : Tr AV := Tr.leaf (AV.tuple [AV.int IntKind.u64 false (IntKind.u64.wrap (IntKind.u64.wrap (IntKind.u64.wrap (IntKind.u64.wrap (a.fdiv 4294967296 * b.fdiv 4294967296) + (IntKind.u64.wrap (a.fdiv 4294967296 * bits BinOp.and IntKind.u64 b 4294967295)).fdiv 4294967296) + (IntKind.u64.wrap (bits BinOp.and IntKind.u64 a 4294967295 * b.fdiv 4294967296)).fdiv 4294967296) + (IntKind.u64.wrap (IntKind.u64.wrap ((IntKind.u64.wrap (bits BinOp.and IntKind.u64 a 4294967295 * bits BinOp.and IntKind.u64 b 4294967295)).fdiv 4294967296 + bits BinOp.and IntKind.u64 (IntKind.u64.wrap (a.fdiv 4294967296 * bits BinOp.and IntKind.u64 b 4294967295)) 4294967295) + bits BinOp.and IntKind.u64 (IntKind.u64.wrap (bits BinOp.and IntKind.u64 a 4294967295 * b.fdiv 4294967296)) 4294967295)).fdiv 4294967296)), AV.int IntKind.u64 false (bits BinOp.or IntKind.u64 (IntKind.u64.wrap (IntKind.u64.wrap (IntKind.u64.wrap ((IntKind.u64.wrap (bits BinOp.and IntKind.u64 a 4294967295 * bits BinOp.and IntKind.u64 b 4294967295)).fdiv 4294967296 + bits BinOp.and IntKind.u64 (IntKind.u64.wrap (a.fdiv 4294967296 * bits BinOp.and IntKind.u64 b 4294967295)) 4294967295) + bits BinOp.and IntKind.u64 (IntKind.u64.wrap (bits BinOp.and IntKind.u64 a 4294967295 * b.fdiv 4294967296)) 4294967295) * 4294967296)) (bits BinOp.and IntKind.u64 (IntKind.u64.wrap (bits BinOp.and IntKind.u64 a 4294967295 * bits BinOp.and IntKind.u64 b 4294967295)) 4294967295))])
theorem run_skylightref01_Mul (a : Int) (b : Int) (h_a : InR .u64 a) (h_b : InR .u64 b) : (tr_skylightref01_Mul a b).run = some (.tuple [u6 (a*b/18446744073709551616), u6 (a*b%18446744073709551616)]) := by
  unfold tr_skylightref01_Mul
  have ha := inR_u64.1 h_a
  have hb := inR_u64.1 h_b
  have fd : ∀ x : Int, x.fdiv 4294967296 = x / 4294967296 := fun x => Int.fdiv_eq_ediv_of_nonneg _ (by decide)
  simp only [fd, bits_mask ha, bits_mask hb, u6]
  have e : a * b = a / 4294967296 * (b / 4294967296) * 18446744073709551616 + (a / 4294967296 * (b % 4294967296) + a % 4294967296 * (b / 4294967296)) * 4294967296 + a % 4294967296 * (b % 4294967296) := by
    have ea : a = a / 4294967296 * 4294967296 + a % 4294967296 := by omega
    have eb : b = b / 4294967296 * 4294967296 + b % 4294967296 := by omega
    generalize a / 4294967296 = a1 at *
    generalize a % 4294967296 = a0 at *
    generalize b / 4294967296 = b1 at *
    generalize b % 4294967296 = b0 at *
    rw [ea, eb]; clear ea eb ha hb h_a h_b; grind
  rw [e]
  obtain ⟨s0, s1⟩ := mul_32 (x := a / 4294967296) (y := b / 4294967296) (by omega) (by omega)
  obtain ⟨q0, q1⟩ := mul_32 (x := a / 4294967296) (y := b % 4294967296) (by omega) (by omega)
  obtain ⟨r0, r1⟩ := mul_32 (x := a % 4294967296) (y := b / 4294967296) (by omega) (by omega)
  obtain ⟨p0, p1⟩ := mul_32 (x := a % 4294967296) (y := b % 4294967296) (by omega) (by omega)
  generalize a / 4294967296 * (b / 4294967296) = s at *
  generalize a / 4294967296 * (b % 4294967296) = q at *
  generalize a % 4294967296 * (b / 4294967296) = r at *
  generalize a % 4294967296 * (b % 4294967296) = p at *
  rw [wrap_u64_id (n := p) (by omega), wrap_u64_id (n := q) (by omega), wrap_u64_id (n := r) (by omega), wrap_u64_id (n := s) (by omega)]
  rw [bits_mask (x := p) (by omega), bits_mask (x := q) (by omega), bits_mask (x := r) (by omega)]
  rw [wrap_u64_id (n := p / 4294967296 + q % 4294967296) (by omega), wrap_u64_id (n := p / 4294967296 + q % 4294967296 + r % 4294967296) (by omega)]
  rw [wrap_u64_id (n := s + q / 4294967296) (by omega), wrap_u64_id (n := s + q / 4294967296 + r / 4294967296) (by omega)]
  rw [show IntKind.u64.wrap ((p / 4294967296 + q % 4294967296 + r % 4294967296) * 4294967296) = (p / 4294967296 + q % 4294967296 + r % 4294967296) % 4294967296 * 2 ^ 32 by rw [wrap_u64]; omega]
  rw [bits_or (s := 32) (by omega) (by omega) (by omega), wrap_u64_id (by omega)]
  simp only [Tr.run]
  congr 3
  · congr 1; omega
  · congr 2; omega

/-! skylightref01.Times -/
def tr_skylightref01_Times (a : Int) (b : Int) : Tr AV := Tr.node (!decide (a < 0) == decide (b < 0)) (Tr.node (decide (sz a * sz b / (18446744073709551616 : Int) > 0)) (Tr.leaf (AV.int IntKind.i64 false (-9223372036854775808))) (Tr.node (decide (sz a * sz b % (18446744073709551616 : Int) > 9223372036854775807)) (Tr.leaf (AV.int IntKind.i64 false (-9223372036854775808))) (Tr.leaf (AV.int IntKind.i64 false (IntKind.i64.wrap (0 - IntKind.i64.wrap (sz a * sz b % 18446744073709551616))))))) (Tr.node (decide (sz a * sz b / (18446744073709551616 : Int) > 0)) (Tr.leaf (AV.int IntKind.i64 false 9223372036854775807)) (Tr.node (decide (sz a * sz b % (18446744073709551616 : Int) > 9223372036854775807)) (Tr.leaf (AV.int IntKind.i64 false 9223372036854775807)) (Tr.leaf (AV.int IntKind.i64 false (IntKind.i64.wrap (sz a * sz b % 18446744073709551616))))))
theorem run_skylightref01_Times (a : Int) (b : Int) (h_a : InR .i64 a) (h_b : InR .i64 b) : (tr_skylightref01_Times a b).run = some (i6 (sat (a * b))) := by
  unfold tr_skylightref01_Times
  obtain ⟨h1, h2⟩ := times_law (sz a * sz b) rfl (!(decide (a < 0) == decide (b < 0)) = true) (by by_cases c1 : a < 0 <;> by_cases c2 : b < 0 <;> simp [c1, c2])
  generalize sz a * sz b = P at h1 h2 ⊢
  generalize a * b = p at h1 h2 ⊢
  cases hs : (!(decide (a < 0) == decide (b < 0)))
  · obtain ⟨h3, h4⟩ := h2 (by simp [hs])
    refine (run_f rfl).trans ?_
    simp only [Tr.run, i6, decide_eq_true_eq, wrap_i64, sat]
    (repeat' split) <;> first | rfl | (congr 2; omega)
  · obtain ⟨h3, h4⟩ := h1 (by simp [hs])
    refine (run_t rfl).trans ?_
    simp only [Tr.run, i6, decide_eq_true_eq, wrap_i64, sat]
    (repeat' split) <;> first | rfl | (congr 2; omega)

/-! skylightref01.Div -/
def tr_skylightref01_Div (a : Int) (b : Int) : Tr AV := Tr.node (decide (b < 1)) (Tr.leaf (AV.int IntKind.i64 false 0)) (Tr.node (decide (b = 0)) Tr.bad (Tr.node (decide (a < 0)) (Tr.node (decide (b = 0)) Tr.bad (Tr.node (a.tmod b != 0) (Tr.leaf (AV.int IntKind.i64 false (IntKind.i64.wrap (IntKind.i64.wrap (a.tdiv b) - 1)))) (Tr.leaf (AV.int IntKind.i64 false (IntKind.i64.wrap (a.tdiv b)))))) (Tr.leaf (AV.int IntKind.i64 false (IntKind.i64.wrap (a.tdiv b))))))
theorem run_skylightref01_Div (a : Int) (b : Int) (h_a : InR .i64 a) (h_b : InR .i64 b) : (tr_skylightref01_Div a b).run = some (i6 (if 1 ≤ b then a / b else 0)) := by
  unfold tr_skylightref01_Div
  have ha := inR_i64.1 h_a
  have hb := inR_i64.1 h_b
  by_cases c0 : b < 1
  · rw [if_neg (by omega)]; exact run_t (decide_eq_true c0)
  · rw [if_pos (by omega)]
    have f := tdiv_facts (A := a) (l := b) (by omega)
    have e := Int.mul_tdiv_add_tmod a b
    refine (run_f (decide_eq_false c0)).trans ((run_f (decide_eq_false (by omega))).trans ?_)
    by_cases c1 : a < 0
    · have f2 := f.2 c1
      have q0 : a.tdiv b ≤ 0 := by
        rcases (show a.tdiv b ≤ 0 ∨ 0 < a.tdiv b by omega) with h | h
        · exact h
        · have := Int.mul_pos (show 0 < b by omega) h; omega
      have q1 : a ≤ a.tdiv b := by
        have : b * a.tdiv b ≤ 1 * a.tdiv b := Int.mul_le_mul_of_nonpos_right (by omega) q0
        omega
      refine (run_t (decide_eq_true c1)).trans ((run_f (decide_eq_false (by omega))).trans ?_)
      by_cases c2 : a.tmod b = 0
      · refine (run_f (by simp [c2])).trans ?_
        rw [wrap_i64_id (by omega), show a / b = a.tdiv b from ediv_of (r := 0) (by omega) (by omega) (by omega)]; rfl
      · refine (run_t (by simpa using c2)).trans ?_
        rw [wrap_i64_id (n := a.tdiv b) (by omega), show a / b = a.tdiv b - 1 from ediv_of (r := b + a.tmod b) (by rw [Int.mul_sub, Int.mul_one]; omega) (by omega) (by omega)]
        have q2 : -9223372036854775808 < a.tdiv b := by
          rcases (show b = 1 ∨ 2 ≤ b by omega) with h | h
          · subst h; simp at c2
          · have : b * a.tdiv b ≤ 2 * a.tdiv b := Int.mul_le_mul_of_nonpos_right h q0
            omega
        rw [wrap_i64_id (by omega)]; rfl
    · refine (run_f (decide_eq_false c1)).trans ?_
      have d0 : 0 ≤ a / b := Int.ediv_nonneg (by omega) (by omega)
      have d1 : a / b ≤ a := Int.ediv_le_self _ (by omega)
      rw [Int.tdiv_eq_ediv_of_nonneg (by omega), wrap_i64_id (by omega)]; rfl

/-! skylightref03.Right -/
def tr_skylightref03_Right (f_n : Int) (f_d : Int) : Tr AV := Tr.leaf (AV.bool false (decide (f_d ≥ 1)))
theorem run_skylightref03_Right (f_n : Int) (f_d : Int) (h_f_n : InR .i64 f_n) (h_f_d : InR .i64 f_d) : (tr_skylightref03_Right f_n f_d).run = some (bb (decide (f_d ≥ 1))) := by
  unfold tr_skylightref03_Right
  rfl

/-! skylightref06.Add -/
def tr_skylightref06_Add (a_x : Int) (a_y : Int) (a_z : Int) (b_x : Int) (b_y : Int) (b_z : Int) : Tr AV := Tr.leaf (AV.agg [AV.int IntKind.i64 false (sat (a_x + b_x)), AV.int IntKind.i64 false (sat (a_y + b_y)), AV.int IntKind.i64 false (sat (a_z + b_z))])
theorem run_skylightref06_Add (a_x : Int) (a_y : Int) (a_z : Int) (b_x : Int) (b_y : Int) (b_z : Int) (h_a_x : InR .i64 a_x) (h_a_y : InR .i64 a_y) (h_a_z : InR .i64 a_z) (h_b_x : InR .i64 b_x) (h_b_y : InR .i64 b_y) (h_b_z : InR .i64 b_z) : (tr_skylightref06_Add a_x a_y a_z b_x b_y b_z).run = some (v3 (sat (a_x + b_x)) (sat (a_y + b_y)) (sat (a_z + b_z))) := by
  unfold tr_skylightref06_Add
  rfl

/-! skylightref06.Sub -/
def tr_skylightref06_Sub (a_x : Int) (a_y : Int) (a_z : Int) (b_x : Int) (b_y : Int) (b_z : Int) : Tr AV := Tr.leaf (AV.agg [AV.int IntKind.i64 false (sat (a_x + sat (b_x * -1))), AV.int IntKind.i64 false (sat (a_y + sat (b_y * -1))), AV.int IntKind.i64 false (sat (a_z + sat (b_z * -1)))])
theorem run_skylightref06_Sub (a_x : Int) (a_y : Int) (a_z : Int) (b_x : Int) (b_y : Int) (b_z : Int) (h_a_x : InR .i64 a_x) (h_a_y : InR .i64 a_y) (h_a_z : InR .i64 a_z) (h_b_x : InR .i64 b_x) (h_b_y : InR .i64 b_y) (h_b_z : InR .i64 b_z) : (tr_skylightref06_Sub a_x a_y a_z b_x b_y b_z).run = some (v3 (sat (a_x + sat (b_x * -1))) (sat (a_y + sat (b_y * -1))) (sat (a_z + sat (b_z * -1)))) := by
  unfold tr_skylightref06_Sub
  rfl

/-! skylightref06.Dot -/
def tr_skylightref06_Dot (a_x : Int) (a_y : Int) (a_z : Int) (b_x : Int) (b_y : Int) (b_z : Int) : Tr AV := Tr.node (!nearB a_x a_y a_z) (Tr.leaf (AV.int IntKind.i64 false 0)) (Tr.node (!nearB b_x b_y b_z) (Tr.leaf (AV.int IntKind.i64 false 0)) (Tr.leaf (AV.int IntKind.i64 false (IntKind.i64.wrap (IntKind.i64.wrap (IntKind.i64.wrap (a_x * b_x) + IntKind.i64.wrap (a_y * b_y)) + IntKind.i64.wrap (a_z * b_z))))))
theorem run_skylightref06_Dot (a_x : Int) (a_y : Int) (a_z : Int) (b_x : Int) (b_y : Int) (b_z : Int) (h_a_x : InR .i64 a_x) (h_a_y : InR .i64 a_y) (h_a_z : InR .i64 a_z) (h_b_x : InR .i64 b_x) (h_b_y : InR .i64 b_y) (h_b_z : InR .i64 b_z) : (tr_skylightref06_Dot a_x a_y a_z b_x b_y b_z).run = some (i6 (dotN a_x a_y a_z b_x b_y b_z)) := by
  unfold tr_skylightref06_Dot
  simp only [Tr.run, i6, dotN, Bool.not_eq_true']
  cases ha : nearB a_x a_y a_z <;> cases hb : nearB b_x b_y b_z <;> simp
  have h1 := near_r ha; have h2 := near_r hb
  rw [wrap_add3b (mul_near (by omega) (by omega)) (mul_near (by omega) (by omega)) (mul_near (by omega) (by omega))]
  rfl

/-! skylightref06.Cross -/
def tr_skylightref06_Cross (a_x : Int) (a_y : Int) (a_z : Int) (b_x : Int) (b_y : Int) (b_z : Int) : Tr AV := Tr.node (!nearB a_x a_y a_z) (Tr.leaf (AV.agg [AV.int IntKind.i64 false 0, AV.int IntKind.i64 false 0, AV.int IntKind.i64 false 0])) (Tr.node (!nearB b_x b_y b_z) (Tr.leaf (AV.agg [AV.int IntKind.i64 false 0, AV.int IntKind.i64 false 0, AV.int IntKind.i64 false 0])) (Tr.leaf (AV.agg [AV.int IntKind.i64 false (IntKind.i64.wrap (IntKind.i64.wrap (a_y * b_z) - IntKind.i64.wrap (a_z * b_y))), AV.int IntKind.i64 false (IntKind.i64.wrap (IntKind.i64.wrap (a_z * b_x) - IntKind.i64.wrap (a_x * b_z))), AV.int IntKind.i64 false (IntKind.i64.wrap (IntKind.i64.wrap (a_x * b_y) - IntKind.i64.wrap (a_y * b_x)))])))
theorem run_skylightref06_Cross (a_x : Int) (a_y : Int) (a_z : Int) (b_x : Int) (b_y : Int) (b_z : Int) (h_a_x : InR .i64 a_x) (h_a_y : InR .i64 a_y) (h_a_z : InR .i64 a_z) (h_b_x : InR .i64 b_x) (h_b_y : InR .i64 b_y) (h_b_z : InR .i64 b_z) : (tr_skylightref06_Cross a_x a_y a_z b_x b_y b_z).run = some (v3 (crN a_y a_z b_y b_z a_x b_x) (crN a_z a_x b_z b_x a_y b_y) (crN a_x a_y b_x b_y a_z b_z)) := by
  unfold tr_skylightref06_Cross
  simp only [Tr.run, v3, crN, near_rot a_y, near_rot2 a_z a_x, near_rot2 b_z b_x, near_rot b_y, i6, Bool.not_eq_true']
  cases ha : nearB a_x a_y a_z <;> cases hb : nearB b_x b_y b_z <;> simp
  have h1 := near_r ha; have h2 := near_r hb
  refine ⟨?_, ?_, ?_⟩ <;> exact wrap_sub2 (mul_near (by omega) (by omega)) (mul_near (by omega) (by omega))

/-! skylightref06.Len -/
def tr_skylightref06_Len (v_x : Int) (v_y : Int) (v_z : Int) : Tr AV := Tr.leaf (AV.int IntKind.i64 false (isq (IntKind.u64.wrap (dotN v_x v_y v_z v_x v_y v_z))))
theorem run_skylightref06_Len (v_x : Int) (v_y : Int) (v_z : Int) (h_v_x : InR .i64 v_x) (h_v_y : InR .i64 v_y) (h_v_z : InR .i64 v_z) : (tr_skylightref06_Len v_x v_y v_z).run = some (i6 (isq (dotN v_x v_y v_z v_x v_y v_z))) := by
  unfold tr_skylightref06_Len
  simp only [Tr.run, i6]
  have h := dotN_self v_x v_y v_z
  rw [wrap_u64_id (by omega)]

/-! skylightref06.toward -/
def tr_skylightref06_toward (a : Int) (b : Int) : Tr AV := Tr.node (decide (a < 0)) (Tr.leaf (AV.int IntKind.i64 false (IntKind.i64.wrap (0 - if 1 ≤ b then IntKind.i64.wrap (0 - a) / b else 0)))) (Tr.leaf (AV.int IntKind.i64 false (if 1 ≤ b then a / b else 0)))
theorem run_skylightref06_toward (a : Int) (b : Int) (h_a : InR .i64 a) (h_b : InR .i64 b) : (tr_skylightref06_toward a b).run = some (i6 (towS a b)) := by
  unfold tr_skylightref06_toward
  have ha := inR_i64.1 h_a
  simp only [Tr.run, i6, decide_eq_true_eq, towS]
  (repeat' split) <;> first | rfl | (exfalso; omega)

/-! vec.Scale -/
def tr_vec_Scale (v_x : Int) (v_y : Int) (v_z : Int) (f_n : Int) (f_d : Int) : Tr AV := Tr.leaf (AV.agg [AV.int IntKind.i64 false (atF v_x f_n f_d), AV.int IntKind.i64 false (atF v_y f_n f_d), AV.int IntKind.i64 false (atF v_z f_n f_d)])
theorem run_vec_Scale (v_x : Int) (v_y : Int) (v_z : Int) (f_n : Int) (f_d : Int) (h_v_x : InR .i64 v_x) (h_v_y : InR .i64 v_y) (h_v_z : InR .i64 v_z) (h_f_n : InR .i64 f_n) (h_f_d : InR .i64 f_d) : (tr_vec_Scale v_x v_y v_z f_n f_d).run = some (v3 (atF v_x f_n f_d) (atF v_y f_n f_d) (atF v_z f_n f_d)) := by
  unfold tr_vec_Scale
  rfl

end Go.Sky

/- Parts of products, bit by bit. -/
set_option linter.unusedSimpArgs false
set_option linter.unusedVariables false
namespace Go.Sky

def partGo : Nat → Int → Int → Int → Int
  | 0, _, _, q => q
  | i + 1, V, c, q => if (q + 2 ^ i) * c ≤ V then partGo i V c (q + 2 ^ i) else partGo i V c q

theorem partGo_spec : ∀ (i : Nat) (V c q : Int), 0 < c → q * c ≤ V → V < (q + 2 ^ i) * c → partGo i V c q = V / c
  | 0, V, c, q, h0, h1, h2 => by
    simp only [partGo]
    simp only [Int.pow_zero] at h2
    have a := Int.le_ediv_of_mul_le h0 h1
    have b := Int.ediv_lt_of_lt_mul h0 h2
    omega
  | i + 1, V, c, q, h0, h1, h2 => by
    have e : (2 : Int) ^ (i + 1) = 2 ^ i + 2 ^ i := by rw [Int.pow_succ]; omega
    rw [e] at h2
    simp only [partGo]
    split
    · rename_i h
      exact partGo_spec i V c (q + 2 ^ i) h0 h (by rw [show q + 2 ^ i + 2 ^ i = q + (2 ^ i + 2 ^ i) by omega]; exact h2)
    · rename_i h
      exact partGo_spec i V c q h0 h1 (by omega)

def partQ (V c : Int) : Int := if V / 18446744073709551616 < c then V / c else 0

theorem towS_2 {x : Int} (h : -4611686018427387904 ≤ x ∧ x ≤ 4611686018427387904) : towS x 2 = x.tdiv 2 := by
  have a := tdiv2 x
  unfold towS
  split
  · rw [wrap_i64_id (n := 0 - x) (by omega), if_pos (by omega), wrap_i64_id (by omega)]; omega
  · rw [if_pos (by omega)]; omega

theorem towS_tdiv {x l : Int} (h : -4611686018427387904 ≤ x ∧ x ≤ 4611686018427387904) (hl : 1 ≤ l) : towS x l = x.tdiv l := by
  unfold towS
  by_cases hx : x < 0
  · have e : x.tdiv l = -((-x) / l) := by
      have e1 : (-(-x)).tdiv l = - ((-x).tdiv l) := Int.neg_tdiv _ _
      rw [Int.neg_neg] at e1
      rw [e1, Int.tdiv_eq_ediv_of_nonneg (show 0 ≤ -x by omega)]
    have d0 : 0 ≤ (-x) / l := Int.ediv_nonneg (by omega) (by omega)
    have d1 : (-x) / l ≤ -x := Int.ediv_le_self _ (by omega)
    rw [if_pos hx, if_pos hl, Int.zero_sub, Int.zero_sub, wrap_i64_id (n := -x) (by omega), wrap_i64_id (by omega), e]
  · rw [if_neg hx, if_pos hl, Int.tdiv_eq_ediv_of_nonneg (by omega)]

end Go.Sky

/- Trees of functions, and what they come to. -/
set_option linter.unusedSimpArgs false
set_option linter.unusedVariables false
namespace Go.Sky
set_option maxRecDepth 100000

end Go.Sky

/- Trees of functions, and what they come to. -/
set_option linter.unusedSimpArgs false
set_option linter.unusedVariables false
namespace Go.Sky
set_option maxRecDepth 100000

/-! skylightref06.within -/
def tr_skylightref06_within (v_x : Int) (v_y : Int) (v_z : Int) (n : Int) : Tr AV := Tr.node (decide (v_x ≥ IntKind.i64.wrap (0 - n))) (Tr.node (decide (v_x ≤ n)) (Tr.node (decide (v_y ≥ IntKind.i64.wrap (0 - n))) (Tr.node (decide (v_y ≤ n)) (Tr.node (decide (v_z ≥ IntKind.i64.wrap (0 - n))) (Tr.leaf (AV.bool false (decide (v_z ≤ n)))) (Tr.leaf (AV.bool false false))) (Tr.leaf (AV.bool false false))) (Tr.leaf (AV.bool false false))) (Tr.leaf (AV.bool false false))) (Tr.leaf (AV.bool false false))
theorem run_skylightref06_within (v_x : Int) (v_y : Int) (v_z : Int) (n : Int) (h_v_x : InR .i64 v_x) (h_v_y : InR .i64 v_y) (h_v_z : InR .i64 v_z) (h_n : InR .i64 n) (hpre : -9223372036854775808 < n) : (tr_skylightref06_within v_x v_y v_z n).run = some (bb (decide ((-n ≤ v_x ∧ v_x ≤ n) ∧ (-n ≤ v_y ∧ v_y ≤ n) ∧ (-n ≤ v_z ∧ v_z ≤ n)))) := by
  unfold tr_skylightref06_within
  have hn := inR_i64.1 h_n
  simp only [Tr.run, bb, decide_eq_true_eq, wrap_i64]
  (repeat' split) <;> congr 2 <;> first | (symm; rw [decide_eq_false_iff_not]; omega) | (rw [decide_eq_decide]; omega)

end Go.Sky

/- Trees of functions, and what they come to. -/
set_option linter.unusedSimpArgs false
set_option linter.unusedVariables false
namespace Go.Sky
set_option maxRecDepth 100000

/-! skylightref06.Even, block 0 -/
def st_skylightref06_Even_0 (t_x : Int) (t_y : Int) (t_z : Int) (q_x : Int) (q_y : Int) (q_z : Int) (x0 x2 x3 x4 x5 x6 x7 x8 x9 x10 x11 x12 x13 x14 x15 x16 x17 x18 x19 x20 x21 x22 x23 x24 x25 x26 x27 x28 : AV) : St := ⟨[x0, .ptr (some (0, 0)), x2, x3, x4, x5, x6, x7, x8, x9, x10, x11, x12, x13, x14, x15, x16, x17, x18, x19, x20, x21, x22, x23, x24, x25, x26, x27, x28], [[.int .i64 false t_x, .int .i64 false t_y, .int .i64 false t_z], [.int .i64 false q_x, .int .i64 false q_y, .int .i64 false q_z]]⟩
def kl_skylightref06_Even_0 (t_x : Int) (t_y : Int) (t_z : Int) (q_x : Int) (q_y : Int) (q_z : Int) (x0 x2 x3 x4 x5 x6 x7 x8 x9 x10 x11 x12 x13 x14 x15 x16 x17 x18 x19 x20 x21 x22 x23 x24 x25 x26 x27 x28 : AV) : List AV := [untag x0, untag (.ptr (some (0, 0))), untag x2, .undef, .undef, .undef, .undef, .undef, .undef, .undef, .undef, .undef, .undef, .undef, .undef, untag x15, untag x16, untag x17, untag x18, untag x19, untag x20, untag x21, untag x22, untag x23, untag x24, untag x25, untag x26, untag x27, untag x28]
def sl_skylightref06_Even_0_0 (t_x : Int) (t_y : Int) (t_z : Int) (q_x : Int) (q_y : Int) (q_z : Int) (x0 x2 x3 x4 x5 x6 x7 x8 x9 x10 x11 x12 x13 x14 x15 x16 x17 x18 x19 x20 x21 x22 x23 x24 x25 x26 x27 x28 : AV) : St := ⟨[x0, AV.ptr (some (0, 0)), x2, AV.agg [AV.int IntKind.i64 false t_x, AV.int IntKind.i64 false t_y, AV.int IntKind.i64 false t_z], AV.bool false (decide ((-524287 ≤ t_x ∧ t_x ≤ 524287) ∧ (-524287 ≤ t_y ∧ t_y ≤ 524287) ∧ -524287 ≤ t_z ∧ t_z ≤ 524287)), AV.ptr (some (0, 0)), AV.int IntKind.i64 false t_x, AV.int IntKind.i64 false (IntKind.i64.wrap (2 * t_x)), AV.ptr (some (0, 1)), AV.int IntKind.i64 false t_y, AV.int IntKind.i64 false (IntKind.i64.wrap (2 * t_y)), AV.ptr (some (0, 2)), AV.int IntKind.i64 false t_z, AV.int IntKind.i64 false (IntKind.i64.wrap (2 * t_z)), AV.agg [AV.int IntKind.i64 false (IntKind.i64.wrap (2 * t_x)), AV.int IntKind.i64 false (IntKind.i64.wrap (2 * t_y)), AV.int IntKind.i64 false (IntKind.i64.wrap (2 * t_z))], x15, x16, x17, x18, x19, x20, x21, x22, x23, x24, x25, x26, x27, x28], [[AV.int IntKind.i64 false (IntKind.i64.wrap (2 * t_x)), AV.int IntKind.i64 false (IntKind.i64.wrap (2 * t_y)), AV.int IntKind.i64 false (IntKind.i64.wrap (2 * t_z))], [AV.int IntKind.i64 false q_x, AV.int IntKind.i64 false q_y, AV.int IntKind.i64 false q_z]]⟩
def sl_skylightref06_Even_0_1 (t_x : Int) (t_y : Int) (t_z : Int) (q_x : Int) (q_y : Int) (q_z : Int) (x0 x2 x3 x4 x5 x6 x7 x8 x9 x10 x11 x12 x13 x14 x15 x16 x17 x18 x19 x20 x21 x22 x23 x24 x25 x26 x27 x28 : AV) : St := ⟨[x0, AV.ptr (some (0, 0)), x2, AV.agg [AV.int IntKind.i64 false t_x, AV.int IntKind.i64 false t_y, AV.int IntKind.i64 false t_z], AV.bool false (decide ((-524287 ≤ t_x ∧ t_x ≤ 524287) ∧ (-524287 ≤ t_y ∧ t_y ≤ 524287) ∧ -524287 ≤ t_z ∧ t_z ≤ 524287)), x5, x6, x7, x8, x9, x10, x11, x12, x13, x14, x15, x16, x17, x18, x19, x20, x21, x22, x23, x24, x25, x26, x27, x28], [[AV.int IntKind.i64 false t_x, AV.int IntKind.i64 false t_y, AV.int IntKind.i64 false t_z], [AV.int IntKind.i64 false q_x, AV.int IntKind.i64 false q_y, AV.int IntKind.i64 false q_z]]⟩
def rd_skylightref06_Even_0 (t_x : Int) (t_y : Int) (t_z : Int) (q_x : Int) (q_y : Int) (q_z : Int) (x0 x2 x3 x4 x5 x6 x7 x8 x9 x10 x11 x12 x13 x14 x15 x16 x17 x18 x19 x20 x21 x22 x23 x24 x25 x26 x27 x28 : AV) : Tr (Ex × St) := Tr.node true (Tr.node (decide ((-524287 ≤ t_x ∧ t_x ≤ 524287) ∧ (-524287 ≤ t_y ∧ t_y ≤ 524287) ∧ -524287 ≤ t_z ∧ t_z ≤ 524287)) (Tr.leaf (Ex.normal, sl_skylightref06_Even_0_0 t_x t_y t_z q_x q_y q_z x0 x2 x3 x4 x5 x6 x7 x8 x9 x10 x11 x12 x13 x14 x15 x16 x17 x18 x19 x20 x21 x22 x23 x24 x25 x26 x27 x28)) (Tr.leaf (Ex.exit 0, sl_skylightref06_Even_0_1 t_x t_y t_z q_x q_y q_z x0 x2 x3 x4 x5 x6 x7 x8 x9 x10 x11 x12 x13 x14 x15 x16 x17 x18 x19 x20 x21 x22 x23 x24 x25 x26 x27 x28))) (Tr.bad)
def g_skylightref06_Even_0 : PieceTold := fun l h => match l, h with | [.ptr (some (0, 0))], [[.int .i64 false t_x, .int .i64 false t_y, .int .i64 false t_z], [.int .i64 false q_x, .int .i64 false q_y, .int .i64 false q_z]] => .node (decide (1 ≤ mostI t_x t_y t_z ∧ mostI t_x t_y t_z ≤ 4611686018427387904)) (.leaf (.normal, [], [[i6 (upS 20 t_x (mostI t_x t_y t_z)), i6 (upS 20 t_y (mostI t_x t_y t_z)), i6 (upS 20 t_z (mostI t_x t_y t_z))], [.int .i64 false q_x, .int .i64 false q_y, .int .i64 false q_z]])) .bad | _, _ => .bad
def HR_skylightref06_Even_0 (rnd : Nat → St → Tr (Ex × St)) : Prop := ∀ L (t_x : Int) (t_y : Int) (t_z : Int) (q_x : Int) (q_y : Int) (q_z : Int) (x0 x2 x3 x4 x5 x6 x7 x8 x9 x10 x11 x12 x13 x14 x15 x16 x17 x18 x19 x20 x21 x22 x23 x24 x25 x26 x27 x28 : AV), rnd L (st_skylightref06_Even_0 t_x t_y t_z q_x q_y q_z x0 x2 x3 x4 x5 x6 x7 x8 x9 x10 x11 x12 x13 x14 x15 x16 x17 x18 x19 x20 x21 x22 x23 x24 x25 x26 x27 x28) = rd_skylightref06_Even_0 t_x t_y t_z q_x q_y q_z x0 x2 x3 x4 x5 x6 x7 x8 x9 x10 x11 x12 x13 x14 x15 x16 x17 x18 x19 x20 x21 x22 x23 x24 x25 x26 x27 x28
/-- From here the loop ends so. -/
def Fin_skylightref06_Even_0 (rnd : Nat → St → Tr (Ex × St)) (t_x : Int) (t_y : Int) (t_z : Int) (q_x : Int) (q_y : Int) (q_z : Int) (e : Ex) (outs : List (Nat × AV)) (hp : AH → AH) : Prop := ∀ (x0 x2 x3 x4 x5 x6 x7 x8 x9 x10 x11 x12 x13 x14 x15 x16 x17 x18 x19 x20 x21 x22 x23 x24 x25 x26 x27 x28 : AV),
    ∃ N s', (∀ L, (loopIterG none (rnd L) (N + 1) (st_skylightref06_Even_0 t_x t_y t_z q_x q_y q_z x0 x2 x3 x4 x5 x6 x7 x8 x9 x10 x11 x12 x13 x14 x15 x16 x17 x18 x19 x20 x21 x22 x23 x24 x25 x26 x27 x28)).run = some (e, s')) ∧ Leaves none 29 [3, 4, 5, 6, 7, 8, 9, 10, 11, 12, 13, 14] (st_skylightref06_Even_0 t_x t_y t_z q_x q_y q_z x0 x2 x3 x4 x5 x6 x7 x8 x9 x10 x11 x12 x13 x14 x15 x16 x17 x18 x19 x20 x21 x22 x23 x24 x25 x26 x27 x28).tmps outs (hp ([[.int .i64 false t_x, .int .i64 false t_y, .int .i64 false t_z], [.int .i64 false q_x, .int .i64 false q_y, .int .i64 false q_z]])) s'
theorem step_skylightref06_Even_0_0 {rnd : Nat → St → Tr (Ex × St)} (hr : HR_skylightref06_Even_0 rnd) (t_x : Int) (t_y : Int) (t_z : Int) (q_x : Int) (q_y : Int) (q_z : Int) (c0 : true = true) (c1 : (decide ((-524287 ≤ t_x ∧ t_x ≤ 524287) ∧ (-524287 ≤ t_y ∧ t_y ≤ 524287) ∧ -524287 ≤ t_z ∧ t_z ≤ 524287)) = true) {e : Ex} {outs : List (Nat × AV)} {hp : AH → AH} (hh : hp ([[AV.int IntKind.i64 false (IntKind.i64.wrap (2 * t_x)), AV.int IntKind.i64 false (IntKind.i64.wrap (2 * t_y)), AV.int IntKind.i64 false (IntKind.i64.wrap (2 * t_z))], [AV.int IntKind.i64 false q_x, AV.int IntKind.i64 false q_y, AV.int IntKind.i64 false q_z]]) = hp ([[.int .i64 false t_x, .int .i64 false t_y, .int .i64 false t_z], [.int .i64 false q_x, .int .i64 false q_y, .int .i64 false q_z]])) (hn : Fin_skylightref06_Even_0 rnd ((IntKind.i64.wrap (2 * t_x))) ((IntKind.i64.wrap (2 * t_y))) ((IntKind.i64.wrap (2 * t_z))) (q_x) (q_y) (q_z) e outs hp) : Fin_skylightref06_Even_0 rnd t_x t_y t_z q_x q_y q_z e outs hp := by
  intro x0 x2 x3 x4 x5 x6 x7 x8 x9 x10 x11 x12 x13 x14 x15 x16 x17 x18 x19 x20 x21 x22 x23 x24 x25 x26 x27 x28
  obtain ⟨N, s', h1, h2⟩ := hn (x0) (x2) (AV.agg [AV.int IntKind.i64 false t_x, AV.int IntKind.i64 false t_y, AV.int IntKind.i64 false t_z]) (AV.bool false (decide ((-524287 ≤ t_x ∧ t_x ≤ 524287) ∧ (-524287 ≤ t_y ∧ t_y ≤ 524287) ∧ -524287 ≤ t_z ∧ t_z ≤ 524287))) (AV.ptr (some (0, 0))) (AV.int IntKind.i64 false t_x) (AV.int IntKind.i64 false (IntKind.i64.wrap (2 * t_x))) (AV.ptr (some (0, 1))) (AV.int IntKind.i64 false t_y) (AV.int IntKind.i64 false (IntKind.i64.wrap (2 * t_y))) (AV.ptr (some (0, 2))) (AV.int IntKind.i64 false t_z) (AV.int IntKind.i64 false (IntKind.i64.wrap (2 * t_z))) (AV.agg [AV.int IntKind.i64 false (IntKind.i64.wrap (2 * t_x)), AV.int IntKind.i64 false (IntKind.i64.wrap (2 * t_y)), AV.int IntKind.i64 false (IntKind.i64.wrap (2 * t_z))]) (x15) (x16) (x17) (x18) (x19) (x20) (x21) (x22) (x23) (x24) (x25) (x26) (x27) (x28)
  refine ⟨N + 1, s', fun L => ?_, hh ▸ h2.of (s1 := sl_skylightref06_Even_0_0 t_x t_y t_z q_x q_y q_z x0 x2 x3 x4 x5 x6 x7 x8 x9 x10 x11 x12 x13 x14 x15 x16 x17 x18 x19 x20 x21 x22 x23 x24 x25 x26 x27 x28) rfl ((show _ = kl_skylightref06_Even_0 t_x t_y t_z q_x q_y q_z x0 x2 x3 x4 x5 x6 x7 x8 x9 x10 x11 x12 x13 x14 x15 x16 x17 x18 x19 x20 x21 x22 x23 x24 x25 x26 x27 x28 from rfl).trans (show kl_skylightref06_Even_0 t_x t_y t_z q_x q_y q_z x0 x2 x3 x4 x5 x6 x7 x8 x9 x10 x11 x12 x13 x14 x15 x16 x17 x18 x19 x20 x21 x22 x23 x24 x25 x26 x27 x28 = _ from rfl))⟩
  rw [loopIterG, hr L t_x t_y t_z q_x q_y q_z x0 x2 x3 x4 x5 x6 x7 x8 x9 x10 x11 x12 x13 x14 x15 x16 x17 x18 x19 x20 x21 x22 x23 x24 x25 x26 x27 x28, Tr.run_bind, show (rd_skylightref06_Even_0 t_x t_y t_z q_x q_y q_z x0 x2 x3 x4 x5 x6 x7 x8 x9 x10 x11 x12 x13 x14 x15 x16 x17 x18 x19 x20 x21 x22 x23 x24 x25 x26 x27 x28).run = some (.normal, sl_skylightref06_Even_0_0 t_x t_y t_z q_x q_y q_z x0 x2 x3 x4 x5 x6 x7 x8 x9 x10 x11 x12 x13 x14 x15 x16 x17 x18 x19 x20 x21 x22 x23 x24 x25 x26 x27 x28) from (run_t c0).trans ((run_t c1).trans (rfl))]
  exact h1 L
theorem stop_skylightref06_Even_0_1 {rnd : Nat → St → Tr (Ex × St)} (hr : HR_skylightref06_Even_0 rnd) (t_x : Int) (t_y : Int) (t_z : Int) (q_x : Int) (q_y : Int) (q_z : Int) (c0 : true = true) (c1 : (decide ((-524287 ≤ t_x ∧ t_x ≤ 524287) ∧ (-524287 ≤ t_y ∧ t_y ≤ 524287) ∧ -524287 ≤ t_z ∧ t_z ≤ 524287)) = false) {outs : List (Nat × AV)} {hp : AH → AH} (ho : ∀ (x0 x2 x3 x4 x5 x6 x7 x8 x9 x10 x11 x12 x13 x14 x15 x16 x17 x18 x19 x20 x21 x22 x23 x24 x25 x26 x27 x28 : AV), outs.map (fun p => untag ((sl_skylightref06_Even_0_1 t_x t_y t_z q_x q_y q_z x0 x2 x3 x4 x5 x6 x7 x8 x9 x10 x11 x12 x13 x14 x15 x16 x17 x18 x19 x20 x21 x22 x23 x24 x25 x26 x27 x28).tmps.getD p.1 .undef)) = outs.map (fun p => untag p.2)) (hh : ∀ h : AH, ([[AV.int IntKind.i64 false t_x, AV.int IntKind.i64 false t_y, AV.int IntKind.i64 false t_z], [AV.int IntKind.i64 false q_x, AV.int IntKind.i64 false q_y, AV.int IntKind.i64 false q_z]]).map untagL = (hp ([[.int .i64 false t_x, .int .i64 false t_y, .int .i64 false t_z], [.int .i64 false q_x, .int .i64 false q_y, .int .i64 false q_z]])).map untagL) : Fin_skylightref06_Even_0 rnd t_x t_y t_z q_x q_y q_z (.exit 0) outs hp := by
  intro x0 x2 x3 x4 x5 x6 x7 x8 x9 x10 x11 x12 x13 x14 x15 x16 x17 x18 x19 x20 x21 x22 x23 x24 x25 x26 x27 x28
  refine ⟨0, gcSt none (sl_skylightref06_Even_0_1 t_x t_y t_z q_x q_y q_z x0 x2 x3 x4 x5 x6 x7 x8 x9 x10 x11 x12 x13 x14 x15 x16 x17 x18 x19 x20 x21 x22 x23 x24 x25 x26 x27 x28), fun L => ?_, Leaves.stop (s1 := sl_skylightref06_Even_0_1 t_x t_y t_z q_x q_y q_z x0 x2 x3 x4 x5 x6 x7 x8 x9 x10 x11 x12 x13 x14 x15 x16 x17 x18 x19 x20 x21 x22 x23 x24 x25 x26 x27 x28) (hh []) rfl (ho x0 x2 x3 x4 x5 x6 x7 x8 x9 x10 x11 x12 x13 x14 x15 x16 x17 x18 x19 x20 x21 x22 x23 x24 x25 x26 x27 x28) ((show _ = kl_skylightref06_Even_0 t_x t_y t_z q_x q_y q_z x0 x2 x3 x4 x5 x6 x7 x8 x9 x10 x11 x12 x13 x14 x15 x16 x17 x18 x19 x20 x21 x22 x23 x24 x25 x26 x27 x28 from rfl).trans (show kl_skylightref06_Even_0 t_x t_y t_z q_x q_y q_z x0 x2 x3 x4 x5 x6 x7 x8 x9 x10 x11 x12 x13 x14 x15 x16 x17 x18 x19 x20 x21 x22 x23 x24 x25 x26 x27 x28 = _ from rfl))⟩
  rw [loopIterG, hr L t_x t_y t_z q_x q_y q_z x0 x2 x3 x4 x5 x6 x7 x8 x9 x10 x11 x12 x13 x14 x15 x16 x17 x18 x19 x20 x21 x22 x23 x24 x25 x26 x27 x28, Tr.run_bind, show (rd_skylightref06_Even_0 t_x t_y t_z q_x q_y q_z x0 x2 x3 x4 x5 x6 x7 x8 x9 x10 x11 x12 x13 x14 x15 x16 x17 x18 x19 x20 x21 x22 x23 x24 x25 x26 x27 x28).run = some (.exit 0, sl_skylightref06_Even_0_1 t_x t_y t_z q_x q_y q_z x0 x2 x3 x4 x5 x6 x7 x8 x9 x10 x11 x12 x13 x14 x15 x16 x17 x18 x19 x20 x21 x22 x23 x24 x25 x26 x27 x28) from (run_t c0).trans ((run_f c1).trans (rfl))]
  rfl
theorem core_skylightref06_Even_0 (rnd : Nat → St → Tr (Ex × St)) (hr : HR_skylightref06_Even_0 rnd) : ∀ (t_x : Int) (t_y : Int) (t_z : Int) (q_x : Int) (q_y : Int) (q_z : Int), 1 ≤ mostI t_x t_y t_z ∧ mostI t_x t_y t_z ≤ 4611686018427387904 → Fin_skylightref06_Even_0 rnd t_x t_y t_z q_x q_y q_z (.exit 0) [] (fun _ => [[i6 (upS 20 t_x (mostI t_x t_y t_z)), i6 (upS 20 t_y (mostI t_x t_y t_z)), i6 (upS 20 t_z (mostI t_x t_y t_z))], [.int .i64 false q_x, .int .i64 false q_y, .int .i64 false q_z]]) := by
  have key : ∀ (k : Nat) (t_x t_y t_z q_x q_y q_z : Int), (1 ≤ mostI t_x t_y t_z ∧ mostI t_x t_y t_z ≤ 4611686018427387904) ∧ 524288 ≤ mostI t_x t_y t_z * 2 ^ k →
      Fin_skylightref06_Even_0 rnd t_x t_y t_z q_x q_y q_z (.exit 0) [] (fun _ => [[i6 (upS k t_x (mostI t_x t_y t_z)), i6 (upS k t_y (mostI t_x t_y t_z)), i6 (upS k t_z (mostI t_x t_y t_z))], [.int .i64 false q_x, .int .i64 false q_y, .int .i64 false q_z]]) := by
    intro k
    induction k with
    | zero =>
      intro t_x t_y t_z q_x q_y q_z ⟨⟨h1, h2⟩, hk⟩
      obtain ⟨hx, hy, hz, hm⟩ := most_spec h2
      exact stop_skylightref06_Even_0_1 hr t_x t_y t_z q_x q_y q_z rfl (decide_eq_false (by omega)) (by intros; rfl) (fun h => rfl)
    | succ k ih =>
      intro t_x t_y t_z q_x q_y q_z ⟨⟨h1, h2⟩, hk⟩
      obtain ⟨hx, hy, hz, hm⟩ := most_spec h2
      by_cases hc : mostI t_x t_y t_z < 524288
      · refine step_skylightref06_Even_0_0 hr t_x t_y t_z q_x q_y q_z rfl (decide_eq_true (by omega)) rfl ?_
        rw [wrap_i64_id (n := 2 * t_x) (by omega), wrap_i64_id (n := 2 * t_y) (by omega), wrap_i64_id (n := 2 * t_z) (by omega)]
        simp only [upS, if_pos hc]
        have hd := most_double (x := t_x) (y := t_y) (z := t_z) (by omega)
        have := ih (2 * t_x) (2 * t_y) (2 * t_z) q_x q_y q_z (by
          rw [hd]
          have : mostI t_x t_y t_z * 2 ^ (k + 1) = 2 * mostI t_x t_y t_z * 2 ^ k := by rw [Int.pow_succ]; grind
          omega)
        rw [hd] at this
        exact this
      · refine stop_skylightref06_Even_0_1 hr t_x t_y t_z q_x q_y q_z rfl (decide_eq_false (by omega)) (by intros; rfl) (fun h => ?_)
        simp only [upS, if_neg hc]; rfl
  exact fun t_x t_y t_z q_x q_y q_z hc => key 20 t_x t_y t_z q_x q_y q_z ⟨hc, by omega⟩
theorem piece_skylightref06_Even_0 {P : Program} {T : Table} {O' : Known} {f : FuncId} (hb : blockOf P f 0 = .loop (loopOf P f 0)) (hid : O' 0 = none)
    (hr : HR_skylightref06_Even_0 (fun L => evCode P (evCall P T 16 6) L O' (loopOf P f 0))) :
    ∀ (s : St) (e : Ex) (outs : List (Nat × AV)) (hp : AH), s.tmps.length = 29 → (g_skylightref06_Even_0 (([1] : List Nat).map fun j => untag (s.tmps.getD j .undef)) (s.heap.map untagL)).run = some (e, outs, hp) → ∃ s', Good P T O' f 0 29 [3, 4, 5, 6, 7, 8, 9, 10, 11, 12, 13, 14] s e outs hp s' := by
  intro s e outs hp hk hg
  obtain ⟨tm, h⟩ := s
  have htm : untagL tm = [untag (tm.getD 0 .undef), untag (tm.getD 1 .undef), untag (tm.getD 2 .undef), untag (tm.getD 3 .undef), untag (tm.getD 4 .undef), untag (tm.getD 5 .undef), untag (tm.getD 6 .undef), untag (tm.getD 7 .undef), untag (tm.getD 8 .undef), untag (tm.getD 9 .undef), untag (tm.getD 10 .undef), untag (tm.getD 11 .undef), untag (tm.getD 12 .undef), untag (tm.getD 13 .undef), untag (tm.getD 14 .undef), untag (tm.getD 15 .undef), untag (tm.getD 16 .undef), untag (tm.getD 17 .undef), untag (tm.getD 18 .undef), untag (tm.getD 19 .undef), untag (tm.getD 20 .undef), untag (tm.getD 21 .undef), untag (tm.getD 22 .undef), untag (tm.getD 23 .undef), untag (tm.getD 24 .undef), untag (tm.getD 25 .undef), untag (tm.getD 26 .undef), untag (tm.getD 27 .undef), untag (tm.getD 28 .undef)] := tmps_eq hk
  unfold g_skylightref06_Even_0 at hg
  simp only [List.map_cons, List.map_nil] at hg
  split at hg
  · rename_i t_x t_y t_z q_x q_y q_z heq hheap
    simp only [List.cons.injEq, and_true] at heq
    have e1 := heq
    simp only [Tr.run] at hg
    split at hg
    · rename_i hc
      simp only [Option.some.injEq, Prod.mk.injEq] at hg
      obtain ⟨rfl, rfl, rfl⟩ := hg
      rw [e1] at htm
      obtain ⟨N, s', h1, h2⟩ := core_skylightref06_Even_0 (fun L => evCode P (evCall P T 16 6) L O' (loopOf P f 0)) hr t_x t_y t_z q_x q_y q_z (of_decide_eq_true hc) (untag (tm.getD 0 .undef)) (untag (tm.getD 2 .undef)) (untag (tm.getD 3 .undef)) (untag (tm.getD 4 .undef)) (untag (tm.getD 5 .undef)) (untag (tm.getD 6 .undef)) (untag (tm.getD 7 .undef)) (untag (tm.getD 8 .undef)) (untag (tm.getD 9 .undef)) (untag (tm.getD 10 .undef)) (untag (tm.getD 11 .undef)) (untag (tm.getD 12 .undef)) (untag (tm.getD 13 .undef)) (untag (tm.getD 14 .undef)) (untag (tm.getD 15 .undef)) (untag (tm.getD 16 .undef)) (untag (tm.getD 17 .undef)) (untag (tm.getD 18 .undef)) (untag (tm.getD 19 .undef)) (untag (tm.getD 20 .undef)) (untag (tm.getD 21 .undef)) (untag (tm.getD 22 .undef)) (untag (tm.getD 23 .undef)) (untag (tm.getD 24 .undef)) (untag (tm.getD 25 .undef)) (untag (tm.getD 26 .undef)) (untag (tm.getD 27 .undef)) (untag (tm.getD 28 .undef)) 
      exact ⟨s', good_loop (g := none) (e1 := .exit 0) hb (fun k e => by cases e) 16 6 N (by rw [htm, hheap]; exact h1) (by rw [htm]; exact h2)⟩
    · cases hg
  · cases hg

/-! skylightref06.Even, block 2 -/
def st_skylightref06_Even_2 (t_x : Int) (t_y : Int) (t_z : Int) (q_x : Int) (q_y : Int) (q_z : Int) (x0 x2 x3 x4 x5 x6 x7 x8 x9 x10 x11 x12 x13 x14 x15 x16 x17 x18 x19 x20 x21 x22 x23 x24 x25 x26 x27 x28 : AV) : St := ⟨[x0, .ptr (some (0, 0)), x2, x3, x4, x5, x6, x7, x8, x9, x10, x11, x12, x13, x14, x15, x16, x17, x18, x19, x20, x21, x22, x23, x24, x25, x26, x27, x28], [[.int .i64 false t_x, .int .i64 false t_y, .int .i64 false t_z], [.int .i64 false q_x, .int .i64 false q_y, .int .i64 false q_z]]⟩
def kl_skylightref06_Even_2 (t_x : Int) (t_y : Int) (t_z : Int) (q_x : Int) (q_y : Int) (q_z : Int) (x0 x2 x3 x4 x5 x6 x7 x8 x9 x10 x11 x12 x13 x14 x15 x16 x17 x18 x19 x20 x21 x22 x23 x24 x25 x26 x27 x28 : AV) : List AV := [untag x0, untag (.ptr (some (0, 0))), untag x2, untag x3, untag x4, untag x5, untag x6, untag x7, untag x8, untag x9, untag x10, untag x11, untag x12, untag x13, untag x14, .undef, .undef, .undef, .undef, .undef, .undef, .undef, .undef, .undef, .undef, .undef, .undef, .undef, untag x28]
def sl_skylightref06_Even_2_0 (t_x : Int) (t_y : Int) (t_z : Int) (q_x : Int) (q_y : Int) (q_z : Int) (x0 x2 x3 x4 x5 x6 x7 x8 x9 x10 x11 x12 x13 x14 x15 x16 x17 x18 x19 x20 x21 x22 x23 x24 x25 x26 x27 x28 : AV) : St := ⟨[x0, AV.ptr (some (0, 0)), x2, x3, x4, x5, x6, x7, x8, x9, x10, x11, x12, x13, x14, AV.agg [AV.int IntKind.i64 false t_x, AV.int IntKind.i64 false t_y, AV.int IntKind.i64 false t_z], AV.bool false (decide ((-1048575 ≤ t_x ∧ t_x ≤ 1048575) ∧ (-1048575 ≤ t_y ∧ t_y ≤ 1048575) ∧ -1048575 ≤ t_z ∧ t_z ≤ 1048575)), AV.bool false !decide ((-1048575 ≤ t_x ∧ t_x ≤ 1048575) ∧ (-1048575 ≤ t_y ∧ t_y ≤ 1048575) ∧ -1048575 ≤ t_z ∧ t_z ≤ 1048575), AV.ptr (some (0, 0)), AV.int IntKind.i64 false t_x, AV.int IntKind.i64 false (towS t_x 2), AV.ptr (some (0, 1)), AV.int IntKind.i64 false t_y, AV.int IntKind.i64 false (towS t_y 2), AV.ptr (some (0, 2)), AV.int IntKind.i64 false t_z, AV.int IntKind.i64 false (towS t_z 2), AV.agg [AV.int IntKind.i64 false (towS t_x 2), AV.int IntKind.i64 false (towS t_y 2), AV.int IntKind.i64 false (towS t_z 2)], x28], [[AV.int IntKind.i64 false (towS t_x 2), AV.int IntKind.i64 false (towS t_y 2), AV.int IntKind.i64 false (towS t_z 2)], [AV.int IntKind.i64 false q_x, AV.int IntKind.i64 false q_y, AV.int IntKind.i64 false q_z]]⟩
def sl_skylightref06_Even_2_1 (t_x : Int) (t_y : Int) (t_z : Int) (q_x : Int) (q_y : Int) (q_z : Int) (x0 x2 x3 x4 x5 x6 x7 x8 x9 x10 x11 x12 x13 x14 x15 x16 x17 x18 x19 x20 x21 x22 x23 x24 x25 x26 x27 x28 : AV) : St := ⟨[x0, AV.ptr (some (0, 0)), x2, x3, x4, x5, x6, x7, x8, x9, x10, x11, x12, x13, x14, AV.agg [AV.int IntKind.i64 false t_x, AV.int IntKind.i64 false t_y, AV.int IntKind.i64 false t_z], AV.bool false (decide ((-1048575 ≤ t_x ∧ t_x ≤ 1048575) ∧ (-1048575 ≤ t_y ∧ t_y ≤ 1048575) ∧ -1048575 ≤ t_z ∧ t_z ≤ 1048575)), AV.bool false !decide ((-1048575 ≤ t_x ∧ t_x ≤ 1048575) ∧ (-1048575 ≤ t_y ∧ t_y ≤ 1048575) ∧ -1048575 ≤ t_z ∧ t_z ≤ 1048575), x18, x19, x20, x21, x22, x23, x24, x25, x26, x27, x28], [[AV.int IntKind.i64 false t_x, AV.int IntKind.i64 false t_y, AV.int IntKind.i64 false t_z], [AV.int IntKind.i64 false q_x, AV.int IntKind.i64 false q_y, AV.int IntKind.i64 false q_z]]⟩
def rd_skylightref06_Even_2 (t_x : Int) (t_y : Int) (t_z : Int) (q_x : Int) (q_y : Int) (q_z : Int) (x0 x2 x3 x4 x5 x6 x7 x8 x9 x10 x11 x12 x13 x14 x15 x16 x17 x18 x19 x20 x21 x22 x23 x24 x25 x26 x27 x28 : AV) : Tr (Ex × St) := Tr.node true (Tr.node (!decide ((-1048575 ≤ t_x ∧ t_x ≤ 1048575) ∧ (-1048575 ≤ t_y ∧ t_y ≤ 1048575) ∧ -1048575 ≤ t_z ∧ t_z ≤ 1048575)) (Tr.leaf (Ex.normal, sl_skylightref06_Even_2_0 t_x t_y t_z q_x q_y q_z x0 x2 x3 x4 x5 x6 x7 x8 x9 x10 x11 x12 x13 x14 x15 x16 x17 x18 x19 x20 x21 x22 x23 x24 x25 x26 x27 x28)) (Tr.leaf (Ex.exit 2, sl_skylightref06_Even_2_1 t_x t_y t_z q_x q_y q_z x0 x2 x3 x4 x5 x6 x7 x8 x9 x10 x11 x12 x13 x14 x15 x16 x17 x18 x19 x20 x21 x22 x23 x24 x25 x26 x27 x28))) (Tr.bad)
def g_skylightref06_Even_2 : PieceTold := fun l h => match l, h with | [.ptr (some (0, 0))], [[.int .i64 false t_x, .int .i64 false t_y, .int .i64 false t_z], [.int .i64 false q_x, .int .i64 false q_y, .int .i64 false q_z]] => .node (decide (mostI t_x t_y t_z ≤ 4611686018427387904)) (.leaf (.normal, [], [[i6 (downS 45 t_x (mostI t_x t_y t_z)), i6 (downS 45 t_y (mostI t_x t_y t_z)), i6 (downS 45 t_z (mostI t_x t_y t_z))], [.int .i64 false q_x, .int .i64 false q_y, .int .i64 false q_z]])) .bad | _, _ => .bad
def HR_skylightref06_Even_2 (rnd : Nat → St → Tr (Ex × St)) : Prop := ∀ L (t_x : Int) (t_y : Int) (t_z : Int) (q_x : Int) (q_y : Int) (q_z : Int) (x0 x2 x3 x4 x5 x6 x7 x8 x9 x10 x11 x12 x13 x14 x15 x16 x17 x18 x19 x20 x21 x22 x23 x24 x25 x26 x27 x28 : AV), rnd L (st_skylightref06_Even_2 t_x t_y t_z q_x q_y q_z x0 x2 x3 x4 x5 x6 x7 x8 x9 x10 x11 x12 x13 x14 x15 x16 x17 x18 x19 x20 x21 x22 x23 x24 x25 x26 x27 x28) = rd_skylightref06_Even_2 t_x t_y t_z q_x q_y q_z x0 x2 x3 x4 x5 x6 x7 x8 x9 x10 x11 x12 x13 x14 x15 x16 x17 x18 x19 x20 x21 x22 x23 x24 x25 x26 x27 x28
/-- From here the loop ends so. -/
def Fin_skylightref06_Even_2 (rnd : Nat → St → Tr (Ex × St)) (t_x : Int) (t_y : Int) (t_z : Int) (q_x : Int) (q_y : Int) (q_z : Int) (e : Ex) (outs : List (Nat × AV)) (hp : AH → AH) : Prop := ∀ (x0 x2 x3 x4 x5 x6 x7 x8 x9 x10 x11 x12 x13 x14 x15 x16 x17 x18 x19 x20 x21 x22 x23 x24 x25 x26 x27 x28 : AV),
    ∃ N s', (∀ L, (loopIterG none (rnd L) (N + 1) (st_skylightref06_Even_2 t_x t_y t_z q_x q_y q_z x0 x2 x3 x4 x5 x6 x7 x8 x9 x10 x11 x12 x13 x14 x15 x16 x17 x18 x19 x20 x21 x22 x23 x24 x25 x26 x27 x28)).run = some (e, s')) ∧ Leaves none 29 [15, 16, 17, 18, 19, 20, 21, 22, 23, 24, 25, 26, 27] (st_skylightref06_Even_2 t_x t_y t_z q_x q_y q_z x0 x2 x3 x4 x5 x6 x7 x8 x9 x10 x11 x12 x13 x14 x15 x16 x17 x18 x19 x20 x21 x22 x23 x24 x25 x26 x27 x28).tmps outs (hp ([[.int .i64 false t_x, .int .i64 false t_y, .int .i64 false t_z], [.int .i64 false q_x, .int .i64 false q_y, .int .i64 false q_z]])) s'
theorem step_skylightref06_Even_2_0 {rnd : Nat → St → Tr (Ex × St)} (hr : HR_skylightref06_Even_2 rnd) (t_x : Int) (t_y : Int) (t_z : Int) (q_x : Int) (q_y : Int) (q_z : Int) (c0 : true = true) (c1 : (!decide ((-1048575 ≤ t_x ∧ t_x ≤ 1048575) ∧ (-1048575 ≤ t_y ∧ t_y ≤ 1048575) ∧ -1048575 ≤ t_z ∧ t_z ≤ 1048575)) = true) {e : Ex} {outs : List (Nat × AV)} {hp : AH → AH} (hh : hp ([[AV.int IntKind.i64 false (towS t_x 2), AV.int IntKind.i64 false (towS t_y 2), AV.int IntKind.i64 false (towS t_z 2)], [AV.int IntKind.i64 false q_x, AV.int IntKind.i64 false q_y, AV.int IntKind.i64 false q_z]]) = hp ([[.int .i64 false t_x, .int .i64 false t_y, .int .i64 false t_z], [.int .i64 false q_x, .int .i64 false q_y, .int .i64 false q_z]])) (hn : Fin_skylightref06_Even_2 rnd ((towS t_x 2)) ((towS t_y 2)) ((towS t_z 2)) (q_x) (q_y) (q_z) e outs hp) : Fin_skylightref06_Even_2 rnd t_x t_y t_z q_x q_y q_z e outs hp := by
  intro x0 x2 x3 x4 x5 x6 x7 x8 x9 x10 x11 x12 x13 x14 x15 x16 x17 x18 x19 x20 x21 x22 x23 x24 x25 x26 x27 x28
  obtain ⟨N, s', h1, h2⟩ := hn (x0) (x2) (x3) (x4) (x5) (x6) (x7) (x8) (x9) (x10) (x11) (x12) (x13) (x14) (AV.agg [AV.int IntKind.i64 false t_x, AV.int IntKind.i64 false t_y, AV.int IntKind.i64 false t_z]) (AV.bool false (decide ((-1048575 ≤ t_x ∧ t_x ≤ 1048575) ∧ (-1048575 ≤ t_y ∧ t_y ≤ 1048575) ∧ -1048575 ≤ t_z ∧ t_z ≤ 1048575))) (AV.bool false !decide ((-1048575 ≤ t_x ∧ t_x ≤ 1048575) ∧ (-1048575 ≤ t_y ∧ t_y ≤ 1048575) ∧ -1048575 ≤ t_z ∧ t_z ≤ 1048575)) (AV.ptr (some (0, 0))) (AV.int IntKind.i64 false t_x) (AV.int IntKind.i64 false (towS t_x 2)) (AV.ptr (some (0, 1))) (AV.int IntKind.i64 false t_y) (AV.int IntKind.i64 false (towS t_y 2)) (AV.ptr (some (0, 2))) (AV.int IntKind.i64 false t_z) (AV.int IntKind.i64 false (towS t_z 2)) (AV.agg [AV.int IntKind.i64 false (towS t_x 2), AV.int IntKind.i64 false (towS t_y 2), AV.int IntKind.i64 false (towS t_z 2)]) (x28)
  refine ⟨N + 1, s', fun L => ?_, hh ▸ h2.of (s1 := sl_skylightref06_Even_2_0 t_x t_y t_z q_x q_y q_z x0 x2 x3 x4 x5 x6 x7 x8 x9 x10 x11 x12 x13 x14 x15 x16 x17 x18 x19 x20 x21 x22 x23 x24 x25 x26 x27 x28) rfl ((show _ = kl_skylightref06_Even_2 t_x t_y t_z q_x q_y q_z x0 x2 x3 x4 x5 x6 x7 x8 x9 x10 x11 x12 x13 x14 x15 x16 x17 x18 x19 x20 x21 x22 x23 x24 x25 x26 x27 x28 from rfl).trans (show kl_skylightref06_Even_2 t_x t_y t_z q_x q_y q_z x0 x2 x3 x4 x5 x6 x7 x8 x9 x10 x11 x12 x13 x14 x15 x16 x17 x18 x19 x20 x21 x22 x23 x24 x25 x26 x27 x28 = _ from rfl))⟩
  rw [loopIterG, hr L t_x t_y t_z q_x q_y q_z x0 x2 x3 x4 x5 x6 x7 x8 x9 x10 x11 x12 x13 x14 x15 x16 x17 x18 x19 x20 x21 x22 x23 x24 x25 x26 x27 x28, Tr.run_bind, show (rd_skylightref06_Even_2 t_x t_y t_z q_x q_y q_z x0 x2 x3 x4 x5 x6 x7 x8 x9 x10 x11 x12 x13 x14 x15 x16 x17 x18 x19 x20 x21 x22 x23 x24 x25 x26 x27 x28).run = some (.normal, sl_skylightref06_Even_2_0 t_x t_y t_z q_x q_y q_z x0 x2 x3 x4 x5 x6 x7 x8 x9 x10 x11 x12 x13 x14 x15 x16 x17 x18 x19 x20 x21 x22 x23 x24 x25 x26 x27 x28) from (run_t c0).trans ((run_t c1).trans (rfl))]
  exact h1 L
theorem stop_skylightref06_Even_2_1 {rnd : Nat → St → Tr (Ex × St)} (hr : HR_skylightref06_Even_2 rnd) (t_x : Int) (t_y : Int) (t_z : Int) (q_x : Int) (q_y : Int) (q_z : Int) (c0 : true = true) (c1 : (!decide ((-1048575 ≤ t_x ∧ t_x ≤ 1048575) ∧ (-1048575 ≤ t_y ∧ t_y ≤ 1048575) ∧ -1048575 ≤ t_z ∧ t_z ≤ 1048575)) = false) {outs : List (Nat × AV)} {hp : AH → AH} (ho : ∀ (x0 x2 x3 x4 x5 x6 x7 x8 x9 x10 x11 x12 x13 x14 x15 x16 x17 x18 x19 x20 x21 x22 x23 x24 x25 x26 x27 x28 : AV), outs.map (fun p => untag ((sl_skylightref06_Even_2_1 t_x t_y t_z q_x q_y q_z x0 x2 x3 x4 x5 x6 x7 x8 x9 x10 x11 x12 x13 x14 x15 x16 x17 x18 x19 x20 x21 x22 x23 x24 x25 x26 x27 x28).tmps.getD p.1 .undef)) = outs.map (fun p => untag p.2)) (hh : ∀ h : AH, ([[AV.int IntKind.i64 false t_x, AV.int IntKind.i64 false t_y, AV.int IntKind.i64 false t_z], [AV.int IntKind.i64 false q_x, AV.int IntKind.i64 false q_y, AV.int IntKind.i64 false q_z]]).map untagL = (hp ([[.int .i64 false t_x, .int .i64 false t_y, .int .i64 false t_z], [.int .i64 false q_x, .int .i64 false q_y, .int .i64 false q_z]])).map untagL) : Fin_skylightref06_Even_2 rnd t_x t_y t_z q_x q_y q_z (.exit 2) outs hp := by
  intro x0 x2 x3 x4 x5 x6 x7 x8 x9 x10 x11 x12 x13 x14 x15 x16 x17 x18 x19 x20 x21 x22 x23 x24 x25 x26 x27 x28
  refine ⟨0, gcSt none (sl_skylightref06_Even_2_1 t_x t_y t_z q_x q_y q_z x0 x2 x3 x4 x5 x6 x7 x8 x9 x10 x11 x12 x13 x14 x15 x16 x17 x18 x19 x20 x21 x22 x23 x24 x25 x26 x27 x28), fun L => ?_, Leaves.stop (s1 := sl_skylightref06_Even_2_1 t_x t_y t_z q_x q_y q_z x0 x2 x3 x4 x5 x6 x7 x8 x9 x10 x11 x12 x13 x14 x15 x16 x17 x18 x19 x20 x21 x22 x23 x24 x25 x26 x27 x28) (hh []) rfl (ho x0 x2 x3 x4 x5 x6 x7 x8 x9 x10 x11 x12 x13 x14 x15 x16 x17 x18 x19 x20 x21 x22 x23 x24 x25 x26 x27 x28) ((show _ = kl_skylightref06_Even_2 t_x t_y t_z q_x q_y q_z x0 x2 x3 x4 x5 x6 x7 x8 x9 x10 x11 x12 x13 x14 x15 x16 x17 x18 x19 x20 x21 x22 x23 x24 x25 x26 x27 x28 from rfl).trans (show kl_skylightref06_Even_2 t_x t_y t_z q_x q_y q_z x0 x2 x3 x4 x5 x6 x7 x8 x9 x10 x11 x12 x13 x14 x15 x16 x17 x18 x19 x20 x21 x22 x23 x24 x25 x26 x27 x28 = _ from rfl))⟩
  rw [loopIterG, hr L t_x t_y t_z q_x q_y q_z x0 x2 x3 x4 x5 x6 x7 x8 x9 x10 x11 x12 x13 x14 x15 x16 x17 x18 x19 x20 x21 x22 x23 x24 x25 x26 x27 x28, Tr.run_bind, show (rd_skylightref06_Even_2 t_x t_y t_z q_x q_y q_z x0 x2 x3 x4 x5 x6 x7 x8 x9 x10 x11 x12 x13 x14 x15 x16 x17 x18 x19 x20 x21 x22 x23 x24 x25 x26 x27 x28).run = some (.exit 2, sl_skylightref06_Even_2_1 t_x t_y t_z q_x q_y q_z x0 x2 x3 x4 x5 x6 x7 x8 x9 x10 x11 x12 x13 x14 x15 x16 x17 x18 x19 x20 x21 x22 x23 x24 x25 x26 x27 x28) from (run_t c0).trans ((run_f c1).trans (rfl))]
  rfl
theorem core_skylightref06_Even_2 (rnd : Nat → St → Tr (Ex × St)) (hr : HR_skylightref06_Even_2 rnd) : ∀ (t_x : Int) (t_y : Int) (t_z : Int) (q_x : Int) (q_y : Int) (q_z : Int), mostI t_x t_y t_z ≤ 4611686018427387904 → Fin_skylightref06_Even_2 rnd t_x t_y t_z q_x q_y q_z (.exit 2) [] (fun _ => [[i6 (downS 45 t_x (mostI t_x t_y t_z)), i6 (downS 45 t_y (mostI t_x t_y t_z)), i6 (downS 45 t_z (mostI t_x t_y t_z))], [.int .i64 false q_x, .int .i64 false q_y, .int .i64 false q_z]]) := by
  have key : ∀ (k : Nat) (t_x t_y t_z q_x q_y q_z : Int), mostI t_x t_y t_z ≤ 4611686018427387904 ∧ mostI t_x t_y t_z < 1048576 * 2 ^ k →
      Fin_skylightref06_Even_2 rnd t_x t_y t_z q_x q_y q_z (.exit 2) [] (fun _ => [[i6 (downS k t_x (mostI t_x t_y t_z)), i6 (downS k t_y (mostI t_x t_y t_z)), i6 (downS k t_z (mostI t_x t_y t_z))], [.int .i64 false q_x, .int .i64 false q_y, .int .i64 false q_z]]) := by
    intro k
    induction k with
    | zero =>
      intro t_x t_y t_z q_x q_y q_z ⟨h1, hk⟩
      obtain ⟨hx, hy, hz, hm⟩ := most_spec h1
      exact stop_skylightref06_Even_2_1 hr t_x t_y t_z q_x q_y q_z rfl (by rw [decide_eq_true (by omega)]; rfl) (by intros; rfl) (fun h => rfl)
    | succ k ih =>
      intro t_x t_y t_z q_x q_y q_z ⟨h1, hk⟩
      obtain ⟨hx, hy, hz, hm⟩ := most_spec h1
      by_cases hc : mostI t_x t_y t_z ≥ 1048576
      · refine step_skylightref06_Even_2_0 hr t_x t_y t_z q_x q_y q_z rfl (by rw [decide_eq_false (by omega)]; rfl) rfl ?_
        rw [towS_2 (x := t_x) (by omega), towS_2 (x := t_y) (by omega), towS_2 (x := t_z) (by omega)]
        simp only [downS, if_pos hc]
        have hh := most_half h1
        have hn := ih (t_x.tdiv 2) (t_y.tdiv 2) (t_z.tdiv 2) q_x q_y q_z (by
          rw [hh]
          have : (1048576 : Int) * 2 ^ (k + 1) = 2 * (1048576 * 2 ^ k) := by rw [Int.pow_succ]; grind
          omega)
        rw [hh] at hn
        exact hn
      · refine stop_skylightref06_Even_2_1 hr t_x t_y t_z q_x q_y q_z rfl (by rw [decide_eq_true (by omega)]; rfl) (by intros; rfl) (fun h => ?_)
        simp only [downS, if_neg hc]; rfl
  exact fun t_x t_y t_z q_x q_y q_z hc => key 45 t_x t_y t_z q_x q_y q_z ⟨hc, by omega⟩
theorem piece_skylightref06_Even_2 {P : Program} {T : Table} {O' : Known} {f : FuncId} (hb : blockOf P f 2 = .loop (loopOf P f 2)) (hid : O' 2 = none)
    (hr : HR_skylightref06_Even_2 (fun L => evCode P (evCall P T 16 6) L O' (loopOf P f 2))) :
    ∀ (s : St) (e : Ex) (outs : List (Nat × AV)) (hp : AH), s.tmps.length = 29 → (g_skylightref06_Even_2 (([1] : List Nat).map fun j => untag (s.tmps.getD j .undef)) (s.heap.map untagL)).run = some (e, outs, hp) → ∃ s', Good P T O' f 2 29 [15, 16, 17, 18, 19, 20, 21, 22, 23, 24, 25, 26, 27] s e outs hp s' := by
  intro s e outs hp hk hg
  obtain ⟨tm, h⟩ := s
  have htm : untagL tm = [untag (tm.getD 0 .undef), untag (tm.getD 1 .undef), untag (tm.getD 2 .undef), untag (tm.getD 3 .undef), untag (tm.getD 4 .undef), untag (tm.getD 5 .undef), untag (tm.getD 6 .undef), untag (tm.getD 7 .undef), untag (tm.getD 8 .undef), untag (tm.getD 9 .undef), untag (tm.getD 10 .undef), untag (tm.getD 11 .undef), untag (tm.getD 12 .undef), untag (tm.getD 13 .undef), untag (tm.getD 14 .undef), untag (tm.getD 15 .undef), untag (tm.getD 16 .undef), untag (tm.getD 17 .undef), untag (tm.getD 18 .undef), untag (tm.getD 19 .undef), untag (tm.getD 20 .undef), untag (tm.getD 21 .undef), untag (tm.getD 22 .undef), untag (tm.getD 23 .undef), untag (tm.getD 24 .undef), untag (tm.getD 25 .undef), untag (tm.getD 26 .undef), untag (tm.getD 27 .undef), untag (tm.getD 28 .undef)] := tmps_eq hk
  unfold g_skylightref06_Even_2 at hg
  simp only [List.map_cons, List.map_nil] at hg
  split at hg
  · rename_i t_x t_y t_z q_x q_y q_z heq hheap
    simp only [List.cons.injEq, and_true] at heq
    have e1 := heq
    simp only [Tr.run] at hg
    split at hg
    · rename_i hc
      simp only [Option.some.injEq, Prod.mk.injEq] at hg
      obtain ⟨rfl, rfl, rfl⟩ := hg
      rw [e1] at htm
      obtain ⟨N, s', h1, h2⟩ := core_skylightref06_Even_2 (fun L => evCode P (evCall P T 16 6) L O' (loopOf P f 2)) hr t_x t_y t_z q_x q_y q_z (of_decide_eq_true hc) (untag (tm.getD 0 .undef)) (untag (tm.getD 2 .undef)) (untag (tm.getD 3 .undef)) (untag (tm.getD 4 .undef)) (untag (tm.getD 5 .undef)) (untag (tm.getD 6 .undef)) (untag (tm.getD 7 .undef)) (untag (tm.getD 8 .undef)) (untag (tm.getD 9 .undef)) (untag (tm.getD 10 .undef)) (untag (tm.getD 11 .undef)) (untag (tm.getD 12 .undef)) (untag (tm.getD 13 .undef)) (untag (tm.getD 14 .undef)) (untag (tm.getD 15 .undef)) (untag (tm.getD 16 .undef)) (untag (tm.getD 17 .undef)) (untag (tm.getD 18 .undef)) (untag (tm.getD 19 .undef)) (untag (tm.getD 20 .undef)) (untag (tm.getD 21 .undef)) (untag (tm.getD 22 .undef)) (untag (tm.getD 23 .undef)) (untag (tm.getD 24 .undef)) (untag (tm.getD 25 .undef)) (untag (tm.getD 26 .undef)) (untag (tm.getD 27 .undef)) (untag (tm.getD 28 .undef)) 
      exact ⟨s', good_loop (g := none) (e1 := .exit 2) hb (fun k e => by cases e) 16 6 N (by rw [htm, hheap]; exact h1) (by rw [htm]; exact h2)⟩
    · cases hg
  · cases hg

/-! skylightref06.Even -/
def tr_skylightref06_Even (v_x : Int) (v_y : Int) (v_z : Int) : Tr AV := Tr.node (decide (1 ≤ mostI v_x v_y v_z ∧ mostI v_x v_y v_z ≤ 4611686018427387904)) (Tr.node (decide (mostI (upS 20 v_x (mostI v_x v_y v_z)) (upS 20 v_y (mostI v_x v_y v_z)) (upS 20 v_z (mostI v_x v_y v_z)) ≤ 4611686018427387904)) (Tr.leaf (AV.agg [AV.int IntKind.i64 false (downS 45 (upS 20 v_x (mostI v_x v_y v_z)) (mostI (upS 20 v_x (mostI v_x v_y v_z)) (upS 20 v_y (mostI v_x v_y v_z)) (upS 20 v_z (mostI v_x v_y v_z)))), AV.int IntKind.i64 false (downS 45 (upS 20 v_y (mostI v_x v_y v_z)) (mostI (upS 20 v_x (mostI v_x v_y v_z)) (upS 20 v_y (mostI v_x v_y v_z)) (upS 20 v_z (mostI v_x v_y v_z)))), AV.int IntKind.i64 false (downS 45 (upS 20 v_z (mostI v_x v_y v_z)) (mostI (upS 20 v_x (mostI v_x v_y v_z)) (upS 20 v_y (mostI v_x v_y v_z)) (upS 20 v_z (mostI v_x v_y v_z))))])) Tr.bad) Tr.bad
theorem run_skylightref06_Even (v_x : Int) (v_y : Int) (v_z : Int) (h_v_x : InR .i64 v_x) (h_v_y : InR .i64 v_y) (h_v_z : InR .i64 v_z) (hpre : 1 ≤ mostI v_x v_y v_z ∧ mostI v_x v_y v_z ≤ 4611686018427387904) : (tr_skylightref06_Even v_x v_y v_z).run = some (v3 (nrm v_x v_y v_z v_x) (nrm v_x v_y v_z v_y) (nrm v_x v_y v_z v_z)) := by
  unfold tr_skylightref06_Even
  have ok : okU v_x v_y v_z = true := by unfold okU; simp; omega
  obtain ⟨n, _, _, _, he⟩ := even_spec ok
  exact (run_t (decide_eq_true hpre)).trans (run_t (decide_eq_true he))

/-! skylightref06.Unit -/
def tr_skylightref06_Unit (v_x : Int) (v_y : Int) (v_z : Int) : Tr AV := Tr.node true (Tr.node (!decide ((-4611686018427387904 ≤ v_x ∧ v_x ≤ 4611686018427387904) ∧ (-4611686018427387904 ≤ v_y ∧ v_y ≤ 4611686018427387904) ∧ -4611686018427387904 ≤ v_z ∧ v_z ≤ 4611686018427387904)) (Tr.leaf (AV.tuple [AV.agg [AV.int IntKind.i64 false 0, AV.int IntKind.i64 false 0, AV.int IntKind.i64 false 0], AV.bool false false])) (Tr.node true (Tr.node (decide ((0 ≤ v_x ∧ v_x ≤ 0) ∧ (0 ≤ v_y ∧ v_y ≤ 0) ∧ 0 ≤ v_z ∧ v_z ≤ 0)) (Tr.leaf (AV.tuple [AV.agg [AV.int IntKind.i64 false 0, AV.int IntKind.i64 false 0, AV.int IntKind.i64 false 0], AV.bool false false])) (Tr.node (decide (1 ≤ mostI v_x v_y v_z ∧ mostI v_x v_y v_z ≤ 4611686018427387904)) (Tr.leaf (AV.tuple [AV.agg [AV.int IntKind.i64 false (towS (IntKind.i64.wrap (nrm v_x v_y v_z v_x * 16384)) (isq (dotN (nrm v_x v_y v_z v_x) (nrm v_x v_y v_z v_y) (nrm v_x v_y v_z v_z) (nrm v_x v_y v_z v_x) (nrm v_x v_y v_z v_y) (nrm v_x v_y v_z v_z)))), AV.int IntKind.i64 false (towS (IntKind.i64.wrap (nrm v_x v_y v_z v_y * 16384)) (isq (dotN (nrm v_x v_y v_z v_x) (nrm v_x v_y v_z v_y) (nrm v_x v_y v_z v_z) (nrm v_x v_y v_z v_x) (nrm v_x v_y v_z v_y) (nrm v_x v_y v_z v_z)))), AV.int IntKind.i64 false (towS (IntKind.i64.wrap (nrm v_x v_y v_z v_z * 16384)) (isq (dotN (nrm v_x v_y v_z v_x) (nrm v_x v_y v_z v_y) (nrm v_x v_y v_z v_z) (nrm v_x v_y v_z v_x) (nrm v_x v_y v_z v_y) (nrm v_x v_y v_z v_z))))], AV.bool false true])) Tr.bad)) Tr.bad)) Tr.bad
theorem run_skylightref06_Unit (v_x : Int) (v_y : Int) (v_z : Int) (h_v_x : InR .i64 v_x) (h_v_y : InR .i64 v_y) (h_v_z : InR .i64 v_z) : (tr_skylightref06_Unit v_x v_y v_z).run = some (.tuple [v3 (unitC v_x v_y v_z v_x) (unitC v_x v_y v_z v_y) (unitC v_x v_y v_z v_z), bb (okU v_x v_y v_z)]) := by
  unfold tr_skylightref06_Unit
  have hx := inR_i64.1 h_v_x
  have hy := inR_i64.1 h_v_y
  have hz := inR_i64.1 h_v_z
  have h0 := most_nonneg v_x v_y v_z
  have hm : (mostI v_x v_y v_z ≤ 4611686018427387904 ↔ ((-4611686018427387904 ≤ v_x ∧ v_x ≤ 4611686018427387904) ∧ (-4611686018427387904 ≤ v_y ∧ v_y ≤ 4611686018427387904) ∧ -4611686018427387904 ≤ v_z ∧ v_z ≤ 4611686018427387904)) ∧ (mostI v_x v_y v_z = 0 ↔ ((0 ≤ v_x ∧ v_x ≤ 0) ∧ (0 ≤ v_y ∧ v_y ≤ 0) ∧ 0 ≤ v_z ∧ v_z ≤ 0)) := by
    unfold mostI; simp only [max_r, sat]; omega
  obtain ⟨m1, m2⟩ := hm
  refine (run_t rfl).trans ?_
  by_cases c1 : mostI v_x v_y v_z ≤ 4611686018427387904
  rotate_left
  · have ok : okU v_x v_y v_z = false := by unfold okU; simp; omega
    rw [ok, unitC_no ok, unitC_no ok, unitC_no ok]
    exact run_t (by rw [decide_eq_false (fun h => c1 (m1.2 h))]; rfl)
  refine (run_f (by rw [decide_eq_true (m1.1 c1)]; rfl)).trans ((run_t rfl).trans ?_)
  by_cases c0 : mostI v_x v_y v_z = 0
  · have ok : okU v_x v_y v_z = false := by unfold okU; simp [c0]
    rw [ok, unitC_no ok, unitC_no ok, unitC_no ok]
    exact run_t (decide_eq_true (m2.1 c0))
  refine (run_f (decide_eq_false (fun h => c0 (m2.2 h)))).trans ((run_t (decide_eq_true ⟨by omega, c1⟩)).trans ?_)
  have ok : okU v_x v_y v_z = true := by unfold okU; simp [c0]; omega
  obtain ⟨near, l1, l2, l3, l4⟩ := len_spec ok
  obtain ⟨u1, u2, ux, uy, uz⟩ := unitC_r ok
  have el : isq (dotN (nrm v_x v_y v_z v_x) (nrm v_x v_y v_z v_y) (nrm v_x v_y v_z v_z) (nrm v_x v_y v_z v_x) (nrm v_x v_y v_z v_y) (nrm v_x v_y v_z v_z)) = lenU v_x v_y v_z := by
    unfold lenU dotN; rw [if_pos ⟨near, near⟩]
  have rn := near_r near
  rw [ok, el, wrap_i64_id (n := nrm v_x v_y v_z v_x * 16384) (by omega), wrap_i64_id (n := nrm v_x v_y v_z v_y * 16384) (by omega), wrap_i64_id (n := nrm v_x v_y v_z v_z * 16384) (by omega)]
  have e : ∀ c, unitC v_x v_y v_z c = (nrm v_x v_y v_z c * 16384).tdiv (lenU v_x v_y v_z) := fun c => by unfold unitC; rw [if_pos ok]
  rw [towS_tdiv (by omega) (by omega), towS_tdiv (by omega) (by omega), towS_tdiv (by omega) (by omega), ← e, ← e, ← e]
  rfl

end Go.Sky

/- Bent light: what is reckoned. -/
set_option linter.unusedSimpArgs false
set_option linter.unusedVariables false
namespace Go.Sky

def dv (a b : Int) : Int := if 1 ≤ b then a / b else 0
def md (a b : Int) : Int := if 1 ≤ b then a % b else 0
def hold (n lo hi : Int) : Int := if n < lo then lo else if n > hi then hi else n
/-- A coordinate of the vector that is against another one. -/
def facC (c nx ny nz dx dy dz : Int) : Int := if nearB dx dy dz = true ∧ nearB nx ny nz = true then (if dotI nx ny nz dx dy dz > 0 then -c else c) else 0
def cosB (c : Int) : Bool := decide (0 ≤ c ∧ c ≤ 16384)
def idxB (n : Int) : Bool := decide (16384 ≤ n ∧ n ≤ 65536)
def shortB (x y z : Int) : Bool := decide ((-16385 ≤ x ∧ x ≤ 16385) ∧ (-16385 ≤ y ∧ y ≤ 16385) ∧ (-16385 ≤ z ∧ z ≤ 16385))
def backA (n : Int) : Int := (n - 16384) * (n - 16384) * 65536 / ((n + 16384) * (n + 16384))
def backM (c : Int) : Int := ((16384 - c) * (16384 - c) / 16384) * ((16384 - c) * (16384 - c) / 16384) / 16384 * (16384 - c) / 16384
def backN (c n : Int) : Int := if cosB c = true ∧ idxB n = true then backA n + (65536 - backA n) * backM c / 16384 else 0
def cosR (nx ny nz dx dy dz : Int) : Int := hold (sz (dotI nx ny nz dx dy dz) / 16384) 0 16384
def cosN (nx ny nz dx dy dz : Int) : Int := if shortB nx ny nz = true ∧ shortB dx dy dz = true then cosR nx ny nz dx dy dz else 0
def sineN (c a b : Int) : Int := if cosB c = true ∧ idxB a = true ∧ idxB b = true then (268435456 - c * c) * a * a / (b * b) else 0
def bendK (c a b : Int) : Int := c * a / b - isq (268435456 - sineN c a b)
/-- A coordinate that is bent, not yet made even. -/
def bndC (d f dx dy dz nx ny nz a b : Int) : Int := d * a / b + facC f nx ny nz dx dy dz * bendK (cosN nx ny nz dx dy dz) a b / 16384
def bendOk (dx dy dz nx ny nz a b : Int) : Bool := shortB dx dy dz && shortB nx ny nz && idxB a && idxB b && decide (sineN (cosN nx ny nz dx dy dz) a b ≤ 268435456)
def bendU (c dx dy dz nx ny nz a b : Int) : Int :=
  if bendOk dx dy dz nx ny nz a b = true then unitC (bndC dx nx dx dy dz nx ny nz a b) (bndC dy ny dx dy dz nx ny nz a b) (bndC dz nz dx dy dz nx ny nz a b) c else 0
def bendIs (dx dy dz nx ny nz a b : Int) : Bool :=
  bendOk dx dy dz nx ny nz a b && okU (bndC dx nx dx dy dz nx ny nz a b) (bndC dy ny dx dy dz nx ny nz a b) (bndC dz nz dx dy dz nx ny nz a b)

theorem dv_16384 (x : Int) : dv x 16384 = x / 16384 := by unfold dv; rw [if_pos (by decide)]

theorem mul_mono {a b c d : Int} (h1 : 0 ≤ a) (h2 : a ≤ b) (h3 : 0 ≤ c) (h4 : c ≤ d) : 0 ≤ a * c ∧ a * c ≤ b * d := ⟨Int.mul_nonneg h1 h3, Int.mul_le_mul h2 h4 h3 (by omega)⟩

theorem ediv_cross {P Q R S : Int} (hQ : 0 < Q) (hS : 0 < S) (h : P * S ≤ R * Q) : P / Q ≤ R / S := by
  apply Int.le_ediv_of_mul_le hS
  have h1 := Int.ediv_mul_le P (show Q ≠ 0 by omega)
  have h2 : P / Q * Q * S ≤ P * S := Int.mul_le_mul_of_nonneg_right h1 (by omega)
  have h3 : P / Q * S * Q ≤ R * Q := by rw [Int.mul_assoc, Int.mul_comm S Q, ← Int.mul_assoc]; exact Int.le_trans h2 h
  exact Int.le_of_mul_le_mul_right h3 hQ

theorem mx_gt (x y z k : Int) : (mm true (mm true x y) z > k) ↔ (x > k ∨ y > k ∨ z > k) := by simp only [max_r]; omega
theorem mx_le (x y z k : Int) : (mm true (mm true x y) z ≤ k) ↔ (x ≤ k ∧ y ≤ k ∧ z ≤ k) := by simp only [max_r]; omega
theorem mn_lt (x y z k : Int) : (mm false (mm false x y) z < k) ↔ (x < k ∨ y < k ∨ z < k) := by simp only [min_r]; omega
theorem mn_ge (x y z k : Int) : (mm false (mm false x y) z ≥ k) ↔ (x ≥ k ∧ y ≥ k ∧ z ≥ k) := by simp only [min_r]; omega

theorem run_guard {α : Type} {b : Bool} {t e : Tr α} {x : Option α} (ht : b = true → t.run = x) (he : b = false → e.run = x) : (Tr.node b t e).run = x := by
  cases b
  · exact he rfl
  · exact ht rfl

theorem cosB_r {c : Int} (h : cosB c = true) : 0 ≤ c ∧ c ≤ 16384 := of_decide_eq_true h
theorem idxB_r {c : Int} (h : idxB c = true) : 16384 ≤ c ∧ c ≤ 65536 := of_decide_eq_true h

/-- A number's square and so on, of numbers up to a unit. -/
theorem backM_r {c : Int} (h : 0 ≤ c ∧ c ≤ 16384) :
    (0 ≤ (16384 - c) * (16384 - c) ∧ (16384 - c) * (16384 - c) ≤ 268435456) ∧
    (0 ≤ (16384 - c) * (16384 - c) / 16384 * ((16384 - c) * (16384 - c) / 16384) ∧ (16384 - c) * (16384 - c) / 16384 * ((16384 - c) * (16384 - c) / 16384) ≤ 268435456) ∧
    (0 ≤ (16384 - c) * (16384 - c) / 16384 * ((16384 - c) * (16384 - c) / 16384) / 16384 * (16384 - c) ∧ (16384 - c) * (16384 - c) / 16384 * ((16384 - c) * (16384 - c) / 16384) / 16384 * (16384 - c) ≤ 268435456) ∧
    0 ≤ backM c ∧ backM c ≤ 16384 := by
  have h1 := mul_mono (a := 16384 - c) (b := 16384) (c := 16384 - c) (d := 16384) (by omega) (by omega) (by omega) (by omega)
  have h2 := mul_mono (a := (16384 - c) * (16384 - c) / 16384) (b := 16384) (c := (16384 - c) * (16384 - c) / 16384) (d := 16384) (by omega) (by omega) (by omega) (by omega)
  have h3 := mul_mono (a := (16384 - c) * (16384 - c) / 16384 * ((16384 - c) * (16384 - c) / 16384) / 16384) (b := 16384) (c := 16384 - c) (d := 16384) (by omega) (by omega) (by omega) (by omega)
  unfold backM
  omega

theorem backM_mono {c d : Int} (hc : 0 ≤ c) (h : c ≤ d) (hd : d ≤ 16384) : backM d ≤ backM c := by
  have h1 := mul_mono (a := 16384 - d) (b := 16384 - c) (c := 16384 - d) (d := 16384 - c) (by omega) (by omega) (by omega) (by omega)
  have e1 : (16384 - d) * (16384 - d) / 16384 ≤ (16384 - c) * (16384 - c) / 16384 := by omega
  have h2 := mul_mono (a := (16384 - d) * (16384 - d) / 16384) (b := (16384 - c) * (16384 - c) / 16384) (c := (16384 - d) * (16384 - d) / 16384) (d := (16384 - c) * (16384 - c) / 16384) (by omega) e1 (by omega) e1
  have h3 := mul_mono (a := (16384 - d) * (16384 - d) / 16384 * ((16384 - d) * (16384 - d) / 16384) / 16384) (b := (16384 - c) * (16384 - c) / 16384 * ((16384 - c) * (16384 - c) / 16384) / 16384) (c := 16384 - d) (d := 16384 - c) (by omega) (by omega) (by omega) (by omega)
  unfold backM
  omega

theorem backA_r {n : Int} (h : 16384 ≤ n ∧ n ≤ 65536) :
    (0 ≤ (n - 16384) * (n - 16384) ∧ (n - 16384) * (n - 16384) ≤ 2415919104) ∧ (1073741824 ≤ (n + 16384) * (n + 16384) ∧ (n + 16384) * (n + 16384) ≤ 6710886400) ∧ 0 ≤ backA n ∧ backA n ≤ 65536 := by
  have h1 := mul_mono (a := n - 16384) (b := 49152) (c := n - 16384) (d := 49152) (by omega) (by omega) (by omega) (by omega)
  have h2 := mul_mono (a := 32768) (b := n + 16384) (c := 32768) (d := n + 16384) (by omega) (by omega) (by omega) (by omega)
  have h3 := mul_mono (a := n + 16384) (b := 81920) (c := n + 16384) (d := 81920) (by omega) (by omega) (by omega) (by omega)
  have h4 := mul_mono (a := n - 16384) (b := n + 16384) (c := n - 16384) (d := n + 16384) (by omega) (by omega) (by omega) (by omega)
  have h5 : 0 ≤ backA n := Int.ediv_nonneg (by omega) (by omega)
  have h6 : backA n < 65537 := Int.ediv_lt_of_lt_mul (by omega) (by omega)
  omega

theorem backA_mono {a b : Int} (ha : 16384 ≤ a) (h : a ≤ b) : backA a ≤ backA b := by
  unfold backA
  have h2 := mul_mono (a := 32768) (b := a + 16384) (c := 32768) (d := a + 16384) (by omega) (by omega) (by omega) (by omega)
  have h3 := mul_mono (a := 32768) (b := b + 16384) (c := 32768) (d := b + 16384) (by omega) (by omega) (by omega) (by omega)
  refine ediv_cross (by omega) (by omega) ?_
  have e : (a - 16384) * (b + 16384) ≤ (b - 16384) * (a + 16384) := by
    have e1 : (b - 16384) * (a + 16384) - (a - 16384) * (b + 16384) = 32768 * (b - a) := by grind
    omega
  have e2 : 0 ≤ (a - 16384) * (b + 16384) := Int.mul_nonneg (by omega) (by omega)
  have e3 := mul_mono e2 e e2 e
  have e4 : (a - 16384) * (a - 16384) * 65536 * ((b + 16384) * (b + 16384)) = 65536 * ((a - 16384) * (b + 16384) * ((a - 16384) * (b + 16384))) := by grind
  have e5 : (b - 16384) * (b - 16384) * 65536 * ((a + 16384) * (a + 16384)) = 65536 * ((b - 16384) * (a + 16384) * ((b - 16384) * (a + 16384))) := by grind
  rw [e4, e5]; omega

/-- How much is thrown back: what it is, and its part of the whole. -/
theorem backP_r {c n : Int} (hc : 0 ≤ c ∧ c ≤ 16384) (hn : 16384 ≤ n ∧ n ≤ 65536) :
    0 ≤ (65536 - backA n) * backM c ∧ (65536 - backA n) * backM c ≤ (65536 - backA n) * 16384 := by
  obtain ⟨_, _, _, h1, h2⟩ := backM_r hc
  obtain ⟨_, _, h3, h4⟩ := backA_r hn
  exact mul_mono (by omega) (Int.le_refl _) h1 h2

theorem backN_eq {c n : Int} (hc : 0 ≤ c ∧ c ≤ 16384) (hn : 16384 ≤ n ∧ n ≤ 65536) : backN c n = backA n + (65536 - backA n) * backM c / 16384 := by
  unfold backN cosB idxB; rw [if_pos ⟨decide_eq_true hc, decide_eq_true hn⟩]

theorem backN_r {c n : Int} (hc : 0 ≤ c ∧ c ≤ 16384) (hn : 16384 ≤ n ∧ n ≤ 65536) : 0 ≤ backN c n ∧ backN c n ≤ 65536 := by
  have h := backP_r hc hn
  have := backA_r hn
  rw [backN_eq hc hn]; omega

theorem backN_mono {c d n : Int} (hc : 0 ≤ c) (h : c ≤ d) (hd : d ≤ 16384) (hn : 16384 ≤ n ∧ n ≤ 65536) : backN d n ≤ backN c n := by
  rw [backN_eq ⟨hc, by omega⟩ hn, backN_eq ⟨by omega, hd⟩ hn]
  have h1 := backM_mono hc h hd
  have h2 := backA_r hn
  have h3 : (65536 - backA n) * backM d ≤ (65536 - backA n) * backM c := Int.mul_le_mul_of_nonneg_left h1 (by omega)
  omega

theorem backN_0 {n : Int} (hn : 16384 ≤ n ∧ n ≤ 65536) : backN 0 n = 65536 := by
  rw [backN_eq (by decide) hn, show backM 0 = 16384 by decide]; omega
theorem backN_1 {n : Int} (hn : 16384 ≤ n ∧ n ≤ 65536) : backN 16384 n = backA n := by
  rw [backN_eq (by decide) hn, show backM 16384 = 0 by decide]; omega

theorem sine_r {c a b : Int} (hc : 0 ≤ c ∧ c ≤ 16384) (ha : 16384 ≤ a ∧ a ≤ 65536) (hb : 16384 ≤ b ∧ b ≤ 65536) :
    (0 ≤ c * c ∧ c * c ≤ 268435456) ∧ (0 ≤ (268435456 - c * c) * a ∧ (268435456 - c * c) * a ≤ 17592186044416) ∧ (0 ≤ (268435456 - c * c) * a * a ∧ (268435456 - c * c) * a * a ≤ 1152921504606846976) ∧
    (268435456 ≤ b * b ∧ b * b ≤ 4294967296) ∧ 0 ≤ (268435456 - c * c) * a * a / (b * b) := by
  have h1 := mul_mono (a := c) (b := 16384) (c := c) (d := 16384) (by omega) (by omega) (by omega) (by omega)
  have h2 := mul_mono (a := 268435456 - c * c) (b := 268435456) (c := a) (d := 65536) (by omega) (by omega) (by omega) (by omega)
  have h3 := mul_mono (a := (268435456 - c * c) * a) (b := 17592186044416) (c := a) (d := 65536) (by omega) (by omega) (by omega) (by omega)
  have h4 := mul_mono (a := 16384) (b := b) (c := 16384) (d := b) (by omega) (by omega) (by omega) (by omega)
  have h5 := mul_mono (a := b) (b := 65536) (c := b) (d := 65536) (by omega) (by omega) (by omega) (by omega)
  have h6 : 0 ≤ (268435456 - c * c) * a * a / (b * b) := Int.ediv_nonneg (by omega) (by omega)
  refine ⟨by omega, by omega, by omega, by omega, h6⟩

theorem sineN_eq {c a b : Int} (hc : 0 ≤ c ∧ c ≤ 16384) (ha : 16384 ≤ a ∧ a ≤ 65536) (hb : 16384 ≤ b ∧ b ≤ 65536) : sineN c a b = (268435456 - c * c) * a * a / (b * b) := by
  unfold sineN cosB idxB; rw [if_pos ⟨decide_eq_true hc, decide_eq_true ha, decide_eq_true hb⟩]

theorem sineN_mono {c d a b : Int} (hc : 0 ≤ c) (h : c ≤ d) (hd : d ≤ 16384) (ha : 16384 ≤ a ∧ a ≤ 65536) (hb : 16384 ≤ b ∧ b ≤ 65536) : sineN d a b ≤ sineN c a b := by
  rw [sineN_eq ⟨hc, by omega⟩ ha hb, sineN_eq ⟨by omega, hd⟩ ha hb]
  have h1 := mul_mono (a := c) (b := d) (c := c) (d := d) (by omega) (by omega) (by omega) (by omega)
  have h2 : (268435456 - d * d) * a ≤ (268435456 - c * c) * a := Int.mul_le_mul_of_nonneg_right (by omega) (by omega)
  have h3 : (268435456 - d * d) * a * a ≤ (268435456 - c * c) * a * a := Int.mul_le_mul_of_nonneg_right h2 (by omega)
  have h4 := mul_mono (a := 16384) (b := b) (c := 16384) (d := b) (by omega) (by omega) (by omega) (by omega)
  exact Int.ediv_le_ediv (by omega) h3

theorem short_r {x y z : Int} (h : shortB x y z = true) : (-16385 ≤ x ∧ x ≤ 16385) ∧ (-16385 ≤ y ∧ y ≤ 16385) ∧ (-16385 ≤ z ∧ z ≤ 16385) := of_decide_eq_true h
theorem short_near {x y z : Int} (h : shortB x y z = true) : nearB x y z = true := by
  have := short_r h
  unfold nearB; exact decide_eq_true (by omega)

theorem dotI_neg (x y z a b c : Int) : dotI (-x) (-y) (-z) a b c = -(dotI x y z a b c) := by unfold dotI; rw [Int.neg_mul, Int.neg_mul, Int.neg_mul]; omega

theorem facC_eq {nx ny nz dx dy dz : Int} (hn : nearB nx ny nz = true) (hd : nearB dx dy dz = true) (c : Int) : facC c nx ny nz dx dy dz = if dotI nx ny nz dx dy dz > 0 then -c else c := by
  unfold facC; rw [if_pos ⟨hd, hn⟩]

theorem facC_near {nx ny nz dx dy dz : Int} (hn : nearB nx ny nz = true) (hd : nearB dx dy dz = true) : nearB (facC nx nx ny nz dx dy dz) (facC ny nx ny nz dx dy dz) (facC nz nx ny nz dx dy dz) = true := by
  have := near_r hn
  simp only [facC_eq hn hd]
  unfold nearB
  apply decide_eq_true
  omega

theorem fac_dot {nx ny nz dx dy dz : Int} (hn : nearB nx ny nz = true) (hd : nearB dx dy dz = true) :
    dotN (facC nx nx ny nz dx dy dz) (facC ny nx ny nz dx dy dz) (facC nz nx ny nz dx dy dz) dx dy dz = -(sz (dotI nx ny nz dx dy dz)) := by
  unfold dotN
  rw [if_pos ⟨facC_near hn hd, hd⟩]
  simp only [facC_eq hn hd]
  unfold sz
  by_cases h : dotI nx ny nz dx dy dz > 0
  · simp only [if_pos h, dotI_neg]; omega
  · simp only [if_neg h]; omega

theorem dotI_r {nx ny nz dx dy dz : Int} (hn : nearB nx ny nz = true) (hd : nearB dx dy dz = true) : -3298534883328 ≤ dotI nx ny nz dx dy dz ∧ dotI nx ny nz dx dy dz ≤ 3298534883328 := by
  have := dotN_r hn hd
  unfold dotN at this
  rw [if_pos ⟨hn, hd⟩] at this
  exact this

theorem sz_r {x m : Int} (h : -m ≤ x ∧ x ≤ m) : 0 ≤ sz x ∧ sz x ≤ m := by unfold sz; omega

/-- How steep a direction is: all of it. -/
theorem cos_all {nx ny nz dx dy dz : Int} (hn : nearB nx ny nz = true) (hd : nearB dx dy dz = true) :
    hold (dv (IntKind.i64.wrap (0 - dotN (facC nx nx ny nz dx dy dz) (facC ny nx ny nz dx dy dz) (facC nz nx ny nz dx dy dz) dx dy dz)) 16384) 0 16384 = cosR nx ny nz dx dy dz := by
  have h := sz_r (dotI_r hn hd)
  rw [fac_dot hn hd, wrap_i64_id (by omega), show (0 : Int) - -(sz (dotI nx ny nz dx dy dz)) = sz (dotI nx ny nz dx dy dz) by omega]
  unfold cosR dv
  rw [if_pos (by decide)]

theorem cosR_r {nx ny nz dx dy dz : Int} : 0 ≤ cosR nx ny nz dx dy dz ∧ cosR nx ny nz dx dy dz ≤ 16384 := by
  unfold cosR hold; omega

theorem cosN_eq {nx ny nz dx dy dz : Int} (hn : shortB nx ny nz = true) (hd : shortB dx dy dz = true) : cosN nx ny nz dx dy dz = cosR nx ny nz dx dy dz := by
  unfold cosN; rw [if_pos ⟨hn, hd⟩]

theorem cosN_r {nx ny nz dx dy dz : Int} : 0 ≤ cosN nx ny nz dx dy dz ∧ cosN nx ny nz dx dy dz ≤ 16384 := by
  unfold cosN; have := @cosR_r nx ny nz dx dy dz; omega

theorem isq_28 {s : Int} (h0 : 0 ≤ s) (h1 : s ≤ 268435456) : 0 ≤ isq s ∧ isq s ≤ 16384 := by
  obtain ⟨a, b, c, d⟩ := isq_spec (n := s) h0 (by omega)
  refine ⟨a, ?_⟩
  have : isq s < 16385 := sq_lt a (by omega) (by omega)
  omega

theorem mul_abs {x y m k : Int} (hx : -m ≤ x ∧ x ≤ m) (hy : -k ≤ y ∧ y ≤ k) : -(m * k) ≤ x * y ∧ x * y ≤ m * k := by
  have hm : 0 ≤ m := by omega
  have hk : 0 ≤ k := by omega
  have h := Int.natAbs_mul x y
  have h2 : x.natAbs * y.natAbs ≤ m.natAbs * k.natAbs := Nat.mul_le_mul (by omega) (by omega)
  have h3 : ((m.natAbs * k.natAbs : Nat) : Int) = m * k := by rw [Int.natCast_mul]; congr 1 <;> omega
  omega

/-- What is reckoned of one coordinate lies within bounds. -/
theorem bnd_r {c a b s d f : Int} (hc : 0 ≤ c ∧ c ≤ 16384) (ha : 16384 ≤ a ∧ a ≤ 65536) (hb : 16384 ≤ b ∧ b ≤ 65536) (hs : 0 ≤ s ∧ s ≤ 268435456) (hd : -16385 ≤ d ∧ d ≤ 16385) (hf : -16385 ≤ f ∧ f ≤ 16385) :
    (0 ≤ c * a ∧ c * a ≤ 1073741824) ∧ (0 ≤ c * a / b ∧ c * a / b ≤ 65536) ∧ (0 ≤ isq (268435456 - s) ∧ isq (268435456 - s) ≤ 16384) ∧ (-1073807360 ≤ d * a ∧ d * a ≤ 1073807360) ∧
    (-65540 ≤ d * a / b ∧ d * a / b ≤ 65540) ∧ (-1073807360 ≤ f * (c * a / b - isq (268435456 - s)) ∧ f * (c * a / b - isq (268435456 - s)) ≤ 1073807360) ∧
    (-65540 ≤ f * (c * a / b - isq (268435456 - s)) / 16384 ∧ f * (c * a / b - isq (268435456 - s)) / 16384 ≤ 65540) := by
  have h1 := mul_mono (a := c) (b := 16384) (c := a) (d := 65536) (by omega) (by omega) (by omega) (by omega)
  have h2 : 0 ≤ c * a / b := Int.ediv_nonneg (by omega) (by omega)
  have h3 : c * a / b < 65537 := Int.ediv_lt_of_lt_mul (by omega) (by omega)
  have h4 := isq_28 (s := 268435456 - s) (by omega) (by omega)
  have h5 := mul_abs hd (show -65536 ≤ a ∧ a ≤ 65536 by omega)
  have h6 : d * a / b < 65541 := Int.ediv_lt_of_lt_mul (by omega) (by omega)
  have h7 : -65540 ≤ d * a / b := Int.le_ediv_of_mul_le (by omega) (by omega)
  have h8 := mul_abs hf (show -65536 ≤ c * a / b - isq (268435456 - s) ∧ c * a / b - isq (268435456 - s) ≤ 65536 by omega)
  omega

/-- One coordinate, as the program reckons it. -/
theorem bnd_prog {c a b s d f : Int} (hc : 0 ≤ c ∧ c ≤ 16384) (ha : 16384 ≤ a ∧ a ≤ 65536) (hb : 16384 ≤ b ∧ b ≤ 65536) (hs : 0 ≤ s ∧ s ≤ 268435456) (hd : -16385 ≤ d ∧ d ≤ 16385) (hf : -16385 ≤ f ∧ f ≤ 16385) :
    sat (atF d a b + atF f (IntKind.i64.wrap (IntKind.i64.wrap ((IntKind.i64.wrap (c * a)).tdiv b) - isq (IntKind.u64.wrap (IntKind.i64.wrap (268435456 - s))))) 16384) = d * a / b + f * (c * a / b - isq (268435456 - s)) / 16384 := by
  obtain ⟨h1, h2, h3, h4, h5, h6, h7⟩ := bnd_r hc ha hb hs hd hf
  rw [wrap_i64_id (n := c * a) (by omega), Int.tdiv_eq_ediv_of_nonneg h1.1, wrap_i64_id (n := c * a / b) (by omega), wrap_i64_id (n := 268435456 - s) (by omega), wrap_u64_id (n := 268435456 - s) (by omega),
    wrap_i64_id (n := c * a / b - isq (268435456 - s)) (by omega)]
  unfold atF
  rw [if_pos (by omega), if_pos (by omega), sat_id (n := d * a / b) (by omega), sat_id (n := f * (c * a / b - isq (268435456 - s)) / 16384) (by omega), sat_id (by omega)]

/-- One coordinate, as the document's answer reckons it. -/
theorem bnd_ref {c a b s d f : Int} (hc : 0 ≤ c ∧ c ≤ 16384) (ha : 16384 ≤ a ∧ a ≤ 65536) (hb : 16384 ≤ b ∧ b ≤ 65536) (hs : 0 ≤ s ∧ s ≤ 268435456) (hd : -16385 ≤ d ∧ d ≤ 16385) (hf : -16385 ≤ f ∧ f ≤ 16385) :
    IntKind.i64.wrap ((if 1 ≤ b then IntKind.i64.wrap (d * a) / b else 0) + if (1 : Int) ≤ 16384 then IntKind.i64.wrap (f * IntKind.i64.wrap ((if 1 ≤ b then IntKind.i64.wrap (c * a) / b else 0) - isq (IntKind.u64.wrap (IntKind.i64.wrap (268435456 - s))))) / 16384 else 0)
      = d * a / b + f * (c * a / b - isq (268435456 - s)) / 16384 := by
  obtain ⟨h1, h2, h3, h4, h5, h6, h7⟩ := bnd_r hc ha hb hs hd hf
  rw [if_pos (by omega), if_pos (by omega), if_pos (by omega), wrap_i64_id (n := c * a) (by omega), wrap_i64_id (n := d * a) (by omega), wrap_i64_id (n := 268435456 - s) (by omega), wrap_u64_id (n := 268435456 - s) (by omega),
    wrap_i64_id (n := c * a / b - isq (268435456 - s)) (by omega), wrap_i64_id (n := f * (c * a / b - isq (268435456 - s))) (by omega), wrap_i64_id (by omega)]

theorem facC_r {c nx ny nz dx dy dz m : Int} (h : -m ≤ c ∧ c ≤ m) : -m ≤ facC c nx ny nz dx dy dz ∧ facC c nx ny nz dx dy dz ≤ m := by unfold facC; omega

end Go.Sky

/- Trees of functions, and what they come to. -/
set_option linter.unusedSimpArgs false
set_option linter.unusedVariables false
namespace Go.Sky
set_option maxRecDepth 100000

/-! num.Div -/
def tr_num_Div (a : Int) (b : Int) : Tr AV := Tr.node (decide (b < 1)) (Tr.leaf (AV.int IntKind.i64 false 0)) (Tr.node (decide (a ≥ 0)) (Tr.node (decide (b = 0)) Tr.bad (Tr.leaf (AV.int IntKind.i64 false (IntKind.i64.wrap (a.tdiv b))))) (Tr.node (decide (b = 0)) Tr.bad (Tr.leaf (AV.int IntKind.i64 false (bits BinOp.xor IntKind.i64 (-1) (IntKind.i64.wrap ((bits BinOp.xor IntKind.i64 (-1) a).tdiv b)))))))
theorem run_num_Div (a : Int) (b : Int) (h_a : InR .i64 a) (h_b : InR .i64 b) : (tr_num_Div a b).run = some (i6 (dv a b)) := by
  unfold tr_num_Div
  have ha := inR_i64.1 h_a
  have hb := inR_i64.1 h_b
  
  unfold dv
  by_cases c0 : b < 1
  · rw [if_neg (by omega)]; exact run_t (decide_eq_true c0)
  refine (run_f (decide_eq_false c0)).trans ?_
  rw [if_pos (by omega)]
  by_cases c1 : a ≥ 0
  · refine (run_t (decide_eq_true c1)).trans ((run_f (decide_eq_false (by omega))).trans ?_)
    have d0 : 0 ≤ a / b := Int.ediv_nonneg c1 (by omega)
    have d1 : a / b ≤ a := Int.ediv_le_self _ (by omega)
    rw [Int.tdiv_eq_ediv_of_nonneg c1, wrap_i64_id (by omega)]; rfl
  · refine (run_f (decide_eq_false c1)).trans ((run_f (decide_eq_false (by omega))).trans ?_)
    have e := ediv_not a (d := b) (by omega)
    have d0 : 0 ≤ (-a - 1) / b := Int.ediv_nonneg (by omega) (by omega)
    have d1 : (-a - 1) / b ≤ -a - 1 := Int.ediv_le_self _ (by omega)
    rw [not_i64 (x := a) (by omega), show -1 - a = -a - 1 by omega, Int.tdiv_eq_ediv_of_nonneg (by omega), wrap_i64_id (by omega), not_i64 (by omega), e, show -1 - (-(a / b) - 1) = a / b by omega]; rfl

/-! num.Hold -/
def tr_num_Hold (n : Int) (low : Int) (high : Int) : Tr AV := Tr.node (decide (n < low)) (Tr.leaf (AV.int IntKind.i64 false low)) (Tr.node (decide (n > high)) (Tr.leaf (AV.int IntKind.i64 false high)) (Tr.leaf (AV.int IntKind.i64 false n)))
theorem run_num_Hold (n : Int) (low : Int) (high : Int) (h_n : InR .i64 n) (h_low : InR .i64 low) (h_high : InR .i64 high) : (tr_num_Hold n low high).run = some (i6 (hold n low high)) := by
  unfold tr_num_Hold
  simp only [Tr.run, decide_eq_true_eq, hold, i6]
  (repeat' split) <;> rfl

/-! basis.Facing -/
def tr_basis_Facing (n_x : Int) (n_y : Int) (n_z : Int) (d_x : Int) (d_y : Int) (d_z : Int) : Tr AV := Tr.node (!nearB d_x d_y d_z) (Tr.leaf (AV.agg [AV.int IntKind.i64 false 0, AV.int IntKind.i64 false 0, AV.int IntKind.i64 false 0])) (Tr.node (!nearB n_x n_y n_z) (Tr.leaf (AV.agg [AV.int IntKind.i64 false 0, AV.int IntKind.i64 false 0, AV.int IntKind.i64 false 0])) (Tr.node (decide (dotN n_x n_y n_z d_x d_y d_z > 0)) (Tr.leaf (AV.agg [AV.int IntKind.i64 false (IntKind.i64.wrap (n_x * -1)), AV.int IntKind.i64 false (IntKind.i64.wrap (n_y * -1)), AV.int IntKind.i64 false (IntKind.i64.wrap (n_z * -1))])) (Tr.leaf (AV.agg [AV.int IntKind.i64 false n_x, AV.int IntKind.i64 false n_y, AV.int IntKind.i64 false n_z]))))
theorem run_basis_Facing (n_x : Int) (n_y : Int) (n_z : Int) (d_x : Int) (d_y : Int) (d_z : Int) (h_n_x : InR .i64 n_x) (h_n_y : InR .i64 n_y) (h_n_z : InR .i64 n_z) (h_d_x : InR .i64 d_x) (h_d_y : InR .i64 d_y) (h_d_z : InR .i64 d_z) : (tr_basis_Facing n_x n_y n_z d_x d_y d_z).run = some (v3 (facC n_x n_x n_y n_z d_x d_y d_z) (facC n_y n_x n_y n_z d_x d_y d_z) (facC n_z n_x n_y n_z d_x d_y d_z)) := by
  unfold tr_basis_Facing
  have hn_x := inR_i64.1 h_n_x
  have hn_y := inR_i64.1 h_n_y
  have hn_z := inR_i64.1 h_n_z
  
  simp only [Tr.run, v3, i6, Bool.not_eq_true', decide_eq_true_eq]
  cases hd : nearB d_x d_y d_z
  · simp [facC, hd]
  cases hn : nearB n_x n_y n_z
  · simp [facC, hd, hn]
  have r := near_r hn
  simp only [facC_eq hn hd, Bool.true_eq_false, if_false]
  rw [show dotN n_x n_y n_z d_x d_y d_z = dotI n_x n_y n_z d_x d_y d_z by unfold dotN; rw [if_pos ⟨hn, hd⟩]]
  by_cases c : dotI n_x n_y n_z d_x d_y d_z > 0
  · simp only [if_pos c]
    rw [wrap_i64_id (n := n_x * -1) (by omega), wrap_i64_id (n := n_y * -1) (by omega), wrap_i64_id (n := n_z * -1) (by omega)]
    congr 4 <;> (try congr 1) <;> (try congr 1) <;> omega
  · simp only [if_neg c]

/-! skylightref07.Facing -/
def tr_skylightref07_Facing (n_x : Int) (n_y : Int) (n_z : Int) (d_x : Int) (d_y : Int) (d_z : Int) : Tr AV := Tr.node (!nearB d_x d_y d_z) (Tr.leaf (AV.agg [AV.int IntKind.i64 false 0, AV.int IntKind.i64 false 0, AV.int IntKind.i64 false 0])) (Tr.node (!nearB n_x n_y n_z) (Tr.leaf (AV.agg [AV.int IntKind.i64 false 0, AV.int IntKind.i64 false 0, AV.int IntKind.i64 false 0])) (Tr.node (decide (dotN n_x n_y n_z d_x d_y d_z > 0)) (Tr.leaf (AV.agg [AV.int IntKind.i64 false (IntKind.i64.wrap (0 - n_x)), AV.int IntKind.i64 false (IntKind.i64.wrap (0 - n_y)), AV.int IntKind.i64 false (IntKind.i64.wrap (0 - n_z))])) (Tr.leaf (AV.agg [AV.int IntKind.i64 false n_x, AV.int IntKind.i64 false n_y, AV.int IntKind.i64 false n_z]))))
theorem run_skylightref07_Facing (n_x : Int) (n_y : Int) (n_z : Int) (d_x : Int) (d_y : Int) (d_z : Int) (h_n_x : InR .i64 n_x) (h_n_y : InR .i64 n_y) (h_n_z : InR .i64 n_z) (h_d_x : InR .i64 d_x) (h_d_y : InR .i64 d_y) (h_d_z : InR .i64 d_z) : (tr_skylightref07_Facing n_x n_y n_z d_x d_y d_z).run = some (v3 (facC n_x n_x n_y n_z d_x d_y d_z) (facC n_y n_x n_y n_z d_x d_y d_z) (facC n_z n_x n_y n_z d_x d_y d_z)) := by
  unfold tr_skylightref07_Facing
  have hn_x := inR_i64.1 h_n_x
  have hn_y := inR_i64.1 h_n_y
  have hn_z := inR_i64.1 h_n_z
  
  simp only [Tr.run, v3, i6, Bool.not_eq_true', decide_eq_true_eq]
  cases hd : nearB d_x d_y d_z
  · simp [facC, hd]
  cases hn : nearB n_x n_y n_z
  · simp [facC, hd, hn]
  have r := near_r hn
  simp only [facC_eq hn hd, Bool.true_eq_false, if_false]
  rw [show dotN n_x n_y n_z d_x d_y d_z = dotI n_x n_y n_z d_x d_y d_z by unfold dotN; rw [if_pos ⟨hn, hd⟩]]
  by_cases c : dotI n_x n_y n_z d_x d_y d_z > 0
  · simp only [if_pos c]
    rw [wrap_i64_id (n := 0 - n_x) (by omega), wrap_i64_id (n := 0 - n_y) (by omega), wrap_i64_id (n := 0 - n_z) (by omega)]
    congr 4 <;> (try congr 1) <;> (try congr 1) <;> omega
  · simp only [if_neg c]

/-! bend.Back -/
def tr_bend_Back (c : Int) (n : Int) : Tr AV := Tr.node (decide (0 ≤ c)) (Tr.node (!decide (c ≤ 16384)) (Tr.leaf (AV.int IntKind.i64 false 0)) (Tr.node (decide (n < 16384)) (Tr.leaf (AV.int IntKind.i64 false 0)) (Tr.node (decide (n > 65536)) (Tr.leaf (AV.int IntKind.i64 false 0)) (Tr.node (decide (IntKind.i64.wrap (IntKind.i64.wrap (n + 16384) * IntKind.i64.wrap (n + 16384)) = 0)) Tr.bad (Tr.leaf (AV.int IntKind.i64 false (IntKind.i64.wrap (IntKind.i64.wrap ((IntKind.i64.wrap (IntKind.i64.wrap (IntKind.i64.wrap (n - 16384) * IntKind.i64.wrap (n - 16384)) * 65536)).tdiv (IntKind.i64.wrap (IntKind.i64.wrap (n + 16384) * IntKind.i64.wrap (n + 16384)))) + dv (IntKind.i64.wrap (IntKind.i64.wrap (65536 - IntKind.i64.wrap ((IntKind.i64.wrap (IntKind.i64.wrap (IntKind.i64.wrap (n - 16384) * IntKind.i64.wrap (n - 16384)) * 65536)).tdiv (IntKind.i64.wrap (IntKind.i64.wrap (n + 16384) * IntKind.i64.wrap (n + 16384))))) * dv (IntKind.i64.wrap (dv (IntKind.i64.wrap (dv (IntKind.i64.wrap (IntKind.i64.wrap (16384 - c) * IntKind.i64.wrap (16384 - c))) 16384 * dv (IntKind.i64.wrap (IntKind.i64.wrap (16384 - c) * IntKind.i64.wrap (16384 - c))) 16384)) 16384 * IntKind.i64.wrap (16384 - c))) 16384)) 16384)))))))) (Tr.leaf (AV.int IntKind.i64 false 0))
theorem run_bend_Back (c : Int) (n : Int) (h_c : InR .i64 c) (h_n : InR .i64 n) : (tr_bend_Back c n).run = some (i6 (backN c n)) := by
  unfold tr_bend_Back
  by_cases h : (0 ≤ c ∧ c ≤ 16384) ∧ (16384 ≤ n ∧ n ≤ 65536)
  · obtain ⟨hc, hn⟩ := h
  
    obtain ⟨a1, a2, a3, a4⟩ := backA_r hn
    obtain ⟨m1, m2, m3, m4, m5⟩ := backM_r hc
    have p := backP_r hc hn
    have eA : IntKind.i64.wrap (IntKind.i64.wrap (IntKind.i64.wrap (n - 16384) * IntKind.i64.wrap (n - 16384)) * 65536) = (n - 16384) * (n - 16384) * 65536 := by
      rw [wrap_i64_id (n := n - 16384) (by omega), wrap_i64_id (n := (n - 16384) * (n - 16384)) (by omega), wrap_i64_id (by omega)]
    have eB : IntKind.i64.wrap (IntKind.i64.wrap (n + 16384) * IntKind.i64.wrap (n + 16384)) = (n + 16384) * (n + 16384) := by
      rw [wrap_i64_id (n := n + 16384) (by omega), wrap_i64_id (by omega)]
    have e0 : IntKind.i64.wrap (16384 - c) = 16384 - c := wrap_i64_id (by omega)
    have e1 : IntKind.i64.wrap ((16384 - c) * (16384 - c)) = (16384 - c) * (16384 - c) := wrap_i64_id (by omega)
    have e2 : IntKind.i64.wrap ((16384 - c) * (16384 - c) / 16384 * ((16384 - c) * (16384 - c) / 16384)) = (16384 - c) * (16384 - c) / 16384 * ((16384 - c) * (16384 - c) / 16384) := wrap_i64_id (by omega)
    have e3 : IntKind.i64.wrap ((16384 - c) * (16384 - c) / 16384 * ((16384 - c) * (16384 - c) / 16384) / 16384 * (16384 - c)) = (16384 - c) * (16384 - c) / 16384 * ((16384 - c) * (16384 - c) / 16384) / 16384 * (16384 - c) := wrap_i64_id (by omega)
  
    simp only [eA, eB, e0, e1, dv_16384, e2, e3]
    refine (run_t (decide_eq_true (by omega))).trans ((run_f (by rw [decide_eq_true (by omega)]; rfl)).trans ((run_f (decide_eq_false (by omega))).trans ((run_f (decide_eq_false (by omega))).trans ((run_f (decide_eq_false (by omega))).trans (?_)))))
    rw [Int.tdiv_eq_ediv_of_nonneg (by omega), show (n - 16384) * (n - 16384) * 65536 / ((n + 16384) * (n + 16384)) = backA n from rfl, wrap_i64_id (n := backA n) (by omega), wrap_i64_id (n := 65536 - backA n) (by omega),
      show (16384 - c) * (16384 - c) / 16384 * ((16384 - c) * (16384 - c) / 16384) / 16384 * (16384 - c) / 16384 = backM c from rfl, wrap_i64_id (n := (65536 - backA n) * backM c) (by omega), wrap_i64_id (by omega), backN_eq hc hn]
    rfl
  · rw [show backN c n = 0 by unfold backN cosB idxB; rw [if_neg]; simp only [decide_eq_true_eq]; exact h]
    repeat (first | (refine run_guard (fun _ => rfl) (fun _ => ?_)) | (refine run_guard (fun _ => ?_) (fun _ => rfl)))
    exfalso
    simp only [decide_eq_true_eq, decide_eq_false_iff_not, Bool.not_eq_true', Bool.not_eq_false', mx_gt, mx_le, mn_lt, mn_ge] at *
    omega

/-! bend.Cos -/
def tr_bend_Cos (n_x : Int) (n_y : Int) (n_z : Int) (d_x : Int) (d_y : Int) (d_z : Int) : Tr AV := Tr.node (decide (mm true (mm true n_x n_y) n_z > 16385)) (Tr.leaf (AV.int IntKind.i64 false 0)) (Tr.node (decide (mm false (mm false n_x n_y) n_z < -16385)) (Tr.leaf (AV.int IntKind.i64 false 0)) (Tr.node (decide (mm true (mm true d_x d_y) d_z > 16385)) (Tr.leaf (AV.int IntKind.i64 false 0)) (Tr.node (decide (mm false (mm false d_x d_y) d_z < -16385)) (Tr.leaf (AV.int IntKind.i64 false 0)) (Tr.leaf (AV.int IntKind.i64 false (hold (dv (IntKind.i64.wrap (0 - dotN (facC n_x n_x n_y n_z d_x d_y d_z) (facC n_y n_x n_y n_z d_x d_y d_z) (facC n_z n_x n_y n_z d_x d_y d_z) d_x d_y d_z)) 16384) 0 16384))))))
theorem run_bend_Cos (n_x : Int) (n_y : Int) (n_z : Int) (d_x : Int) (d_y : Int) (d_z : Int) (h_n_x : InR .i64 n_x) (h_n_y : InR .i64 n_y) (h_n_z : InR .i64 n_z) (h_d_x : InR .i64 d_x) (h_d_y : InR .i64 d_y) (h_d_z : InR .i64 d_z) : (tr_bend_Cos n_x n_y n_z d_x d_y d_z).run = some (i6 (cosN n_x n_y n_z d_x d_y d_z)) := by
  unfold tr_bend_Cos
  by_cases h : ((-16385 ≤ n_x ∧ n_x ≤ 16385) ∧ (-16385 ≤ n_y ∧ n_y ≤ 16385) ∧ (-16385 ≤ n_z ∧ n_z ≤ 16385)) ∧ ((-16385 ≤ d_x ∧ d_x ≤ 16385) ∧ (-16385 ≤ d_y ∧ d_y ≤ 16385) ∧ (-16385 ≤ d_z ∧ d_z ≤ 16385))
  · obtain ⟨hn, hd⟩ := h
    have sd : shortB d_x d_y d_z = true := decide_eq_true hd
    have sn : shortB n_x n_y n_z = true := decide_eq_true hn
    rw [cos_all (short_near sn) (short_near sd), cosN_eq sn sd]
    refine (run_f (decide_eq_false (by simp only [mx_gt, mx_le, mn_lt, mn_ge]; omega))).trans ((run_f (decide_eq_false (by simp only [mx_gt, mx_le, mn_lt, mn_ge]; omega))).trans ((run_f (decide_eq_false (by simp only [mx_gt, mx_le, mn_lt, mn_ge]; omega))).trans ((run_f (decide_eq_false (by simp only [mx_gt, mx_le, mn_lt, mn_ge]; omega))).trans (?_))))
    rfl
  · rw [show cosN n_x n_y n_z d_x d_y d_z = 0 by unfold cosN shortB; rw [if_neg]; simp only [decide_eq_true_eq]; exact h]
    repeat (first | (refine run_guard (fun _ => rfl) (fun _ => ?_)) | (refine run_guard (fun _ => ?_) (fun _ => rfl)))
    exfalso
    simp only [decide_eq_true_eq, decide_eq_false_iff_not, Bool.not_eq_true', Bool.not_eq_false', mx_gt, mx_le, mn_lt, mn_ge] at *
    omega

/-! bend.Sine -/
def tr_bend_Sine (c : Int) (a : Int) (b : Int) : Tr AV := Tr.node (decide (0 ≤ c)) (Tr.node (!decide (c ≤ 16384)) (Tr.leaf (AV.int IntKind.i64 false 0)) (Tr.node (decide (a < 16384)) (Tr.leaf (AV.int IntKind.i64 false 0)) (Tr.node (decide (a > 65536)) (Tr.leaf (AV.int IntKind.i64 false 0)) (Tr.node (decide (b < 16384)) (Tr.leaf (AV.int IntKind.i64 false 0)) (Tr.node (decide (b > 65536)) (Tr.leaf (AV.int IntKind.i64 false 0)) (Tr.node (decide (IntKind.i64.wrap (b * b) = 0)) Tr.bad (Tr.leaf (AV.int IntKind.i64 false (IntKind.i64.wrap ((IntKind.i64.wrap (IntKind.i64.wrap (IntKind.i64.wrap (268435456 - IntKind.i64.wrap (c * c)) * a) * a)).tdiv (IntKind.i64.wrap (b * b)))))))))))) (Tr.leaf (AV.int IntKind.i64 false 0))
theorem run_bend_Sine (c : Int) (a : Int) (b : Int) (h_c : InR .i64 c) (h_a : InR .i64 a) (h_b : InR .i64 b) : (tr_bend_Sine c a b).run = some (i6 (sineN c a b)) := by
  unfold tr_bend_Sine
  by_cases h : (0 ≤ c ∧ c ≤ 16384) ∧ (16384 ≤ a ∧ a ≤ 65536) ∧ (16384 ≤ b ∧ b ≤ 65536)
  · obtain ⟨hc, ha, hb⟩ := h
    obtain ⟨s1, s2, s3, s4, s5⟩ := sine_r hc ha hb
    have s6 : (268435456 - c * c) * a * a / (b * b) ≤ (268435456 - c * c) * a * a := Int.ediv_le_self _ (by omega)
    rw [wrap_i64_id (n := b * b) (by omega), wrap_i64_id (n := c * c) (by omega), wrap_i64_id (n := 268435456 - c * c) (by omega), wrap_i64_id (n := (268435456 - c * c) * a) (by omega), wrap_i64_id (n := (268435456 - c * c) * a * a) (by omega),
      Int.tdiv_eq_ediv_of_nonneg (by omega), wrap_i64_id (by omega), sineN_eq hc ha hb]
    refine (run_t (decide_eq_true (by omega))).trans ((run_f (by rw [decide_eq_true (by omega)]; rfl)).trans ((run_f (decide_eq_false (by omega))).trans ((run_f (decide_eq_false (by omega))).trans ((run_f (decide_eq_false (by omega))).trans ((run_f (decide_eq_false (by omega))).trans ((run_f (decide_eq_false (by omega))).trans (?_)))))))
    rfl
  · rw [show sineN c a b = 0 by unfold sineN cosB idxB; rw [if_neg]; simp only [decide_eq_true_eq]; exact h]
    repeat (first | (refine run_guard (fun _ => rfl) (fun _ => ?_)) | (refine run_guard (fun _ => ?_) (fun _ => rfl)))
    exfalso
    simp only [decide_eq_true_eq, decide_eq_false_iff_not, Bool.not_eq_true', Bool.not_eq_false', mx_gt, mx_le, mn_lt, mn_ge] at *
    omega

/-! bend.Bend -/
def tr_bend_Bend (d_x : Int) (d_y : Int) (d_z : Int) (n_x : Int) (n_y : Int) (n_z : Int) (a : Int) (b : Int) : Tr AV := Tr.node (decide (mm true (mm true d_x d_y) d_z > 16385)) (Tr.leaf (AV.tuple [AV.agg [AV.int IntKind.i64 false 0, AV.int IntKind.i64 false 0, AV.int IntKind.i64 false 0], AV.bool false false])) (Tr.node (decide (mm false (mm false d_x d_y) d_z < -16385)) (Tr.leaf (AV.tuple [AV.agg [AV.int IntKind.i64 false 0, AV.int IntKind.i64 false 0, AV.int IntKind.i64 false 0], AV.bool false false])) (Tr.node (decide (mm true (mm true n_x n_y) n_z > 16385)) (Tr.leaf (AV.tuple [AV.agg [AV.int IntKind.i64 false 0, AV.int IntKind.i64 false 0, AV.int IntKind.i64 false 0], AV.bool false false])) (Tr.node (decide (mm false (mm false n_x n_y) n_z < -16385)) (Tr.leaf (AV.tuple [AV.agg [AV.int IntKind.i64 false 0, AV.int IntKind.i64 false 0, AV.int IntKind.i64 false 0], AV.bool false false])) (Tr.node (decide (a < 16384)) (Tr.leaf (AV.tuple [AV.agg [AV.int IntKind.i64 false 0, AV.int IntKind.i64 false 0, AV.int IntKind.i64 false 0], AV.bool false false])) (Tr.node (decide (a > 65536)) (Tr.leaf (AV.tuple [AV.agg [AV.int IntKind.i64 false 0, AV.int IntKind.i64 false 0, AV.int IntKind.i64 false 0], AV.bool false false])) (Tr.node (decide (b < 16384)) (Tr.leaf (AV.tuple [AV.agg [AV.int IntKind.i64 false 0, AV.int IntKind.i64 false 0, AV.int IntKind.i64 false 0], AV.bool false false])) (Tr.node (decide (b > 65536)) (Tr.leaf (AV.tuple [AV.agg [AV.int IntKind.i64 false 0, AV.int IntKind.i64 false 0, AV.int IntKind.i64 false 0], AV.bool false false])) (Tr.node (decide (sineN (hold (dv (IntKind.i64.wrap (0 - dotN (facC n_x n_x n_y n_z d_x d_y d_z) (facC n_y n_x n_y n_z d_x d_y d_z) (facC n_z n_x n_y n_z d_x d_y d_z) d_x d_y d_z)) 16384) 0 16384) a b > 268435456)) (Tr.leaf (AV.tuple [AV.agg [AV.int IntKind.i64 false 0, AV.int IntKind.i64 false 0, AV.int IntKind.i64 false 0], AV.bool false false])) (Tr.node (decide (b = 0)) Tr.bad (Tr.leaf (AV.tuple [AV.agg [AV.int IntKind.i64 false (unitC (sat (atF d_x a b + atF (facC n_x n_x n_y n_z d_x d_y d_z) (IntKind.i64.wrap (IntKind.i64.wrap ((IntKind.i64.wrap (hold (dv (IntKind.i64.wrap (0 - dotN (facC n_x n_x n_y n_z d_x d_y d_z) (facC n_y n_x n_y n_z d_x d_y d_z) (facC n_z n_x n_y n_z d_x d_y d_z) d_x d_y d_z)) 16384) 0 16384 * a)).tdiv b) - isq (IntKind.u64.wrap (IntKind.i64.wrap (268435456 - sineN (hold (dv (IntKind.i64.wrap (0 - dotN (facC n_x n_x n_y n_z d_x d_y d_z) (facC n_y n_x n_y n_z d_x d_y d_z) (facC n_z n_x n_y n_z d_x d_y d_z) d_x d_y d_z)) 16384) 0 16384) a b))))) 16384)) (sat (atF d_y a b + atF (facC n_y n_x n_y n_z d_x d_y d_z) (IntKind.i64.wrap (IntKind.i64.wrap ((IntKind.i64.wrap (hold (dv (IntKind.i64.wrap (0 - dotN (facC n_x n_x n_y n_z d_x d_y d_z) (facC n_y n_x n_y n_z d_x d_y d_z) (facC n_z n_x n_y n_z d_x d_y d_z) d_x d_y d_z)) 16384) 0 16384 * a)).tdiv b) - isq (IntKind.u64.wrap (IntKind.i64.wrap (268435456 - sineN (hold (dv (IntKind.i64.wrap (0 - dotN (facC n_x n_x n_y n_z d_x d_y d_z) (facC n_y n_x n_y n_z d_x d_y d_z) (facC n_z n_x n_y n_z d_x d_y d_z) d_x d_y d_z)) 16384) 0 16384) a b))))) 16384)) (sat (atF d_z a b + atF (facC n_z n_x n_y n_z d_x d_y d_z) (IntKind.i64.wrap (IntKind.i64.wrap ((IntKind.i64.wrap (hold (dv (IntKind.i64.wrap (0 - dotN (facC n_x n_x n_y n_z d_x d_y d_z) (facC n_y n_x n_y n_z d_x d_y d_z) (facC n_z n_x n_y n_z d_x d_y d_z) d_x d_y d_z)) 16384) 0 16384 * a)).tdiv b) - isq (IntKind.u64.wrap (IntKind.i64.wrap (268435456 - sineN (hold (dv (IntKind.i64.wrap (0 - dotN (facC n_x n_x n_y n_z d_x d_y d_z) (facC n_y n_x n_y n_z d_x d_y d_z) (facC n_z n_x n_y n_z d_x d_y d_z) d_x d_y d_z)) 16384) 0 16384) a b))))) 16384)) (sat (atF d_x a b + atF (facC n_x n_x n_y n_z d_x d_y d_z) (IntKind.i64.wrap (IntKind.i64.wrap ((IntKind.i64.wrap (hold (dv (IntKind.i64.wrap (0 - dotN (facC n_x n_x n_y n_z d_x d_y d_z) (facC n_y n_x n_y n_z d_x d_y d_z) (facC n_z n_x n_y n_z d_x d_y d_z) d_x d_y d_z)) 16384) 0 16384 * a)).tdiv b) - isq (IntKind.u64.wrap (IntKind.i64.wrap (268435456 - sineN (hold (dv (IntKind.i64.wrap (0 - dotN (facC n_x n_x n_y n_z d_x d_y d_z) (facC n_y n_x n_y n_z d_x d_y d_z) (facC n_z n_x n_y n_z d_x d_y d_z) d_x d_y d_z)) 16384) 0 16384) a b))))) 16384))), AV.int IntKind.i64 false (unitC (sat (atF d_x a b + atF (facC n_x n_x n_y n_z d_x d_y d_z) (IntKind.i64.wrap (IntKind.i64.wrap ((IntKind.i64.wrap (hold (dv (IntKind.i64.wrap (0 - dotN (facC n_x n_x n_y n_z d_x d_y d_z) (facC n_y n_x n_y n_z d_x d_y d_z) (facC n_z n_x n_y n_z d_x d_y d_z) d_x d_y d_z)) 16384) 0 16384 * a)).tdiv b) - isq (IntKind.u64.wrap (IntKind.i64.wrap (268435456 - sineN (hold (dv (IntKind.i64.wrap (0 - dotN (facC n_x n_x n_y n_z d_x d_y d_z) (facC n_y n_x n_y n_z d_x d_y d_z) (facC n_z n_x n_y n_z d_x d_y d_z) d_x d_y d_z)) 16384) 0 16384) a b))))) 16384)) (sat (atF d_y a b + atF (facC n_y n_x n_y n_z d_x d_y d_z) (IntKind.i64.wrap (IntKind.i64.wrap ((IntKind.i64.wrap (hold (dv (IntKind.i64.wrap (0 - dotN (facC n_x n_x n_y n_z d_x d_y d_z) (facC n_y n_x n_y n_z d_x d_y d_z) (facC n_z n_x n_y n_z d_x d_y d_z) d_x d_y d_z)) 16384) 0 16384 * a)).tdiv b) - isq (IntKind.u64.wrap (IntKind.i64.wrap (268435456 - sineN (hold (dv (IntKind.i64.wrap (0 - dotN (facC n_x n_x n_y n_z d_x d_y d_z) (facC n_y n_x n_y n_z d_x d_y d_z) (facC n_z n_x n_y n_z d_x d_y d_z) d_x d_y d_z)) 16384) 0 16384) a b))))) 16384)) (sat (atF d_z a b + atF (facC n_z n_x n_y n_z d_x d_y d_z) (IntKind.i64.wrap (IntKind.i64.wrap ((IntKind.i64.wrap (hold (dv (IntKind.i64.wrap (0 - dotN (facC n_x n_x n_y n_z d_x d_y d_z) (facC n_y n_x n_y n_z d_x d_y d_z) (facC n_z n_x n_y n_z d_x d_y d_z) d_x d_y d_z)) 16384) 0 16384 * a)).tdiv b) - isq (IntKind.u64.wrap (IntKind.i64.wrap (268435456 - sineN (hold (dv (IntKind.i64.wrap (0 - dotN (facC n_x n_x n_y n_z d_x d_y d_z) (facC n_y n_x n_y n_z d_x d_y d_z) (facC n_z n_x n_y n_z d_x d_y d_z) d_x d_y d_z)) 16384) 0 16384) a b))))) 16384)) (sat (atF d_y a b + atF (facC n_y n_x n_y n_z d_x d_y d_z) (IntKind.i64.wrap (IntKind.i64.wrap ((IntKind.i64.wrap (hold (dv (IntKind.i64.wrap (0 - dotN (facC n_x n_x n_y n_z d_x d_y d_z) (facC n_y n_x n_y n_z d_x d_y d_z) (facC n_z n_x n_y n_z d_x d_y d_z) d_x d_y d_z)) 16384) 0 16384 * a)).tdiv b) - isq (IntKind.u64.wrap (IntKind.i64.wrap (268435456 - sineN (hold (dv (IntKind.i64.wrap (0 - dotN (facC n_x n_x n_y n_z d_x d_y d_z) (facC n_y n_x n_y n_z d_x d_y d_z) (facC n_z n_x n_y n_z d_x d_y d_z) d_x d_y d_z)) 16384) 0 16384) a b))))) 16384))), AV.int IntKind.i64 false (unitC (sat (atF d_x a b + atF (facC n_x n_x n_y n_z d_x d_y d_z) (IntKind.i64.wrap (IntKind.i64.wrap ((IntKind.i64.wrap (hold (dv (IntKind.i64.wrap (0 - dotN (facC n_x n_x n_y n_z d_x d_y d_z) (facC n_y n_x n_y n_z d_x d_y d_z) (facC n_z n_x n_y n_z d_x d_y d_z) d_x d_y d_z)) 16384) 0 16384 * a)).tdiv b) - isq (IntKind.u64.wrap (IntKind.i64.wrap (268435456 - sineN (hold (dv (IntKind.i64.wrap (0 - dotN (facC n_x n_x n_y n_z d_x d_y d_z) (facC n_y n_x n_y n_z d_x d_y d_z) (facC n_z n_x n_y n_z d_x d_y d_z) d_x d_y d_z)) 16384) 0 16384) a b))))) 16384)) (sat (atF d_y a b + atF (facC n_y n_x n_y n_z d_x d_y d_z) (IntKind.i64.wrap (IntKind.i64.wrap ((IntKind.i64.wrap (hold (dv (IntKind.i64.wrap (0 - dotN (facC n_x n_x n_y n_z d_x d_y d_z) (facC n_y n_x n_y n_z d_x d_y d_z) (facC n_z n_x n_y n_z d_x d_y d_z) d_x d_y d_z)) 16384) 0 16384 * a)).tdiv b) - isq (IntKind.u64.wrap (IntKind.i64.wrap (268435456 - sineN (hold (dv (IntKind.i64.wrap (0 - dotN (facC n_x n_x n_y n_z d_x d_y d_z) (facC n_y n_x n_y n_z d_x d_y d_z) (facC n_z n_x n_y n_z d_x d_y d_z) d_x d_y d_z)) 16384) 0 16384) a b))))) 16384)) (sat (atF d_z a b + atF (facC n_z n_x n_y n_z d_x d_y d_z) (IntKind.i64.wrap (IntKind.i64.wrap ((IntKind.i64.wrap (hold (dv (IntKind.i64.wrap (0 - dotN (facC n_x n_x n_y n_z d_x d_y d_z) (facC n_y n_x n_y n_z d_x d_y d_z) (facC n_z n_x n_y n_z d_x d_y d_z) d_x d_y d_z)) 16384) 0 16384 * a)).tdiv b) - isq (IntKind.u64.wrap (IntKind.i64.wrap (268435456 - sineN (hold (dv (IntKind.i64.wrap (0 - dotN (facC n_x n_x n_y n_z d_x d_y d_z) (facC n_y n_x n_y n_z d_x d_y d_z) (facC n_z n_x n_y n_z d_x d_y d_z) d_x d_y d_z)) 16384) 0 16384) a b))))) 16384)) (sat (atF d_z a b + atF (facC n_z n_x n_y n_z d_x d_y d_z) (IntKind.i64.wrap (IntKind.i64.wrap ((IntKind.i64.wrap (hold (dv (IntKind.i64.wrap (0 - dotN (facC n_x n_x n_y n_z d_x d_y d_z) (facC n_y n_x n_y n_z d_x d_y d_z) (facC n_z n_x n_y n_z d_x d_y d_z) d_x d_y d_z)) 16384) 0 16384 * a)).tdiv b) - isq (IntKind.u64.wrap (IntKind.i64.wrap (268435456 - sineN (hold (dv (IntKind.i64.wrap (0 - dotN (facC n_x n_x n_y n_z d_x d_y d_z) (facC n_y n_x n_y n_z d_x d_y d_z) (facC n_z n_x n_y n_z d_x d_y d_z) d_x d_y d_z)) 16384) 0 16384) a b))))) 16384)))], AV.bool false (okU (sat (atF d_x a b + atF (facC n_x n_x n_y n_z d_x d_y d_z) (IntKind.i64.wrap (IntKind.i64.wrap ((IntKind.i64.wrap (hold (dv (IntKind.i64.wrap (0 - dotN (facC n_x n_x n_y n_z d_x d_y d_z) (facC n_y n_x n_y n_z d_x d_y d_z) (facC n_z n_x n_y n_z d_x d_y d_z) d_x d_y d_z)) 16384) 0 16384 * a)).tdiv b) - isq (IntKind.u64.wrap (IntKind.i64.wrap (268435456 - sineN (hold (dv (IntKind.i64.wrap (0 - dotN (facC n_x n_x n_y n_z d_x d_y d_z) (facC n_y n_x n_y n_z d_x d_y d_z) (facC n_z n_x n_y n_z d_x d_y d_z) d_x d_y d_z)) 16384) 0 16384) a b))))) 16384)) (sat (atF d_y a b + atF (facC n_y n_x n_y n_z d_x d_y d_z) (IntKind.i64.wrap (IntKind.i64.wrap ((IntKind.i64.wrap (hold (dv (IntKind.i64.wrap (0 - dotN (facC n_x n_x n_y n_z d_x d_y d_z) (facC n_y n_x n_y n_z d_x d_y d_z) (facC n_z n_x n_y n_z d_x d_y d_z) d_x d_y d_z)) 16384) 0 16384 * a)).tdiv b) - isq (IntKind.u64.wrap (IntKind.i64.wrap (268435456 - sineN (hold (dv (IntKind.i64.wrap (0 - dotN (facC n_x n_x n_y n_z d_x d_y d_z) (facC n_y n_x n_y n_z d_x d_y d_z) (facC n_z n_x n_y n_z d_x d_y d_z) d_x d_y d_z)) 16384) 0 16384) a b))))) 16384)) (sat (atF d_z a b + atF (facC n_z n_x n_y n_z d_x d_y d_z) (IntKind.i64.wrap (IntKind.i64.wrap ((IntKind.i64.wrap (hold (dv (IntKind.i64.wrap (0 - dotN (facC n_x n_x n_y n_z d_x d_y d_z) (facC n_y n_x n_y n_z d_x d_y d_z) (facC n_z n_x n_y n_z d_x d_y d_z) d_x d_y d_z)) 16384) 0 16384 * a)).tdiv b) - isq (IntKind.u64.wrap (IntKind.i64.wrap (268435456 - sineN (hold (dv (IntKind.i64.wrap (0 - dotN (facC n_x n_x n_y n_z d_x d_y d_z) (facC n_y n_x n_y n_z d_x d_y d_z) (facC n_z n_x n_y n_z d_x d_y d_z) d_x d_y d_z)) 16384) 0 16384) a b))))) 16384)))])))))))))))
theorem run_bend_Bend (d_x : Int) (d_y : Int) (d_z : Int) (n_x : Int) (n_y : Int) (n_z : Int) (a : Int) (b : Int) (h_d_x : InR .i64 d_x) (h_d_y : InR .i64 d_y) (h_d_z : InR .i64 d_z) (h_n_x : InR .i64 n_x) (h_n_y : InR .i64 n_y) (h_n_z : InR .i64 n_z) (h_a : InR .i64 a) (h_b : InR .i64 b) : (tr_bend_Bend d_x d_y d_z n_x n_y n_z a b).run = some (.tuple [v3 (bendU (bndC d_x n_x d_x d_y d_z n_x n_y n_z a b) d_x d_y d_z n_x n_y n_z a b) (bendU (bndC d_y n_y d_x d_y d_z n_x n_y n_z a b) d_x d_y d_z n_x n_y n_z a b) (bendU (bndC d_z n_z d_x d_y d_z n_x n_y n_z a b) d_x d_y d_z n_x n_y n_z a b), bb (bendIs d_x d_y d_z n_x n_y n_z a b)]) := by
  unfold tr_bend_Bend
  by_cases h : (((-16385 ≤ d_x ∧ d_x ≤ 16385) ∧ (-16385 ≤ d_y ∧ d_y ≤ 16385) ∧ (-16385 ≤ d_z ∧ d_z ≤ 16385)) ∧ ((-16385 ≤ n_x ∧ n_x ≤ 16385) ∧ (-16385 ≤ n_y ∧ n_y ≤ 16385) ∧ (-16385 ≤ n_z ∧ n_z ≤ 16385))) ∧ (16384 ≤ a ∧ a ≤ 65536) ∧ (16384 ≤ b ∧ b ≤ 65536)
  rotate_left
  · have ok : bendOk d_x d_y d_z n_x n_y n_z a b = false := by
      unfold bendOk shortB idxB
      simp only [Bool.and_eq_false_iff, decide_eq_false_iff_not]
      omega
    unfold bendIs bendU
    simp only [ok, Bool.false_and, Bool.false_eq_true, if_false]
    repeat (first | (refine run_guard (fun _ => rfl) (fun _ => ?_)) | (refine run_guard (fun _ => ?_) (fun _ => rfl)))
    exfalso
    simp only [decide_eq_true_eq, decide_eq_false_iff_not, Bool.not_eq_true', Bool.not_eq_false', mx_gt, mx_le, mn_lt, mn_ge] at *
    omega
  obtain ⟨⟨hd, hn⟩, ha, hb⟩ := h
  have sd : shortB d_x d_y d_z = true := decide_eq_true hd
  have sn : shortB n_x n_y n_z = true := decide_eq_true hn
  have hc := @cosN_r n_x n_y n_z d_x d_y d_z
  have hcos := cos_all (short_near sn) (short_near sd)
  rw [← cosN_eq sn sd] at hcos
  refine (run_f (decide_eq_false (by simp only [mx_gt, mx_le, mn_lt, mn_ge]; omega))).trans ((run_f (decide_eq_false (by simp only [mx_gt, mx_le, mn_lt, mn_ge]; omega))).trans ((run_f (decide_eq_false (by simp only [mx_gt, mx_le, mn_lt, mn_ge]; omega))).trans ((run_f (decide_eq_false (by simp only [mx_gt, mx_le, mn_lt, mn_ge]; omega))).trans ((run_f (decide_eq_false (by omega))).trans ((run_f (decide_eq_false (by omega))).trans ((run_f (decide_eq_false (by omega))).trans ((run_f (decide_eq_false (by omega))).trans (?_))))))))
  simp only [hcos]
  obtain ⟨_, _, _, _, s0⟩ := sine_r hc ha hb
  rw [← sineN_eq hc ha hb] at s0
  by_cases hs : sineN (cosN n_x n_y n_z d_x d_y d_z) a b > 268435456
  · have ok : bendOk d_x d_y d_z n_x n_y n_z a b = false := by
      unfold bendOk; simp only [Bool.and_eq_false_iff]; exact .inr (decide_eq_false (by omega))
    unfold bendIs bendU
    simp only [ok, Bool.false_and, Bool.false_eq_true, if_false]
    exact run_t (decide_eq_true hs)
  refine (run_f (decide_eq_false hs)).trans ?_
  have ok : bendOk d_x d_y d_z n_x n_y n_z a b = true := by
    unfold bendOk idxB; simp only [Bool.and_eq_true]; exact ⟨⟨⟨⟨sd, sn⟩, decide_eq_true ha⟩, decide_eq_true hb⟩, decide_eq_true (by omega)⟩
  unfold bendIs bendU
  simp only [ok, Bool.true_and, if_true]
  have ex := bnd_prog hc ha hb ⟨s0, by omega⟩ hd.1 (facC_r (nx := n_x) (ny := n_y) (nz := n_z) (dx := d_x) (dy := d_y) (dz := d_z) hn.1)
  have ey := bnd_prog hc ha hb ⟨s0, by omega⟩ hd.2.1 (facC_r (nx := n_x) (ny := n_y) (nz := n_z) (dx := d_x) (dy := d_y) (dz := d_z) hn.2.1)
  have ez := bnd_prog hc ha hb ⟨s0, by omega⟩ hd.2.2 (facC_r (nx := n_x) (ny := n_y) (nz := n_z) (dx := d_x) (dy := d_y) (dz := d_z) hn.2.2)
  rw [ex, ey, ez]
  exact run_f (decide_eq_false (by omega))

end Go.Sky

/- Bent light: how far rounding leads. -/
set_option linter.unusedSimpArgs false
set_option linter.unusedVariables false
namespace Go.Sky

/-- A direction's length, from above. -/
theorem unitC_lt {x y z : Int} (h : okU x y z = true) :
    unitC x y z x * unitC x y z x + unitC x y z y * unitC x y z y + unitC x y z z * unitC x y z z < 268468225 := by
  obtain ⟨_, l1, l2, l3, l4⟩ := len_spec h
  have e : ∀ c, unitC x y z c = (nrm x y z c * 16384).tdiv (lenU x y z) := fun c => by unfold unitC; rw [if_pos h]
  rw [e, e, e]
  generalize nrm x y z x = a at *
  generalize nrm x y z y = b at *
  generalize nrm x y z z = c at *
  generalize lenU x y z = l at *
  have k : ∀ q : Int, (l * (q * 16384).tdiv l) * (l * (q * 16384).tdiv l) ≤ (q * 16384) * (q * 16384) := by
    intro q
    have f := tdiv_facts (A := q * 16384) (l := l) (by omega)
    rcases (show q * 16384 < 0 ∨ 0 ≤ q * 16384 by omega) with h | h
    · have := f.2 h
      have := sq_le (a := l * (q * 16384).tdiv l) (b := -(q * 16384)) (by omega) (by omega)
      rw [Int.neg_mul_neg] at this; exact this
    · have := f.1 h; exact sq_le (by omega) (by omega)
  have sx := k a; have sy := k b; have sz := k c
  clear k e
  generalize (a * 16384).tdiv l = u at *
  generalize (b * 16384).tdiv l = v at *
  generalize (c * 16384).tdiv l = w at *
  have e1 : (l * u) * (l * u) + (l * v) * (l * v) + (l * w) * (l * w) = l * l * (u * u + v * v + w * w) := by clear l1 l2 l3 l4 sx sy sz; grind
  have e2 : (a * 16384) * (a * 16384) + (b * 16384) * (b * 16384) + (c * 16384) * (c * 16384) = 268435456 * (a * a + b * b + c * c) := by clear l1 l2 l3 l4 sx sy sz e1; grind
  have e3 : (l + 1) * (l + 1) = l * l + 2 * l + 1 := by clear l1 l2 l3 l4 sx sy sz e1 e2; grind
  generalize u * u + v * v + w * w = n at *
  have h3 : l * l * n ≤ 268435456 * (l * l + 2 * l) := by omega
  rcases (show n < 268468225 ∨ 268468225 ≤ n by omega) with hn | hn
  · exact hn
  · exfalso
    have hL : 524288 * l ≤ l * l := Int.mul_le_mul_of_nonneg_right l1 (by omega)
    have h4 : l * l * 268468225 ≤ l * l * n := Int.mul_le_mul_of_nonneg_left hn (by omega)
    omega

/-- The length of a direction, as it is told. -/
theorem unit_len {x y z : Int} (h : okU x y z = true) :
    16382 ≤ isq (dotN (unitC x y z x) (unitC x y z y) (unitC x y z z) (unitC x y z x) (unitC x y z y) (unitC x y z z)) ∧ isq (dotN (unitC x y z x) (unitC x y z y) (unitC x y z z) (unitC x y z x) (unitC x y z y) (unitC x y z z)) ≤ 16384 := by
  obtain ⟨r1, r2, rx, ry, rz⟩ := unitC_r h
  have r3 := unitC_lt h
  have near : nearB (unitC x y z x) (unitC x y z y) (unitC x y z z) = true := decide_eq_true (by omega)
  rw [dotN_eq near near]
  generalize unitC x y z x * unitC x y z x + unitC x y z y * unitC x y z y + unitC x y z z * unitC x y z z = q at *
  obtain ⟨a, b, c, d⟩ := isq_spec (n := q) (by omega) (by omega)
  have h1 := sq_lt (a := 16381) (b := isq q) (by omega) a
  have h2 := sq_lt (a := isq q) (b := 16385) a (by omega) (by omega)
  have h3 := sq_lt (a := 16382) (b := isq q + 1) (by omega) (by omega) (by omega)
  omega

/-- What goes along a vector, of what is evened. -/
theorem nrm_up {x y z : Int} (h1 : 1 ≤ mostI x y z) (h2 : mostI x y z ≤ 524288) : ∃ k : Int, 1 ≤ k ∧ (∀ q, nrm x y z q = k * q) ∧ mostI (nrm x y z x) (nrm x y z y) (nrm x y z z) = k * mostI x y z := by
  have key : ∀ (j : Nat) (m : Int), 1 ≤ m → m ≤ 524288 → ∃ k : Int, 1 ≤ k ∧ (∀ q, upS j q m = k * q) ∧ upS j m m ≤ 1048575 := by
    intro j
    induction j with
    | zero => intro m h1 h2; exact ⟨1, by omega, fun q => by simp [upS], by simp [upS]; omega⟩
    | succ j ih =>
      intro m h1 h2
      by_cases c : m < 524288
      · by_cases c2 : 2 * m ≤ 524288
        · obtain ⟨k, k1, k2, k3⟩ := ih (2 * m) (by omega) c2
          refine ⟨2 * k, by omega, fun q => ?_, ?_⟩
          · rw [upS, if_pos c, k2]; grind
          · rw [upS, if_pos c]; exact k3
        · refine ⟨2, by omega, fun q => ?_, ?_⟩
          · rw [upS, if_pos c]
            cases j with
            | zero => rfl
            | succ j => rw [upS, if_neg (by omega)]
          · rw [upS, if_pos c]
            cases j with
            | zero => simp only [upS]; omega
            | succ j => rw [upS, if_neg (by omega)]; omega
      · exact ⟨1, by omega, fun q => by rw [upS, if_neg c]; omega, by rw [upS, if_neg c]; omega⟩
  obtain ⟨k, k1, k2, k3⟩ := key 20 (mostI x y z) h1 h2
  obtain ⟨g1, g2, g3⟩ := upS_most 20 _ x y z rfl (by omega)
  have m1 : mostI (upS 20 x (mostI x y z)) (upS 20 y (mostI x y z)) (upS 20 z (mostI x y z)) ≤ 1048575 := by rw [g1]; exact k3
  have e : ∀ q, nrm x y z q = k * q := by
    intro q
    unfold nrm
    rw [k2 q]
    generalize mostI (upS 20 x (mostI x y z)) (upS 20 y (mostI x y z)) (upS 20 z (mostI x y z)) = M at *
    rw [downS, if_neg (by omega)]
  refine ⟨k, k1, e, ?_⟩
  rw [e, e, e, ← k2, ← k2, ← k2, g1, k2]

theorem coord_r {x y z : Int} (h : x * x + y * y + z * z < 268468225) : (-16384 ≤ x ∧ x ≤ 16384) ∧ (-16384 ≤ y ∧ y ≤ 16384) ∧ (-16384 ≤ z ∧ z ≤ 16384) := by
  have a := sq_nonneg x; have b := sq_nonneg y; have c := sq_nonneg z
  have key : ∀ q : Int, q * q < 268468225 → -16384 ≤ q ∧ q ≤ 16384 := by
    intro q hq
    rcases (show q < 0 ∨ 0 ≤ q by omega) with h0 | h0
    · have := sq_lt (a := -q) (b := 16385) (by omega) (by omega) (by rw [Int.neg_mul_neg]; omega); omega
    · have := sq_lt (a := q) (b := 16385) h0 (by omega) (by omega); omega
  exact ⟨key x (by omega), key y (by omega), key z (by omega)⟩

/-- A coordinate that is bent, times what it was divided by. -/
theorem bent_P {a b d f k : Int} (hb : 16384 ≤ b) : 16384 * b * (d * a / b + f * k / 16384) ≤ a * 16384 * d + b * k * f ∧ a * 16384 * d + b * k * f < 16384 * b * (d * a / b + f * k / 16384) + 32768 * b := by
  have h1 := Int.mul_ediv_add_emod (d * a) b
  have h2 := Int.emod_nonneg (d * a) (show b ≠ 0 by omega)
  have h3 := Int.emod_lt_of_pos (d * a) (show 0 < b by omega)
  have h4 := Int.mul_ediv_add_emod (f * k) 16384
  have h5 := Int.emod_nonneg (f * k) (show (16384 : Int) ≠ 0 by omega)
  have h6 := Int.emod_lt_of_pos (f * k) (show (0 : Int) < 16384 by omega)
  generalize d * a / b = p at *
  generalize f * k / 16384 = q at *
  generalize d * a % b = r at *
  generalize f * k % 16384 = e at *
  have e1 : a * 16384 * d + b * k * f = 16384 * b * (p + q) + 16384 * r + b * e := by
    have : a * 16384 * d = 16384 * (d * a) := by grind
    have : b * k * f = b * (f * k) := by grind
    have : 16384 * b * (p + q) = 16384 * (b * p) + b * (16384 * q) := by grind
    have : b * (16384 * q + e) = b * (16384 * q) + b * e := by grind
    have : b * (f * k) = b * (16384 * q + e) := by rw [h4]
    omega
  have e2 : 0 ≤ b * e := Int.mul_nonneg (by omega) h5
  have e3 : b * e ≤ b * 16383 := Int.mul_le_mul_of_nonneg_left (by omega) (by omega)
  omega

section
variable {dx dy dz fx fy fz a b c s R D : Int}

/-- Where hardly anything stands against the surface, the bent one is no short one. -/
theorem bend_far (hd : 268369924 ≤ dx * dx + dy * dy + dz * dz ∧ dx * dx + dy * dy + dz * dz < 268468225) (hf : 268369924 ≤ fx * fx + fy * fy + fz * fz ∧ fx * fx + fy * fy + fz * fz < 268468225)
    (hD : D = -(dx * fx + dy * fy + dz * fz)) (hc : 0 ≤ c ∧ c ≤ 16384) (h1 : 16384 * c ≤ D) (h2 : D ≤ 16384 * c + 32768) (ha : 16384 ≤ a ∧ a ≤ 65536) (hb : 16384 ≤ b ∧ b ≤ 65536)
    (hs : s = (268435456 - c * c) * a * a / (b * b)) (hR0 : 0 ≤ R) (hR2 : 268435456 - s < (R + 1) * (R + 1)) (hR : R ≤ 15) {k : Int}
    (hx : -999 ≤ dx * a / b + fx * k / 16384 ∧ dx * a / b + fx * k / 16384 ≤ 999) (hy : -999 ≤ dy * a / b + fy * k / 16384 ∧ dy * a / b + fy * k / 16384 ≤ 999) (hz : -999 ≤ dz * a / b + fz * k / 16384 ∧ dz * a / b + fz * k / 16384 ≤ 999) : False := by
  have px := bent_P (a := a) (b := b) (d := dx) (f := fx) (k := k) hb.1
  have py := bent_P (a := a) (b := b) (d := dy) (f := fy) (k := k) hb.1
  have pz := bent_P (a := a) (b := b) (d := dz) (f := fz) (k := k) hb.1
  generalize dx * a / b + fx * k / 16384 = tx at *
  generalize dy * a / b + fy * k / 16384 = ty at *
  generalize dz * a / b + fz * k / 16384 = tz at *
  have cf := coord_r hf.2
  have bt : ∀ t : Int, (-999 ≤ t ∧ t ≤ 999) → -(16384 * b * 999) ≤ 16384 * b * t ∧ 16384 * b * t ≤ 16384 * b * 999 := fun t ht => by
    have := mul_abs (x := 16384 * b) (y := t) (m := 16384 * b) (k := 999) (by omega) (by omega); omega
  have bx := bt _ hx; have by' := bt _ hy; have bz := bt _ hz
  have hP : ∀ e f : Int, e = a * 16384 * dx + b * k * fx ∨ e = a * 16384 * dy + b * k * fy ∨ e = a * 16384 * dz + b * k * fz → (-16384 ≤ f ∧ f ≤ 16384) →
      -(16400384 * b * 16384) ≤ e * f ∧ e * f ≤ 16400384 * b * 16384 := by
    intro e f he hf
    exact mul_abs (by rcases he with h | h | h <;> omega) hf
  -- the cross product
  have sqb : ∀ X p q f g : Int, a * 16384 * X = p * f - q * g → (-(16400384 * b * 16384) ≤ p * f ∧ p * f ≤ 16400384 * b * 16384) → (-(16400384 * b * 16384) ≤ q * g ∧ q * g ≤ 16400384 * b * 16384) →
      (a * X) * (a * X) ≤ (32800768 * b) * (32800768 * b) := by
    intro X p q f g e h1 h2
    have e1 : a * 16384 * X = 16384 * (a * X) := by grind
    exact sq_le (by omega) (by omega)
  have sX := sqb (dy * fz - dz * fy) (a * 16384 * dy + b * k * fy) (a * 16384 * dz + b * k * fz) fz fy (by grind) (hP _ _ (.inr (.inl rfl)) cf.2.2) (hP _ _ (.inr (.inr rfl)) cf.2.1)
  have sY := sqb (dz * fx - dx * fz) (a * 16384 * dz + b * k * fz) (a * 16384 * dx + b * k * fx) fx fz (by grind) (hP _ _ (.inr (.inr rfl)) cf.1) (hP _ _ (.inl rfl) cf.2.2)
  have sZ := sqb (dx * fy - dy * fx) (a * 16384 * dx + b * k * fx) (a * 16384 * dy + b * k * fy) fy fx (by grind) (hP _ _ (.inl rfl) cf.2.1) (hP _ _ (.inr (.inl rfl)) cf.1)
  clear px py pz bx by' bz bt hP sqb hx hy hz cf
  have lag : (a * (dy * fz - dz * fy)) * (a * (dy * fz - dz * fy)) + (a * (dz * fx - dx * fz)) * (a * (dz * fx - dx * fz)) + (a * (dx * fy - dy * fx)) * (a * (dx * fy - dy * fx)) =
      (a * a) * ((dx * dx + dy * dy + dz * dz) * (fx * fx + fy * fy + fz * fz) - D * D) := by
    subst hD; clear hd hf h1 h2 sX sY sZ hs hR2; grind
  generalize (a * (dy * fz - dz * fy)) * (a * (dy * fz - dz * fy)) = X2 at *
  generalize (a * (dz * fx - dx * fz)) * (a * (dz * fx - dx * fz)) = Y2 at *
  generalize (a * (dx * fy - dy * fx)) * (a * (dx * fy - dy * fx)) = Z2 at *
  have hDF := mul_mono (a := 268369924) (b := dx * dx + dy * dy + dz * dz) (c := 268369924) (d := fx * fx + fy * fy + fz * fz) (by omega) hd.1 (by omega) hf.1
  generalize (dx * dx + dy * dy + dz * dz) * (fx * fx + fy * fy + fz * fz) = W at *
  have hDD := mul_mono (a := D) (b := 16384 * c + 32768) (c := D) (d := 16384 * c + 32768) (by omega) h2 (by omega) h2
  have eDD : (16384 * c + 32768) * (16384 * c + 32768) = 268435456 * (c * c) + 1073741824 * c + 1073741824 := by clear hd hf hD hs hR2 hDF lag; grind
  have ebb : (32800768 * b) * (32800768 * b) = 1075890381389824 * (b * b) := by clear hd hf hD hs hR2 hDF lag; grind
  -- what is lost against the whole
  have hbb := mul_mono (a := 16384) (b := b) (c := 16384) (d := b) (by omega) hb.1 (by omega) hb.1
  have haa := mul_mono (a := a) (b := 4 * b) (c := a) (d := 4 * b) (by omega) (by omega) (by omega) (by omega)
  have e16 : (4 * b) * (4 * b) = 16 * (b * b) := by clear hd hf hD hs hR2 hDF lag; grind
  have hRR := mul_mono (a := R + 1) (b := 16) (c := R + 1) (d := 16) (by omega) (by omega) (by omega) (by omega)
  have hsb : s * (b * b) ≤ (268435456 - c * c) * a * a := by rw [hs]; exact Int.ediv_mul_le _ (by omega)
  have hsl : 268435200 * (b * b) ≤ s * (b * b) := Int.mul_le_mul_of_nonneg_right (by omega) (by omega)
  have eG : (268435456 - c * c) * a * a = 268435456 * (a * a) - (c * c) * (a * a) := by clear hd hf hD hs hR2 hDF lag hsb; grind
  have hAW : (a * a) * 72022416107765776 ≤ (a * a) * W := Int.mul_le_mul_of_nonneg_left (by omega) (by omega)
  have eL : (a * a) * (W - D * D) = (a * a) * W - (a * a) * (D * D) := by rw [Int.mul_sub]
  have hAD : (a * a) * (D * D) ≤ (a * a) * (268435456 * (c * c) + 17594333528064) := Int.mul_le_mul_of_nonneg_left (by omega) (by omega)
  have eAD : (a * a) * (268435456 * (c * c) + 17594333528064) = 268435456 * ((c * c) * (a * a)) + 17594333528064 * (a * a) := by clear hd hf hD hs hR2 hDF lag hsb eL hAD hAW eG; grind
  generalize (c * c) * (a * a) = CA at *
  generalize (a * a) * W = AW at *
  generalize (a * a) * (D * D) = AD at *
  omega

/-- How much of what is bent stands against the surface. -/
theorem bend_dot (hf : 268369924 ≤ fx * fx + fy * fy + fz * fz ∧ fx * fx + fy * fy + fz * fz < 268468225)
    (hD : D = -(dx * fx + dy * fy + dz * fz)) (hc : 0 ≤ c ∧ c ≤ 16384) (h1 : 16384 * c ≤ D) (ha : 16384 ≤ a ∧ a ≤ 65536) (hb : 16384 ≤ b ∧ b ≤ 65536)
    (hR : 0 ≤ R ∧ R ≤ 16384) {k : Int} (hk : k = c * a / b - R) :
    (dx * a / b + fx * k / 16384) * fx + (dy * a / b + fy * k / 16384) * fy + (dz * a / b + fz * k / 16384) * fz ≤ 229378 ∧
    (15 ≤ R → (dx * a / b + fx * k / 16384) * fx + (dy * a / b + fy * k / 16384) * fy + (dz * a / b + fz * k / 16384) * fz < 0) := by
  have px := bent_P (a := a) (b := b) (d := dx) (f := fx) (k := k) hb.1
  have py := bent_P (a := a) (b := b) (d := dy) (f := fy) (k := k) hb.1
  have pz := bent_P (a := a) (b := b) (d := dz) (f := fz) (k := k) hb.1
  generalize dx * a / b + fx * k / 16384 = tx at *
  generalize dy * a / b + fy * k / 16384 = ty at *
  generalize dz * a / b + fz * k / 16384 = tz at *
  have cf := coord_r hf.2
  have st : ∀ t d f : Int, 16384 * b * t ≤ a * 16384 * d + b * k * f ∧ a * 16384 * d + b * k * f < 16384 * b * t + 32768 * b → (-16384 ≤ f ∧ f ≤ 16384) →
      16384 * (b * (t * f)) ≤ 16384 * (a * (d * f)) + b * k * (f * f) + 536870912 * b := by
    intro t d f h hf
    have h1 := mul_abs (x := a * 16384 * d + b * k * f - 16384 * b * t) (y := f) (m := 32768 * b) (k := 16384) (by omega) hf
    have e : (a * 16384 * d + b * k * f - 16384 * b * t) * f = 16384 * (a * (d * f)) + b * k * (f * f) - 16384 * (b * (t * f)) := by grind
    omega
  have sx := st tx dx fx px cf.1; have sy := st ty dy fy py cf.2.1; have sz := st tz dz fz pz cf.2.2
  clear st px py pz cf
  have e1 : b * (tx * fx) + b * (ty * fy) + b * (tz * fz) = b * (tx * fx + ty * fy + tz * fz) := by rw [Int.mul_add, Int.mul_add]
  have e2 : a * (dx * fx) + a * (dy * fy) + a * (dz * fz) = -(a * D) := by rw [hD, Int.mul_neg, Int.neg_neg, Int.mul_add, Int.mul_add]
  have e3 : b * k * (fx * fx) + b * k * (fy * fy) + b * k * (fz * fz) = b * k * (fx * fx + fy * fy + fz * fz) := by rw [Int.mul_add, Int.mul_add]
  generalize tx * fx + ty * fy + tz * fz = T at *
  generalize fx * fx + fy * fy + fz * fz = F at *
  have hca := mul_mono (a := c) (b := 16384) (c := a) (d := 65536) (by omega) hc.2 (by omega) ha.2
  have q1 := Int.mul_ediv_add_emod (c * a) b
  have q2 := Int.emod_nonneg (c * a) (show b ≠ 0 by omega)
  have q3 := Int.emod_lt_of_pos (c * a) (show 0 < b by omega)
  have q4 : 0 ≤ c * a / b := Int.ediv_nonneg (by omega) (by omega)
  have q5 : c * a / b < 65537 := Int.ediv_lt_of_lt_mul (by omega) (by omega)
  have hbk : b * k = b * (c * a / b) - b * R := by rw [hk, Int.mul_sub]
  have haD : a * (16384 * c) ≤ a * D := Int.mul_le_mul_of_nonneg_left h1 (by omega)
  have eac : a * (16384 * c) = 16384 * (c * a) := by grind
  have hbR := mul_mono (a := b) (b := b) (c := R) (d := 16384) (by omega) (Int.le_refl _) hR.1 hR.2
  have hbF : b * k * F ≤ 268435456 * (b * k) + 2147516416 * b ∧ (b * k < 0 → b * k * F ≤ 268369924 * (b * k)) := by
    rcases (show b * k < 0 ∨ 0 ≤ b * k by omega) with h | h
    · have e : b * k * F = -(-(b * k) * F) := by rw [Int.neg_mul, Int.neg_neg]
      have h9 : -(b * k) * 268369924 ≤ -(b * k) * F := Int.mul_le_mul_of_nonneg_left hf.1 (by omega)
      constructor
      · have : -(b * k) ≤ b * 16384 := by have := Int.mul_nonneg (show 0 ≤ b by omega) q4; omega
        omega
      · intro _; omega
    · have h9 : b * k * F ≤ b * k * 268468224 := Int.mul_le_mul_of_nonneg_left (by omega) h
      have h10 : b * k ≤ b * 65536 := Int.mul_le_mul_of_nonneg_left (by omega) (by omega)
      constructor
      · omega
      · intro _; omega
  have main : 16384 * (b * T) ≤ 3758129152 * b - 268435456 * (b * R) := by
    omega
  have fin : ∀ m : Int, 16384 * (b * T) ≤ m * b → 16384 * T ≤ m := by
    intro m h
    have : b * (16384 * T) ≤ b * m := by
      have e4 : b * (16384 * T) = 16384 * (b * T) := by grind
      have e5 : b * m = m * b := Int.mul_comm _ _
      omega
    exact Int.le_of_mul_le_mul_left this (by omega)
  have g := fin (3758129152 - 268435456 * R) (by rw [Int.sub_mul, Int.mul_assoc, Int.mul_comm R b]; exact main)
  constructor <;> omega

/-- A direction's part along a vector. -/
theorem unit_dot {tx ty tz : Int} (hok : okU tx ty tz = true) (hm : mostI tx ty tz ≤ 524288) (hx : -16384 ≤ fx ∧ fx ≤ 16384) (hy : -16384 ≤ fy ∧ fy ≤ 16384) (hz : -16384 ≤ fz ∧ fz ≤ 16384)
    (hT : tx * fx + ty * fy + tz * fz ≤ 229378) (h0 : 0 < tx * fx + ty * fy + tz * fz → 1000 ≤ mostI tx ty tz) :
    unitC tx ty tz tx * fx + unitC tx ty tz ty * fy + unitC tx ty tz tz * fz ≤ 4194304 := by
  have hm1 : 1 ≤ mostI tx ty tz := by have := okU_r hok; have := most_nonneg tx ty tz; omega
  obtain ⟨K, K1, K2, K3⟩ := nrm_up hm1 hm
  obtain ⟨_, l1, l2, l3, l4⟩ := len_spec hok
  have u : ∀ q, unitC tx ty tz q = (K * q * 16384).tdiv (lenU tx ty tz) := fun q => by unfold unitC; rw [if_pos hok, K2]
  rw [u, u, u]
  rw [K2, K2, K2] at l4
  have hl : K * mostI tx ty tz ≤ lenU tx ty tz := by
    have key : ∀ q : Int, (mostI tx ty tz = q ∨ mostI tx ty tz = -q) → K * mostI tx ty tz * (K * mostI tx ty tz) = K * q * (K * q) := by
      intro q h
      rcases h with h | h <;> rw [h] <;> grind
    have sa := sq_nonneg (K * tx); have sb := sq_nonneg (K * ty); have sc := sq_nonneg (K * tz)
    have hKM : 0 ≤ K * mostI tx ty tz := Int.mul_nonneg (by omega) (by omega)
    have hh : K * mostI tx ty tz * (K * mostI tx ty tz) < (lenU tx ty tz + 1) * (lenU tx ty tz + 1) := by
      obtain ⟨_, _, _, hh⟩ := most_spec (x := tx) (y := ty) (z := tz) (by omega)
      rcases hh with h | h | h | h | h | h
      · rw [key tx (.inl h)]; omega
      · rw [key tx (.inr h)]; omega
      · rw [key ty (.inl h)]; omega
      · rw [key ty (.inr h)]; omega
      · rw [key tz (.inl h)]; omega
      · rw [key tz (.inr h)]; omega
    have := sq_lt hKM (by omega) hh
    omega
  generalize lenU tx ty tz = l at *
  have st : ∀ q f : Int, (-16384 ≤ f ∧ f ≤ 16384) → l * ((K * q * 16384).tdiv l * f) ≤ 16384 * (K * (q * f)) + l * 16384 := by
    intro q f hf
    have h := tdiv_facts (A := K * q * 16384) (l := l) (by omega)
    have h2 := mul_abs (x := l * (K * q * 16384).tdiv l - K * q * 16384) (y := f) (m := l) (k := 16384) (by omega) hf
    have e : (l * (K * q * 16384).tdiv l - K * q * 16384) * f = l * ((K * q * 16384).tdiv l * f) - 16384 * (K * (q * f)) := by clear h h2; grind
    omega
  have sx := st tx fx hx; have sy := st ty fy hy; have sz := st tz fz hz
  generalize (K * tx * 16384).tdiv l * fx = A at *
  generalize (K * ty * 16384).tdiv l * fy = B at *
  generalize (K * tz * 16384).tdiv l * fz = C at *
  have e1 : l * A + l * B + l * C = l * (A + B + C) := by rw [Int.mul_add, Int.mul_add]
  have e2 : K * (tx * fx) + K * (ty * fy) + K * (tz * fz) = K * (tx * fx + ty * fy + tz * fz) := by rw [Int.mul_add, Int.mul_add]
  generalize tx * fx + ty * fy + tz * fz = T at *
  have fin : l * (A + B + C) ≤ l * 3807330 := by
    rcases (show T ≤ 0 ∨ 0 < T by omega) with h | h
    · have : K * T ≤ 0 := Int.mul_nonpos_of_nonneg_of_nonpos (by omega) h
      omega
    · have g1 := h0 h
      have g2 : K * T ≤ K * 229378 := Int.mul_le_mul_of_nonneg_left hT (by omega)
      have g3 : K * 1000 ≤ K * mostI tx ty tz := Int.mul_le_mul_of_nonneg_left g1 (by omega)
      omega
  have := Int.le_of_mul_le_mul_left fin (by omega)
  omega

/-- A direction's direction is itself, or hardly another one. -/
theorem unit_self {x y z : Int} (hd : 268369924 ≤ x * x + y * y + z * z ∧ x * x + y * y + z * z < 268468225) :
    okU x y z = true ∧ ∀ q, (-16384 ≤ q ∧ q ≤ 16384) → -200 ≤ unitC x y z q - q ∧ unitC x y z q - q ≤ 200 := by
  have cf := coord_r hd.2
  have hm2 : mostI x y z ≤ 16384 := by unfold mostI; simp only [max_r]; rw [sat_id (by omega), sat_id (by omega), sat_id (by omega)]; omega
  have hm1 : 1 ≤ mostI x y z := by
    rcases (show mostI x y z = 0 ∨ 1 ≤ mostI x y z by have := most_nonneg x y z; omega) with h | h
    · exfalso
      obtain ⟨g1, g2, g3, _⟩ := most_spec (x := x) (y := y) (z := z) (by omega)
      have : x = 0 := by omega
      have : y = 0 := by omega
      have : z = 0 := by omega
      subst x y z; omega
    · exact h
  have hok : okU x y z = true := by unfold okU; simp; omega
  obtain ⟨K, K1, K2, K3⟩ := nrm_up hm1 (by omega)
  obtain ⟨_, l1, l2, l3, l4⟩ := len_spec hok
  refine ⟨hok, fun q hq => ?_⟩
  have u : unitC x y z q = (K * q * 16384).tdiv (lenU x y z) := by unfold unitC; rw [if_pos hok, K2]
  rw [u]
  rw [K2, K2, K2] at l3 l4
  generalize lenU x y z = l at *
  have e : K * x * (K * x) + K * y * (K * y) + K * z * (K * z) = K * K * (x * x + y * y + z * z) := by clear hd l3 l4 cf; grind
  rw [e] at l3 l4
  have hKK : 0 ≤ K * K := Int.mul_nonneg (by omega) (by omega)
  have up : l < K * 16385 := by
    refine sq_lt (by omega) (by omega) ?_
    have h1 : K * K * (x * x + y * y + z * z) ≤ K * K * 268468224 := Int.mul_le_mul_of_nonneg_left (by omega) hKK
    have h2 : 1 ≤ K * K := by have := mul_mono (a := 1) (b := K) (c := 1) (d := K) (by omega) K1 (by omega) K1; omega
    have e2 : K * 16385 * (K * 16385) = K * K * 268468225 := by grind
    omega
  have lo : K * 16382 < l + 1 := by
    refine sq_lt (by omega) (by omega) ?_
    have h1 : K * K * 268369924 ≤ K * K * (x * x + y * y + z * z) := Int.mul_le_mul_of_nonneg_left hd.1 hKK
    have e2 : K * 16382 * (K * 16382) = K * K * 268369924 := by grind
    omega
  have h := tdiv_facts (A := K * q * 16384) (l := l) (by omega)
  have h2 := mul_abs (x := K * 16384 - l) (y := q) (m := 2 * K) (k := 16384) (by omega) hq
  have e3 : (K * 16384 - l) * q = K * q * 16384 - l * q := by clear h h2; grind
  have e4 : l * ((K * q * 16384).tdiv l - q) = l * (K * q * 16384).tdiv l - l * q := by rw [Int.mul_sub]
  generalize (K * q * 16384).tdiv l = p at *
  have f1 : l * (p - q) ≤ l * 4 := by omega
  have f2 : l * (-4) ≤ l * (p - q) := by omega
  have := Int.le_of_mul_le_mul_left f1 (by omega)
  have := Int.le_of_mul_le_mul_left f2 (by omega)
  omega

end

theorem fac_facts {ux uy uz dx dy dz : Int} (nu : nearB ux uy uz = true) (nd : nearB dx dy dz = true) :
    facC ux ux uy uz dx dy dz * facC ux ux uy uz dx dy dz + facC uy ux uy uz dx dy dz * facC uy ux uy uz dx dy dz + facC uz ux uy uz dx dy dz * facC uz ux uy uz dx dy dz = ux * ux + uy * uy + uz * uz ∧
    sz (dotI ux uy uz dx dy dz) = -(dx * facC ux ux uy uz dx dy dz + dy * facC uy ux uy uz dx dy dz + dz * facC uz ux uy uz dx dy dz) := by
  simp only [facC_eq nu nd]
  unfold sz
  have e : dotI ux uy uz dx dy dz = dx * ux + dy * uy + dz * uz := by unfold dotI; rw [Int.mul_comm ux, Int.mul_comm uy, Int.mul_comm uz]
  by_cases h : dotI ux uy uz dx dy dz > 0
  · simp only [if_pos h]
    rw [if_neg (by omega), Int.neg_mul_neg, Int.neg_mul_neg, Int.neg_mul_neg, Int.mul_neg, Int.mul_neg, Int.mul_neg]
    refine ⟨rfl, ?_⟩
    omega
  · simp only [if_neg h]
    refine ⟨trivial, ?_⟩
    rw [← e]; omega

/-- What the cosine leaves out. -/
theorem cos_facts {dx dy dz fx fy fz D : Int} (hd : 268369924 ≤ dx * dx + dy * dy + dz * dz ∧ dx * dx + dy * dy + dz * dz < 268468225) (hf : 268369924 ≤ fx * fx + fy * fy + fz * fz ∧ fx * fx + fy * fy + fz * fz < 268468225)
    (hD : D = -(dx * fx + dy * fy + dz * fz)) (h0 : 0 ≤ D) : 16384 * hold (D / 16384) 0 16384 ≤ D ∧ D ≤ 16384 * hold (D / 16384) 0 16384 + 32768 := by
  have e : (dx * dx + dy * dy + dz * dz) * (fx * fx + fy * fy + fz * fz) - D * D = (dx * fy - dy * fx) * (dx * fy - dy * fx) + (dx * fz - dz * fx) * (dx * fz - dz * fx) + (dy * fz - dz * fy) * (dy * fz - dz * fy) := by
    subst hD; clear hd hf h0; grind
  have := sq_nonneg (dx * fy - dy * fx); have := sq_nonneg (dx * fz - dz * fx); have := sq_nonneg (dy * fz - dz * fy)
  have h := mul_mono (a := dx * dx + dy * dy + dz * dz) (b := 268468224) (c := fx * fx + fy * fy + fz * fz) (d := 268468224) (by omega) (by omega) (by omega) (by omega)
  have hl : D < 268468225 := sq_lt h0 (by omega) (by omega)
  unfold hold
  split
  · omega
  · split <;> omega

section
variable {dx dy dz ux uy uz a b : Int}

theorem bend_facts (hd : 268369924 ≤ dx * dx + dy * dy + dz * dz ∧ dx * dx + dy * dy + dz * dz < 268468225) (hu : 268369924 ≤ ux * ux + uy * uy + uz * uz ∧ ux * ux + uy * uy + uz * uz < 268468225)
    (ha : 16384 ≤ a ∧ a ≤ 65536) (hb : 16384 ≤ b ∧ b ≤ 65536) :
    (a ≤ b → bendIs dx dy dz ux uy uz a b = true) ∧
    (bendIs dx dy dz ux uy uz a b = false → ∀ c, bendU c dx dy dz ux uy uz a b = 0) ∧
    (bendIs dx dy dz ux uy uz a b = true →
      dotN (bendU (bndC dx ux dx dy dz ux uy uz a b) dx dy dz ux uy uz a b) (bendU (bndC dy uy dx dy dz ux uy uz a b) dx dy dz ux uy uz a b) (bendU (bndC dz uz dx dy dz ux uy uz a b) dx dy dz ux uy uz a b)
        (facC ux ux uy uz dx dy dz) (facC uy ux uy uz dx dy dz) (facC uz ux uy uz dx dy dz) ≤ 4194304 ∧
      16382 ≤ isq (dotN (bendU (bndC dx ux dx dy dz ux uy uz a b) dx dy dz ux uy uz a b) (bendU (bndC dy uy dx dy dz ux uy uz a b) dx dy dz ux uy uz a b) (bendU (bndC dz uz dx dy dz ux uy uz a b) dx dy dz ux uy uz a b)
        (bendU (bndC dx ux dx dy dz ux uy uz a b) dx dy dz ux uy uz a b) (bendU (bndC dy uy dx dy dz ux uy uz a b) dx dy dz ux uy uz a b) (bendU (bndC dz uz dx dy dz ux uy uz a b) dx dy dz ux uy uz a b)) ∧
      isq (dotN (bendU (bndC dx ux dx dy dz ux uy uz a b) dx dy dz ux uy uz a b) (bendU (bndC dy uy dx dy dz ux uy uz a b) dx dy dz ux uy uz a b) (bendU (bndC dz uz dx dy dz ux uy uz a b) dx dy dz ux uy uz a b)
        (bendU (bndC dx ux dx dy dz ux uy uz a b) dx dy dz ux uy uz a b) (bendU (bndC dy uy dx dy dz ux uy uz a b) dx dy dz ux uy uz a b) (bendU (bndC dz uz dx dy dz ux uy uz a b) dx dy dz ux uy uz a b)) ≤ 16384) := by
  have cd := coord_r hd.2
  have cu := coord_r hu.2
  have sd : shortB dx dy dz = true := decide_eq_true (by omega)
  have su : shortB ux uy uz = true := decide_eq_true (by omega)
  have nd := short_near sd
  have nu := short_near su
  obtain ⟨f1, f2⟩ := fac_facts nu nd
  have hcN : cosN ux uy uz dx dy dz = cosR ux uy uz dx dy dz := cosN_eq su sd
  have hc := @cosN_r ux uy uz dx dy dz
  have hsz := (sz_r (dotI_r nu nd)).1
  have rfx := facC_r (nx := ux) (ny := uy) (nz := uz) (dx := dx) (dy := dy) (dz := dz) cu.1
  have rfy := facC_r (nx := ux) (ny := uy) (nz := uz) (dx := dx) (dy := dy) (dz := dz) cu.2.1
  have rfz := facC_r (nx := ux) (ny := uy) (nz := uz) (dx := dx) (dy := dy) (dz := dz) cu.2.2
  have hk := hcN
  unfold cosR at hk
  have isd : bendIs dx dy dz ux uy uz a b = (bendOk dx dy dz ux uy uz a b && okU (bndC dx ux dx dy dz ux uy uz a b) (bndC dy uy dx dy dz ux uy uz a b) (bndC dz uz dx dy dz ux uy uz a b)) := rfl
  have ok : bendOk dx dy dz ux uy uz a b = decide (sineN (cosN ux uy uz dx dy dz) a b ≤ 268435456) := by
    unfold bendOk; rw [sd, su, show idxB a = true from decide_eq_true ha, show idxB b = true from decide_eq_true hb]; rfl
  have Ud : ∀ c, bendU c dx dy dz ux uy uz a b = if bendOk dx dy dz ux uy uz a b = true then unitC (bndC dx ux dx dy dz ux uy uz a b) (bndC dy uy dx dy dz ux uy uz a b) (bndC dz uz dx dy dz ux uy uz a b) c else 0 := fun _ => rfl
  have bx : bndC dx ux dx dy dz ux uy uz a b = dx * a / b + facC ux ux uy uz dx dy dz * bendK (cosN ux uy uz dx dy dz) a b / 16384 := rfl
  have by' : bndC dy uy dx dy dz ux uy uz a b = dy * a / b + facC uy ux uy uz dx dy dz * bendK (cosN ux uy uz dx dy dz) a b / 16384 := rfl
  have bz : bndC dz uz dx dy dz ux uy uz a b = dz * a / b + facC uz ux uy uz dx dy dz * bendK (cosN ux uy uz dx dy dz) a b / 16384 := rfl
  have kd : bendK (cosN ux uy uz dx dy dz) a b = cosN ux uy uz dx dy dz * a / b - isq (268435456 - sineN (cosN ux uy uz dx dy dz) a b) := rfl
  have se := sineN_eq hc ha hb
  obtain ⟨_, _, s2, s3, s4⟩ := sine_r hc ha hb
  rw [← se] at s4
  generalize facC ux ux uy uz dx dy dz = fx at *
  generalize facC uy ux uy uz dx dy dz = fy at *
  generalize facC uz ux uy uz dx dy dz = fz at *
  generalize sz (dotI ux uy uz dx dy dz) = D at *
  have hf : 268369924 ≤ fx * fx + fy * fy + fz * fz ∧ fx * fx + fy * fy + fz * fz < 268468225 := by omega
  obtain ⟨c1, c2⟩ := cos_facts hd hf f2 hsz
  rw [← hk] at c1 c2
  generalize cosN ux uy uz dx dy dz = c at *
  generalize bendOk dx dy dz ux uy uz a b = OK at *
  generalize bndC dx ux dx dy dz ux uy uz a b = tx at *
  generalize bndC dy uy dx dy dz ux uy uz a b = ty at *
  generalize bndC dz uz dx dy dz ux uy uz a b = tz at *
  generalize bendK c a b = k at *
  generalize hse : sineN c a b = s at *
  clear hk hcN
  have core : s ≤ 268435456 → (tx * fx + ty * fy + tz * fz ≤ 229378 ∧ (0 < tx * fx + ty * fy + tz * fz → 1000 ≤ mostI tx ty tz) ∧ mostI tx ty tz ≤ 524288 ∧ mostI tx ty tz ≠ 0) := by
    intro hs
    obtain ⟨_, _, q3, _⟩ := bnd_r hc ha hb ⟨s4, hs⟩ (d := dx) (f := fx) (by omega) (by omega)
    obtain ⟨_, _, _, _, wx1, _, wx2⟩ := bnd_r hc ha hb ⟨s4, hs⟩ (d := dx) (f := fx) (by omega) (by omega)
    obtain ⟨_, _, _, _, wy1, _, wy2⟩ := bnd_r hc ha hb ⟨s4, hs⟩ (d := dy) (f := fy) (by omega) (by omega)
    obtain ⟨_, _, _, _, wz1, _, wz2⟩ := bnd_r hc ha hb ⟨s4, hs⟩ (d := dz) (f := fz) (by omega) (by omega)
    rw [← kd] at wx2 wy2 wz2
    obtain ⟨r0, _, _, r3⟩ := isq_spec (n := 268435456 - s) (by omega) (by omega)
    generalize isq (268435456 - s) = R at *
    obtain ⟨d1, d2⟩ := bend_dot hf f2 hc c1 ha hb q3 kd
    rw [← bx, ← by', ← bz] at d1 d2
    have far : R ≤ 15 → 1000 ≤ mostI tx ty tz := by
      intro hR
      rcases (show mostI tx ty tz ≤ 999 ∨ 1000 ≤ mostI tx ty tz by omega) with h | h
      · exfalso
        obtain ⟨g1, g2, g3, _⟩ := most_spec (x := tx) (y := ty) (z := tz) (by omega)
        exact bend_far hd hf f2 hc c1 c2 ha hb se r0 r3 hR (k := k) (by rw [← bx]; omega) (by rw [← by']; omega) (by rw [← bz]; omega)
      · exact h
    have top : mostI tx ty tz ≤ 524288 := by
      unfold mostI; simp only [max_r]; rw [sat_id (by omega), sat_id (by omega), sat_id (by omega)]; omega
    refine ⟨d1, fun h => far (by omega), top, fun h0 => ?_⟩
    obtain ⟨g1, g2, g3, _⟩ := most_spec (x := tx) (y := ty) (z := tz) (by omega)
    rcases (show R ≤ 15 ∨ 15 ≤ R by omega) with h | h
    · have := far h; omega
    · have := d2 h
      rw [show tx = 0 by omega, show ty = 0 by omega, show tz = 0 by omega] at this
      omega
  have okt : s ≤ 268435456 → okU tx ty tz = true := by
    intro hs
    obtain ⟨_, _, h3, h4⟩ := core hs
    unfold okU; simp; omega
  refine ⟨fun hab => ?_, fun h q => ?_, fun h => ?_⟩
  · have hs : s ≤ 268435456 := by
      have m1 := mul_mono (a := a) (b := b) (c := a) (d := b) (by omega) hab (by omega) hab
      have m2 : (268435456 - c * c) * (a * a) ≤ 268435456 * (b * b) := (mul_mono (by omega) (by omega) m1.1 m1.2).2
      rw [se]
      exact Int.ediv_le_of_le_mul (by omega) (by rw [Int.mul_assoc]; exact m2)
    rw [isd, ok, decide_eq_true hs, okt hs]; rfl
  · rw [Ud]
    split
    · rename_i h1
      rw [isd, h1, Bool.true_and] at h
      exact unitC_no h q
    · rfl
  · rw [isd, Bool.and_eq_true] at h
    obtain ⟨h1, h2⟩ := h
    have hs : s ≤ 268435456 := by rw [ok] at h1; exact of_decide_eq_true h1
    obtain ⟨g1, g2, g3, _⟩ := core hs
    simp only [Ud, if_pos h1]
    obtain ⟨l1, l2⟩ := unit_len h2
    refine ⟨?_, l1, l2⟩
    obtain ⟨_, _, rx, ry, rz⟩ := unitC_r h2
    rw [dotN_eq (decide_eq_true (by omega)) (decide_eq_true (by omega))]
    exact unit_dot h2 g3 rfx rfy rfz g1 g2

theorem bend_same (hd : 268369924 ≤ dx * dx + dy * dy + dz * dz ∧ dx * dx + dy * dy + dz * dz < 268468225) (hu : 268369924 ≤ ux * ux + uy * uy + uz * uz ∧ ux * ux + uy * uy + uz * uz < 268468225)
    (ha : 16384 ≤ a ∧ a ≤ 65536) : ∀ q w, (q = dx ∧ w = ux ∨ q = dy ∧ w = uy ∨ q = dz ∧ w = uz) →
      -200 ≤ bendU (bndC q w dx dy dz ux uy uz a a) dx dy dz ux uy uz a a - q ∧ bendU (bndC q w dx dy dz ux uy uz a a) dx dy dz ux uy uz a a - q ≤ 200 := by
  intro q w hq
  have hi := (bend_facts hd hu ha ha).1 (Int.le_refl _)
  have cd := coord_r hd.2
  unfold bendIs at hi
  rw [Bool.and_eq_true] at hi
  unfold bendU
  rw [if_pos hi.1]
  have hc := @cosN_r ux uy uz dx dy dz
  have haa : 0 < a * a := Int.mul_pos (by omega) (by omega)
  have hk : bendK (cosN ux uy uz dx dy dz) a a = 0 := by
    unfold bendK
    rw [sineN_eq hc ha ha]
    generalize cosN ux uy uz dx dy dz = c at *
    rw [Int.mul_assoc, Int.mul_ediv_cancel _ (by omega), Int.mul_ediv_cancel _ (by omega)]
    have e : 268435456 - (268435456 - c * c) = c * c := by omega
    rw [e]
    have m := mul_mono (a := c) (b := 16384) (c := c) (d := 16384) hc.1 hc.2 hc.1 hc.2
    obtain ⟨r0, _, r2, r3⟩ := isq_spec (n := c * c) (by omega) (by omega)
    have h1 := sq_lt (a := c) (b := isq (c * c) + 1) hc.1 (by omega) (by omega)
    have e3 : (c + 1) * (c + 1) = c * c + 2 * c + 1 := by grind
    have h2 : isq (c * c) < c + 1 := sq_lt r0 (by omega) (by omega)
    omega
  have hb : ∀ p f : Int, bndC p f dx dy dz ux uy uz a a = p := by
    intro p f
    unfold bndC
    rw [hk, Int.mul_zero, Int.mul_ediv_cancel _ (by omega)]
    omega
  simp only [hb]
  have := (unit_self hd).2 q (by rcases hq with ⟨h, _⟩ | ⟨h, _⟩ | ⟨h, _⟩ <;> rw [h] <;> omega)
  exact this

end

end Go.Sky
