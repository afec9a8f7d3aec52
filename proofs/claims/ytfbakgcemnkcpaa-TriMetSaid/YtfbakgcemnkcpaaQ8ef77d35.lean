/- Trees of functions, and what they come to. -/
import Derived.Test.YtfbakgcemnkcpaaQ894ac300
set_option linter.unusedSimpArgs false
set_option linter.unusedVariables false
namespace Go.Sky
set_option maxRecDepth 100000

/-! skylightref02.Root, block 0 -/
def st_skylightref02_Root_0 (r : Int) (i : Int) (a_hi : Int) (a_lo : Int) (x0 x2 x3 x6 x7 x8 x9 x10 x11 x12 x13 x14 x15 x16 x17 x18 x19 x20 x21 x22 x23 x24 x25 x26 x27 x28 x29 x30 x31 x32 : AV) : St := ⟨[x0, .ptr (some (0, 0)), x2, x3, .int .u64 false r, .int .i64 false i, x6, x7, x8, x9, x10, x11, x12, x13, x14, x15, x16, x17, x18, x19, x20, x21, x22, x23, x24, x25, x26, x27, x28, x29, x30, x31, x32], [[.int .i64 false a_hi, .int .u64 false a_lo]]⟩
def kl_skylightref02_Root_0 (r : Int) (i : Int) (a_hi : Int) (a_lo : Int) (x0 x2 x3 x6 x7 x8 x9 x10 x11 x12 x13 x14 x15 x16 x17 x18 x19 x20 x21 x22 x23 x24 x25 x26 x27 x28 x29 x30 x31 x32 : AV) : List AV := [untag x0, untag (.ptr (some (0, 0))), untag x2, untag x3, .undef, .undef, .undef, untag x7, untag x8, untag x9, .undef, .undef, .undef, .undef, .undef, .undef, .undef, .undef, .undef, .undef, .undef, .undef, .undef, .undef, .undef, .undef, .undef, .undef, .undef, .undef, .undef, .undef, untag x32]
def sl_skylightref02_Root_0_2 (r : Int) (i : Int) (a_hi : Int) (a_lo : Int) (x0 x2 x3 x6 x7 x8 x9 x10 x11 x12 x13 x14 x15 x16 x17 x18 x19 x20 x21 x22 x23 x24 x25 x26 x27 x28 x29 x30 x31 x32 : AV) : St := ⟨[x0, AV.ptr (some (0, 0)), x2, x3, AV.int IntKind.u64 false (IntKind.u64.wrap (r + IntKind.u64.wrap (1 * 2 ^ min i.toNat 64))), AV.int IntKind.i64 false (IntKind.i64.wrap (i - 1)), AV.ptr (some (1, 0)), x7, x8, x9, AV.int IntKind.i64 false i, AV.bool false (decide (i ≥ 0)), AV.int IntKind.i64 false i, AV.int IntKind.i64 false (IntKind.i64.wrap (i - 1)), AV.int IntKind.u64 false r, AV.int IntKind.i64 false i, AV.int IntKind.u64 false (IntKind.u64.wrap (1 * 2 ^ min i.toNat 64)), AV.int IntKind.u64 false (IntKind.u64.wrap (r + IntKind.u64.wrap (1 * 2 ^ min i.toNat 64))), AV.agg [AV.int IntKind.i64 false (whi (IntKind.u64.wrap (r + IntKind.u64.wrap (1 * 2 ^ min i.toNat 64)) * IntKind.u64.wrap (r + IntKind.u64.wrap (1 * 2 ^ min i.toNat 64)))), AV.int IntKind.u64 false (wlo (IntKind.u64.wrap (r + IntKind.u64.wrap (1 * 2 ^ min i.toNat 64)) * IntKind.u64.wrap (r + IntKind.u64.wrap (1 * 2 ^ min i.toNat 64))))], AV.ptr (some (1, 0)), AV.int IntKind.i64 false (whi (IntKind.u64.wrap (r + IntKind.u64.wrap (1 * 2 ^ min i.toNat 64)) * IntKind.u64.wrap (r + IntKind.u64.wrap (1 * 2 ^ min i.toNat 64)))), AV.bool false (decide (whi (IntKind.u64.wrap (r + IntKind.u64.wrap (1 * 2 ^ min i.toNat 64)) * IntKind.u64.wrap (r + IntKind.u64.wrap (1 * 2 ^ min i.toNat 64))) ≥ 0)), AV.bool false (decide (whi (IntKind.u64.wrap (r + IntKind.u64.wrap (1 * 2 ^ min i.toNat 64)) * IntKind.u64.wrap (r + IntKind.u64.wrap (1 * 2 ^ min i.toNat 64))) ≥ 0)), AV.agg [AV.int IntKind.i64 false (whi (IntKind.u64.wrap (r + IntKind.u64.wrap (1 * 2 ^ min i.toNat 64)) * IntKind.u64.wrap (r + IntKind.u64.wrap (1 * 2 ^ min i.toNat 64)))), AV.int IntKind.u64 false (wlo (IntKind.u64.wrap (r + IntKind.u64.wrap (1 * 2 ^ min i.toNat 64)) * IntKind.u64.wrap (r + IntKind.u64.wrap (1 * 2 ^ min i.toNat 64))))], AV.agg [AV.int IntKind.i64 false a_hi, AV.int IntKind.u64 false a_lo], AV.int IntKind.i64 false (cmpI (wv (whi (IntKind.u64.wrap (r + IntKind.u64.wrap (1 * 2 ^ min i.toNat 64)) * IntKind.u64.wrap (r + IntKind.u64.wrap (1 * 2 ^ min i.toNat 64)))) (wlo (IntKind.u64.wrap (r + IntKind.u64.wrap (1 * 2 ^ min i.toNat 64)) * IntKind.u64.wrap (r + IntKind.u64.wrap (1 * 2 ^ min i.toNat 64))))) (wv a_hi a_lo)), AV.bool false (decide (cmpI (wv (whi (IntKind.u64.wrap (r + IntKind.u64.wrap (1 * 2 ^ min i.toNat 64)) * IntKind.u64.wrap (r + IntKind.u64.wrap (1 * 2 ^ min i.toNat 64)))) (wlo (IntKind.u64.wrap (r + IntKind.u64.wrap (1 * 2 ^ min i.toNat 64)) * IntKind.u64.wrap (r + IntKind.u64.wrap (1 * 2 ^ min i.toNat 64))))) (wv a_hi a_lo) ≤ 0)), AV.bool false (decide (cmpI (wv (whi (IntKind.u64.wrap (r + IntKind.u64.wrap (1 * 2 ^ min i.toNat 64)) * IntKind.u64.wrap (r + IntKind.u64.wrap (1 * 2 ^ min i.toNat 64)))) (wlo (IntKind.u64.wrap (r + IntKind.u64.wrap (1 * 2 ^ min i.toNat 64)) * IntKind.u64.wrap (r + IntKind.u64.wrap (1 * 2 ^ min i.toNat 64))))) (wv a_hi a_lo) ≤ 0)), AV.int IntKind.u64 false r, AV.int IntKind.i64 false i, AV.int IntKind.u64 false (IntKind.u64.wrap (1 * 2 ^ min i.toNat 64)), AV.int IntKind.u64 false (IntKind.u64.wrap (r + IntKind.u64.wrap (1 * 2 ^ min i.toNat 64))), x32], [[AV.int IntKind.i64 false a_hi, AV.int IntKind.u64 false a_lo], [AV.int IntKind.i64 false (whi (IntKind.u64.wrap (r + IntKind.u64.wrap (1 * 2 ^ min i.toNat 64)) * IntKind.u64.wrap (r + IntKind.u64.wrap (1 * 2 ^ min i.toNat 64)))), AV.int IntKind.u64 false (wlo (IntKind.u64.wrap (r + IntKind.u64.wrap (1 * 2 ^ min i.toNat 64)) * IntKind.u64.wrap (r + IntKind.u64.wrap (1 * 2 ^ min i.toNat 64))))]]⟩
def sl_skylightref02_Root_0_3 (r : Int) (i : Int) (a_hi : Int) (a_lo : Int) (x0 x2 x3 x6 x7 x8 x9 x10 x11 x12 x13 x14 x15 x16 x17 x18 x19 x20 x21 x22 x23 x24 x25 x26 x27 x28 x29 x30 x31 x32 : AV) : St := ⟨[x0, AV.ptr (some (0, 0)), x2, x3, AV.int IntKind.u64 false r, AV.int IntKind.i64 false (IntKind.i64.wrap (i - 1)), AV.ptr (some (1, 0)), x7, x8, x9, AV.int IntKind.i64 false i, AV.bool false (decide (i ≥ 0)), AV.int IntKind.i64 false i, AV.int IntKind.i64 false (IntKind.i64.wrap (i - 1)), AV.int IntKind.u64 false r, AV.int IntKind.i64 false i, AV.int IntKind.u64 false (IntKind.u64.wrap (1 * 2 ^ min i.toNat 64)), AV.int IntKind.u64 false (IntKind.u64.wrap (r + IntKind.u64.wrap (1 * 2 ^ min i.toNat 64))), AV.agg [AV.int IntKind.i64 false (whi (IntKind.u64.wrap (r + IntKind.u64.wrap (1 * 2 ^ min i.toNat 64)) * IntKind.u64.wrap (r + IntKind.u64.wrap (1 * 2 ^ min i.toNat 64)))), AV.int IntKind.u64 false (wlo (IntKind.u64.wrap (r + IntKind.u64.wrap (1 * 2 ^ min i.toNat 64)) * IntKind.u64.wrap (r + IntKind.u64.wrap (1 * 2 ^ min i.toNat 64))))], AV.ptr (some (1, 0)), AV.int IntKind.i64 false (whi (IntKind.u64.wrap (r + IntKind.u64.wrap (1 * 2 ^ min i.toNat 64)) * IntKind.u64.wrap (r + IntKind.u64.wrap (1 * 2 ^ min i.toNat 64)))), AV.bool false (decide (whi (IntKind.u64.wrap (r + IntKind.u64.wrap (1 * 2 ^ min i.toNat 64)) * IntKind.u64.wrap (r + IntKind.u64.wrap (1 * 2 ^ min i.toNat 64))) ≥ 0)), AV.bool false (decide (whi (IntKind.u64.wrap (r + IntKind.u64.wrap (1 * 2 ^ min i.toNat 64)) * IntKind.u64.wrap (r + IntKind.u64.wrap (1 * 2 ^ min i.toNat 64))) ≥ 0)), AV.agg [AV.int IntKind.i64 false (whi (IntKind.u64.wrap (r + IntKind.u64.wrap (1 * 2 ^ min i.toNat 64)) * IntKind.u64.wrap (r + IntKind.u64.wrap (1 * 2 ^ min i.toNat 64)))), AV.int IntKind.u64 false (wlo (IntKind.u64.wrap (r + IntKind.u64.wrap (1 * 2 ^ min i.toNat 64)) * IntKind.u64.wrap (r + IntKind.u64.wrap (1 * 2 ^ min i.toNat 64))))], AV.agg [AV.int IntKind.i64 false a_hi, AV.int IntKind.u64 false a_lo], AV.int IntKind.i64 false (cmpI (wv (whi (IntKind.u64.wrap (r + IntKind.u64.wrap (1 * 2 ^ min i.toNat 64)) * IntKind.u64.wrap (r + IntKind.u64.wrap (1 * 2 ^ min i.toNat 64)))) (wlo (IntKind.u64.wrap (r + IntKind.u64.wrap (1 * 2 ^ min i.toNat 64)) * IntKind.u64.wrap (r + IntKind.u64.wrap (1 * 2 ^ min i.toNat 64))))) (wv a_hi a_lo)), AV.bool false (decide (cmpI (wv (whi (IntKind.u64.wrap (r + IntKind.u64.wrap (1 * 2 ^ min i.toNat 64)) * IntKind.u64.wrap (r + IntKind.u64.wrap (1 * 2 ^ min i.toNat 64)))) (wlo (IntKind.u64.wrap (r + IntKind.u64.wrap (1 * 2 ^ min i.toNat 64)) * IntKind.u64.wrap (r + IntKind.u64.wrap (1 * 2 ^ min i.toNat 64))))) (wv a_hi a_lo) ≤ 0)), AV.bool false (decide (cmpI (wv (whi (IntKind.u64.wrap (r + IntKind.u64.wrap (1 * 2 ^ min i.toNat 64)) * IntKind.u64.wrap (r + IntKind.u64.wrap (1 * 2 ^ min i.toNat 64)))) (wlo (IntKind.u64.wrap (r + IntKind.u64.wrap (1 * 2 ^ min i.toNat 64)) * IntKind.u64.wrap (r + IntKind.u64.wrap (1 * 2 ^ min i.toNat 64))))) (wv a_hi a_lo) ≤ 0)), x28, x29, x30, x31, x32], [[AV.int IntKind.i64 false a_hi, AV.int IntKind.u64 false a_lo], [AV.int IntKind.i64 false (whi (IntKind.u64.wrap (r + IntKind.u64.wrap (1 * 2 ^ min i.toNat 64)) * IntKind.u64.wrap (r + IntKind.u64.wrap (1 * 2 ^ min i.toNat 64)))), AV.int IntKind.u64 false (wlo (IntKind.u64.wrap (r + IntKind.u64.wrap (1 * 2 ^ min i.toNat 64)) * IntKind.u64.wrap (r + IntKind.u64.wrap (1 * 2 ^ min i.toNat 64))))]]⟩
def sl_skylightref02_Root_0_4 (r : Int) (i : Int) (a_hi : Int) (a_lo : Int) (x0 x2 x3 x6 x7 x8 x9 x10 x11 x12 x13 x14 x15 x16 x17 x18 x19 x20 x21 x22 x23 x24 x25 x26 x27 x28 x29 x30 x31 x32 : AV) : St := ⟨[x0, AV.ptr (some (0, 0)), x2, x3, AV.int IntKind.u64 false r, AV.int IntKind.i64 false (IntKind.i64.wrap (i - 1)), AV.ptr (some (1, 0)), x7, x8, x9, AV.int IntKind.i64 false i, AV.bool false (decide (i ≥ 0)), AV.int IntKind.i64 false i, AV.int IntKind.i64 false (IntKind.i64.wrap (i - 1)), AV.int IntKind.u64 false r, AV.int IntKind.i64 false i, AV.int IntKind.u64 false (IntKind.u64.wrap (1 * 2 ^ min i.toNat 64)), AV.int IntKind.u64 false (IntKind.u64.wrap (r + IntKind.u64.wrap (1 * 2 ^ min i.toNat 64))), AV.agg [AV.int IntKind.i64 false (whi (IntKind.u64.wrap (r + IntKind.u64.wrap (1 * 2 ^ min i.toNat 64)) * IntKind.u64.wrap (r + IntKind.u64.wrap (1 * 2 ^ min i.toNat 64)))), AV.int IntKind.u64 false (wlo (IntKind.u64.wrap (r + IntKind.u64.wrap (1 * 2 ^ min i.toNat 64)) * IntKind.u64.wrap (r + IntKind.u64.wrap (1 * 2 ^ min i.toNat 64))))], AV.ptr (some (1, 0)), AV.int IntKind.i64 false (whi (IntKind.u64.wrap (r + IntKind.u64.wrap (1 * 2 ^ min i.toNat 64)) * IntKind.u64.wrap (r + IntKind.u64.wrap (1 * 2 ^ min i.toNat 64)))), AV.bool false (decide (whi (IntKind.u64.wrap (r + IntKind.u64.wrap (1 * 2 ^ min i.toNat 64)) * IntKind.u64.wrap (r + IntKind.u64.wrap (1 * 2 ^ min i.toNat 64))) ≥ 0)), AV.bool false (decide (whi (IntKind.u64.wrap (r + IntKind.u64.wrap (1 * 2 ^ min i.toNat 64)) * IntKind.u64.wrap (r + IntKind.u64.wrap (1 * 2 ^ min i.toNat 64))) ≥ 0)), AV.tuple [], AV.tuple [], AV.tuple [], AV.tuple [], AV.bool true false, x28, x29, x30, x31, x32], [[AV.int IntKind.i64 false a_hi, AV.int IntKind.u64 false a_lo], [AV.int IntKind.i64 false (whi (IntKind.u64.wrap (r + IntKind.u64.wrap (1 * 2 ^ min i.toNat 64)) * IntKind.u64.wrap (r + IntKind.u64.wrap (1 * 2 ^ min i.toNat 64)))), AV.int IntKind.u64 false (wlo (IntKind.u64.wrap (r + IntKind.u64.wrap (1 * 2 ^ min i.toNat 64)) * IntKind.u64.wrap (r + IntKind.u64.wrap (1 * 2 ^ min i.toNat 64))))]]⟩
def sl_skylightref02_Root_0_5 (r : Int) (i : Int) (a_hi : Int) (a_lo : Int) (x0 x2 x3 x6 x7 x8 x9 x10 x11 x12 x13 x14 x15 x16 x17 x18 x19 x20 x21 x22 x23 x24 x25 x26 x27 x28 x29 x30 x31 x32 : AV) : St := ⟨[x0, AV.ptr (some (0, 0)), x2, x3, AV.int IntKind.u64 false r, AV.int IntKind.i64 false i, x6, x7, x8, x9, AV.int IntKind.i64 false i, AV.bool false (decide (i ≥ 0)), x12, x13, x14, x15, x16, x17, x18, x19, x20, x21, x22, x23, x24, x25, x26, x27, x28, x29, x30, x31, x32], [[AV.int IntKind.i64 false a_hi, AV.int IntKind.u64 false a_lo]]⟩
def rd_skylightref02_Root_0 (r : Int) (i : Int) (a_hi : Int) (a_lo : Int) (x0 x2 x3 x6 x7 x8 x9 x10 x11 x12 x13 x14 x15 x16 x17 x18 x19 x20 x21 x22 x23 x24 x25 x26 x27 x28 x29 x30 x31 x32 : AV) : Tr (Ex × St) := Tr.node (decide (i ≥ 0)) (Tr.node (decide (i < 0)) (Tr.bad) (Tr.node (decide (whi (IntKind.u64.wrap (r + IntKind.u64.wrap (1 * 2 ^ min i.toNat 64)) * IntKind.u64.wrap (r + IntKind.u64.wrap (1 * 2 ^ min i.toNat 64))) ≥ 0)) (Tr.node (decide (cmpI (wv (whi (IntKind.u64.wrap (r + IntKind.u64.wrap (1 * 2 ^ min i.toNat 64)) * IntKind.u64.wrap (r + IntKind.u64.wrap (1 * 2 ^ min i.toNat 64)))) (wlo (IntKind.u64.wrap (r + IntKind.u64.wrap (1 * 2 ^ min i.toNat 64)) * IntKind.u64.wrap (r + IntKind.u64.wrap (1 * 2 ^ min i.toNat 64))))) (wv a_hi a_lo) ≤ 0)) (Tr.node (decide (i < 0)) (Tr.bad) (Tr.leaf (Ex.normal, sl_skylightref02_Root_0_2 r i a_hi a_lo x0 x2 x3 x6 x7 x8 x9 x10 x11 x12 x13 x14 x15 x16 x17 x18 x19 x20 x21 x22 x23 x24 x25 x26 x27 x28 x29 x30 x31 x32))) (Tr.leaf (Ex.normal, sl_skylightref02_Root_0_3 r i a_hi a_lo x0 x2 x3 x6 x7 x8 x9 x10 x11 x12 x13 x14 x15 x16 x17 x18 x19 x20 x21 x22 x23 x24 x25 x26 x27 x28 x29 x30 x31 x32))) (Tr.leaf (Ex.normal, sl_skylightref02_Root_0_4 r i a_hi a_lo x0 x2 x3 x6 x7 x8 x9 x10 x11 x12 x13 x14 x15 x16 x17 x18 x19 x20 x21 x22 x23 x24 x25 x26 x27 x28 x29 x30 x31 x32)))) (Tr.leaf (Ex.exit 0, sl_skylightref02_Root_0_5 r i a_hi a_lo x0 x2 x3 x6 x7 x8 x9 x10 x11 x12 x13 x14 x15 x16 x17 x18 x19 x20 x21 x22 x23 x24 x25 x26 x27 x28 x29 x30 x31 x32))
def g_skylightref02_Root_0 : PieceTold := fun l h => match l, h with | [.ptr (some (0, 0)), .int .u64 false r, .int .i64 false i], [[.int .i64 false a_hi, .int .u64 false a_lo]] => .node (decide ((0 ≤ a_hi ∧ a_hi ≤ 9223372036854775807) ∧ (0 ≤ a_lo ∧ a_lo ≤ 18446744073709551615) ∧ 0 ≤ r ∧ -1 ≤ i ∧ i ≤ 63 ∧ r + 2 ^ (i + 1).toNat ≤ 18446744073709551616)) (.leaf (.normal, [(4, u6 (isqGo (i + 1).toNat (wv a_hi a_lo) r))], [[.int .i64 false a_hi, .int .u64 false a_lo]])) .bad | _, _ => .bad
def HR_skylightref02_Root_0 (rnd : Nat → St → Tr (Ex × St)) : Prop := ∀ L (r : Int) (i : Int) (a_hi : Int) (a_lo : Int) (x0 x2 x3 x6 x7 x8 x9 x10 x11 x12 x13 x14 x15 x16 x17 x18 x19 x20 x21 x22 x23 x24 x25 x26 x27 x28 x29 x30 x31 x32 : AV), rnd L (st_skylightref02_Root_0 r i a_hi a_lo x0 x2 x3 x6 x7 x8 x9 x10 x11 x12 x13 x14 x15 x16 x17 x18 x19 x20 x21 x22 x23 x24 x25 x26 x27 x28 x29 x30 x31 x32) = rd_skylightref02_Root_0 r i a_hi a_lo x0 x2 x3 x6 x7 x8 x9 x10 x11 x12 x13 x14 x15 x16 x17 x18 x19 x20 x21 x22 x23 x24 x25 x26 x27 x28 x29 x30 x31 x32
/-- From here the loop ends so. -/
def Fin_skylightref02_Root_0 (rnd : Nat → St → Tr (Ex × St)) (r : Int) (i : Int) (a_hi : Int) (a_lo : Int) (e : Ex) (outs : List (Nat × AV)) (hp : AH → AH) : Prop := ∀ (x0 x2 x3 x6 x7 x8 x9 x10 x11 x12 x13 x14 x15 x16 x17 x18 x19 x20 x21 x22 x23 x24 x25 x26 x27 x28 x29 x30 x31 x32 : AV),
    ∃ N s', (∀ L, (loopIterG (some 1) (rnd L) (N + 1) (st_skylightref02_Root_0 r i a_hi a_lo x0 x2 x3 x6 x7 x8 x9 x10 x11 x12 x13 x14 x15 x16 x17 x18 x19 x20 x21 x22 x23 x24 x25 x26 x27 x28 x29 x30 x31 x32)).run = some (e, s')) ∧ Leaves (some 1) 33 [4, 5, 6, 10, 11, 12, 13, 14, 15, 16, 17, 18, 19, 20, 21, 22, 23, 24, 25, 26, 27, 28, 29, 30, 31] (st_skylightref02_Root_0 r i a_hi a_lo x0 x2 x3 x6 x7 x8 x9 x10 x11 x12 x13 x14 x15 x16 x17 x18 x19 x20 x21 x22 x23 x24 x25 x26 x27 x28 x29 x30 x31 x32).tmps outs (hp ([[.int .i64 false a_hi, .int .u64 false a_lo]])) s'
theorem step_skylightref02_Root_0_2 {rnd : Nat → St → Tr (Ex × St)} (hr : HR_skylightref02_Root_0 rnd) (r : Int) (i : Int) (a_hi : Int) (a_lo : Int) (c0 : (decide (i ≥ 0)) = true) (c1 : (decide (i < 0)) = false) (c2 : (decide (whi (IntKind.u64.wrap (r + IntKind.u64.wrap (1 * 2 ^ min i.toNat 64)) * IntKind.u64.wrap (r + IntKind.u64.wrap (1 * 2 ^ min i.toNat 64))) ≥ 0)) = true) (c3 : (decide (cmpI (wv (whi (IntKind.u64.wrap (r + IntKind.u64.wrap (1 * 2 ^ min i.toNat 64)) * IntKind.u64.wrap (r + IntKind.u64.wrap (1 * 2 ^ min i.toNat 64)))) (wlo (IntKind.u64.wrap (r + IntKind.u64.wrap (1 * 2 ^ min i.toNat 64)) * IntKind.u64.wrap (r + IntKind.u64.wrap (1 * 2 ^ min i.toNat 64))))) (wv a_hi a_lo) ≤ 0)) = true) (c4 : (decide (i < 0)) = false) {e : Ex} {outs : List (Nat × AV)} {hp : AH → AH} (hh : hp ((([[AV.int IntKind.i64 false a_hi, AV.int IntKind.u64 false a_lo], [AV.int IntKind.i64 false (whi (IntKind.u64.wrap (r + IntKind.u64.wrap (1 * 2 ^ min i.toNat 64)) * IntKind.u64.wrap (r + IntKind.u64.wrap (1 * 2 ^ min i.toNat 64)))), AV.int IntKind.u64 false (wlo (IntKind.u64.wrap (r + IntKind.u64.wrap (1 * 2 ^ min i.toNat 64)) * IntKind.u64.wrap (r + IntKind.u64.wrap (1 * 2 ^ min i.toNat 64))))]] : AH).take 1).map (weakL 1)) = hp ([[.int .i64 false a_hi, .int .u64 false a_lo]])) (hn : Fin_skylightref02_Root_0 rnd ((IntKind.u64.wrap (r + IntKind.u64.wrap (1 * 2 ^ min i.toNat 64)))) ((IntKind.i64.wrap (i - 1))) (a_hi) (a_lo) e outs hp) : Fin_skylightref02_Root_0 rnd r i a_hi a_lo e outs hp := by
  intro x0 x2 x3 x6 x7 x8 x9 x10 x11 x12 x13 x14 x15 x16 x17 x18 x19 x20 x21 x22 x23 x24 x25 x26 x27 x28 x29 x30 x31 x32
  obtain ⟨N, s', h1, h2⟩ := hn (weak 1 (x0)) (weak 1 (x2)) (weak 1 (x3)) (weak 1 (AV.ptr (some (1, 0)))) (weak 1 (x7)) (weak 1 (x8)) (weak 1 (x9)) (weak 1 (AV.int IntKind.i64 false i)) (weak 1 (AV.bool false (decide (i ≥ 0)))) (weak 1 (AV.int IntKind.i64 false i)) (weak 1 (AV.int IntKind.i64 false (IntKind.i64.wrap (i - 1)))) (weak 1 (AV.int IntKind.u64 false r)) (weak 1 (AV.int IntKind.i64 false i)) (weak 1 (AV.int IntKind.u64 false (IntKind.u64.wrap (1 * 2 ^ min i.toNat 64)))) (weak 1 (AV.int IntKind.u64 false (IntKind.u64.wrap (r + IntKind.u64.wrap (1 * 2 ^ min i.toNat 64))))) (weak 1 (AV.agg [AV.int IntKind.i64 false (whi (IntKind.u64.wrap (r + IntKind.u64.wrap (1 * 2 ^ min i.toNat 64)) * IntKind.u64.wrap (r + IntKind.u64.wrap (1 * 2 ^ min i.toNat 64)))), AV.int IntKind.u64 false (wlo (IntKind.u64.wrap (r + IntKind.u64.wrap (1 * 2 ^ min i.toNat 64)) * IntKind.u64.wrap (r + IntKind.u64.wrap (1 * 2 ^ min i.toNat 64))))])) (weak 1 (AV.ptr (some (1, 0)))) (weak 1 (AV.int IntKind.i64 false (whi (IntKind.u64.wrap (r + IntKind.u64.wrap (1 * 2 ^ min i.toNat 64)) * IntKind.u64.wrap (r + IntKind.u64.wrap (1 * 2 ^ min i.toNat 64)))))) (weak 1 (AV.bool false (decide (whi (IntKind.u64.wrap (r + IntKind.u64.wrap (1 * 2 ^ min i.toNat 64)) * IntKind.u64.wrap (r + IntKind.u64.wrap (1 * 2 ^ min i.toNat 64))) ≥ 0)))) (weak 1 (AV.bool false (decide (whi (IntKind.u64.wrap (r + IntKind.u64.wrap (1 * 2 ^ min i.toNat 64)) * IntKind.u64.wrap (r + IntKind.u64.wrap (1 * 2 ^ min i.toNat 64))) ≥ 0)))) (weak 1 (AV.agg [AV.int IntKind.i64 false (whi (IntKind.u64.wrap (r + IntKind.u64.wrap (1 * 2 ^ min i.toNat 64)) * IntKind.u64.wrap (r + IntKind.u64.wrap (1 * 2 ^ min i.toNat 64)))), AV.int IntKind.u64 false (wlo (IntKind.u64.wrap (r + IntKind.u64.wrap (1 * 2 ^ min i.toNat 64)) * IntKind.u64.wrap (r + IntKind.u64.wrap (1 * 2 ^ min i.toNat 64))))])) (weak 1 (AV.agg [AV.int IntKind.i64 false a_hi, AV.int IntKind.u64 false a_lo])) (weak 1 (AV.int IntKind.i64 false (cmpI (wv (whi (IntKind.u64.wrap (r + IntKind.u64.wrap (1 * 2 ^ min i.toNat 64)) * IntKind.u64.wrap (r + IntKind.u64.wrap (1 * 2 ^ min i.toNat 64)))) (wlo (IntKind.u64.wrap (r + IntKind.u64.wrap (1 * 2 ^ min i.toNat 64)) * IntKind.u64.wrap (r + IntKind.u64.wrap (1 * 2 ^ min i.toNat 64))))) (wv a_hi a_lo)))) (weak 1 (AV.bool false (decide (cmpI (wv (whi (IntKind.u64.wrap (r + IntKind.u64.wrap (1 * 2 ^ min i.toNat 64)) * IntKind.u64.wrap (r + IntKind.u64.wrap (1 * 2 ^ min i.toNat 64)))) (wlo (IntKind.u64.wrap (r + IntKind.u64.wrap (1 * 2 ^ min i.toNat 64)) * IntKind.u64.wrap (r + IntKind.u64.wrap (1 * 2 ^ min i.toNat 64))))) (wv a_hi a_lo) ≤ 0)))) (weak 1 (AV.bool false (decide (cmpI (wv (whi (IntKind.u64.wrap (r + IntKind.u64.wrap (1 * 2 ^ min i.toNat 64)) * IntKind.u64.wrap (r + IntKind.u64.wrap (1 * 2 ^ min i.toNat 64)))) (wlo (IntKind.u64.wrap (r + IntKind.u64.wrap (1 * 2 ^ min i.toNat 64)) * IntKind.u64.wrap (r + IntKind.u64.wrap (1 * 2 ^ min i.toNat 64))))) (wv a_hi a_lo) ≤ 0)))) (weak 1 (AV.int IntKind.u64 false r)) (weak 1 (AV.int IntKind.i64 false i)) (weak 1 (AV.int IntKind.u64 false (IntKind.u64.wrap (1 * 2 ^ min i.toNat 64)))) (weak 1 (AV.int IntKind.u64 false (IntKind.u64.wrap (r + IntKind.u64.wrap (1 * 2 ^ min i.toNat 64))))) (weak 1 (x32))
  refine ⟨N + 1, s', fun L => ?_, hh ▸ h2.of (s1 := sl_skylightref02_Root_0_2 r i a_hi a_lo x0 x2 x3 x6 x7 x8 x9 x10 x11 x12 x13 x14 x15 x16 x17 x18 x19 x20 x21 x22 x23 x24 x25 x26 x27 x28 x29 x30 x31 x32) rfl ((show _ = kl_skylightref02_Root_0 r i a_hi a_lo x0 x2 x3 x6 x7 x8 x9 x10 x11 x12 x13 x14 x15 x16 x17 x18 x19 x20 x21 x22 x23 x24 x25 x26 x27 x28 x29 x30 x31 x32 from rfl).trans (show kl_skylightref02_Root_0 r i a_hi a_lo x0 x2 x3 x6 x7 x8 x9 x10 x11 x12 x13 x14 x15 x16 x17 x18 x19 x20 x21 x22 x23 x24 x25 x26 x27 x28 x29 x30 x31 x32 = _ from rfl))⟩
  rw [loopIterG, hr L r i a_hi a_lo x0 x2 x3 x6 x7 x8 x9 x10 x11 x12 x13 x14 x15 x16 x17 x18 x19 x20 x21 x22 x23 x24 x25 x26 x27 x28 x29 x30 x31 x32, Tr.run_bind, show (rd_skylightref02_Root_0 r i a_hi a_lo x0 x2 x3 x6 x7 x8 x9 x10 x11 x12 x13 x14 x15 x16 x17 x18 x19 x20 x21 x22 x23 x24 x25 x26 x27 x28 x29 x30 x31 x32).run = some (.normal, sl_skylightref02_Root_0_2 r i a_hi a_lo x0 x2 x3 x6 x7 x8 x9 x10 x11 x12 x13 x14 x15 x16 x17 x18 x19 x20 x21 x22 x23 x24 x25 x26 x27 x28 x29 x30 x31 x32) from (run_t c0).trans ((run_f c1).trans ((run_t c2).trans ((run_t c3).trans ((run_f c4).trans (rfl)))))]
  exact h1 L
theorem step_skylightref02_Root_0_3 {rnd : Nat → St → Tr (Ex × St)} (hr : HR_skylightref02_Root_0 rnd) (r : Int) (i : Int) (a_hi : Int) (a_lo : Int) (c0 : (decide (i ≥ 0)) = true) (c1 : (decide (i < 0)) = false) (c2 : (decide (whi (IntKind.u64.wrap (r + IntKind.u64.wrap (1 * 2 ^ min i.toNat 64)) * IntKind.u64.wrap (r + IntKind.u64.wrap (1 * 2 ^ min i.toNat 64))) ≥ 0)) = true) (c3 : (decide (cmpI (wv (whi (IntKind.u64.wrap (r + IntKind.u64.wrap (1 * 2 ^ min i.toNat 64)) * IntKind.u64.wrap (r + IntKind.u64.wrap (1 * 2 ^ min i.toNat 64)))) (wlo (IntKind.u64.wrap (r + IntKind.u64.wrap (1 * 2 ^ min i.toNat 64)) * IntKind.u64.wrap (r + IntKind.u64.wrap (1 * 2 ^ min i.toNat 64))))) (wv a_hi a_lo) ≤ 0)) = false) {e : Ex} {outs : List (Nat × AV)} {hp : AH → AH} (hh : hp ((([[AV.int IntKind.i64 false a_hi, AV.int IntKind.u64 false a_lo], [AV.int IntKind.i64 false (whi (IntKind.u64.wrap (r + IntKind.u64.wrap (1 * 2 ^ min i.toNat 64)) * IntKind.u64.wrap (r + IntKind.u64.wrap (1 * 2 ^ min i.toNat 64)))), AV.int IntKind.u64 false (wlo (IntKind.u64.wrap (r + IntKind.u64.wrap (1 * 2 ^ min i.toNat 64)) * IntKind.u64.wrap (r + IntKind.u64.wrap (1 * 2 ^ min i.toNat 64))))]] : AH).take 1).map (weakL 1)) = hp ([[.int .i64 false a_hi, .int .u64 false a_lo]])) (hn : Fin_skylightref02_Root_0 rnd (r) ((IntKind.i64.wrap (i - 1))) (a_hi) (a_lo) e outs hp) : Fin_skylightref02_Root_0 rnd r i a_hi a_lo e outs hp := by
  intro x0 x2 x3 x6 x7 x8 x9 x10 x11 x12 x13 x14 x15 x16 x17 x18 x19 x20 x21 x22 x23 x24 x25 x26 x27 x28 x29 x30 x31 x32
  obtain ⟨N, s', h1, h2⟩ := hn (weak 1 (x0)) (weak 1 (x2)) (weak 1 (x3)) (weak 1 (AV.ptr (some (1, 0)))) (weak 1 (x7)) (weak 1 (x8)) (weak 1 (x9)) (weak 1 (AV.int IntKind.i64 false i)) (weak 1 (AV.bool false (decide (i ≥ 0)))) (weak 1 (AV.int IntKind.i64 false i)) (weak 1 (AV.int IntKind.i64 false (IntKind.i64.wrap (i - 1)))) (weak 1 (AV.int IntKind.u64 false r)) (weak 1 (AV.int IntKind.i64 false i)) (weak 1 (AV.int IntKind.u64 false (IntKind.u64.wrap (1 * 2 ^ min i.toNat 64)))) (weak 1 (AV.int IntKind.u64 false (IntKind.u64.wrap (r + IntKind.u64.wrap (1 * 2 ^ min i.toNat 64))))) (weak 1 (AV.agg [AV.int IntKind.i64 false (whi (IntKind.u64.wrap (r + IntKind.u64.wrap (1 * 2 ^ min i.toNat 64)) * IntKind.u64.wrap (r + IntKind.u64.wrap (1 * 2 ^ min i.toNat 64)))), AV.int IntKind.u64 false (wlo (IntKind.u64.wrap (r + IntKind.u64.wrap (1 * 2 ^ min i.toNat 64)) * IntKind.u64.wrap (r + IntKind.u64.wrap (1 * 2 ^ min i.toNat 64))))])) (weak 1 (AV.ptr (some (1, 0)))) (weak 1 (AV.int IntKind.i64 false (whi (IntKind.u64.wrap (r + IntKind.u64.wrap (1 * 2 ^ min i.toNat 64)) * IntKind.u64.wrap (r + IntKind.u64.wrap (1 * 2 ^ min i.toNat 64)))))) (weak 1 (AV.bool false (decide (whi (IntKind.u64.wrap (r + IntKind.u64.wrap (1 * 2 ^ min i.toNat 64)) * IntKind.u64.wrap (r + IntKind.u64.wrap (1 * 2 ^ min i.toNat 64))) ≥ 0)))) (weak 1 (AV.bool false (decide (whi (IntKind.u64.wrap (r + IntKind.u64.wrap (1 * 2 ^ min i.toNat 64)) * IntKind.u64.wrap (r + IntKind.u64.wrap (1 * 2 ^ min i.toNat 64))) ≥ 0)))) (weak 1 (AV.agg [AV.int IntKind.i64 false (whi (IntKind.u64.wrap (r + IntKind.u64.wrap (1 * 2 ^ min i.toNat 64)) * IntKind.u64.wrap (r + IntKind.u64.wrap (1 * 2 ^ min i.toNat 64)))), AV.int IntKind.u64 false (wlo (IntKind.u64.wrap (r + IntKind.u64.wrap (1 * 2 ^ min i.toNat 64)) * IntKind.u64.wrap (r + IntKind.u64.wrap (1 * 2 ^ min i.toNat 64))))])) (weak 1 (AV.agg [AV.int IntKind.i64 false a_hi, AV.int IntKind.u64 false a_lo])) (weak 1 (AV.int IntKind.i64 false (cmpI (wv (whi (IntKind.u64.wrap (r + IntKind.u64.wrap (1 * 2 ^ min i.toNat 64)) * IntKind.u64.wrap (r + IntKind.u64.wrap (1 * 2 ^ min i.toNat 64)))) (wlo (IntKind.u64.wrap (r + IntKind.u64.wrap (1 * 2 ^ min i.toNat 64)) * IntKind.u64.wrap (r + IntKind.u64.wrap (1 * 2 ^ min i.toNat 64))))) (wv a_hi a_lo)))) (weak 1 (AV.bool false (decide (cmpI (wv (whi (IntKind.u64.wrap (r + IntKind.u64.wrap (1 * 2 ^ min i.toNat 64)) * IntKind.u64.wrap (r + IntKind.u64.wrap (1 * 2 ^ min i.toNat 64)))) (wlo (IntKind.u64.wrap (r + IntKind.u64.wrap (1 * 2 ^ min i.toNat 64)) * IntKind.u64.wrap (r + IntKind.u64.wrap (1 * 2 ^ min i.toNat 64))))) (wv a_hi a_lo) ≤ 0)))) (weak 1 (AV.bool false (decide (cmpI (wv (whi (IntKind.u64.wrap (r + IntKind.u64.wrap (1 * 2 ^ min i.toNat 64)) * IntKind.u64.wrap (r + IntKind.u64.wrap (1 * 2 ^ min i.toNat 64)))) (wlo (IntKind.u64.wrap (r + IntKind.u64.wrap (1 * 2 ^ min i.toNat 64)) * IntKind.u64.wrap (r + IntKind.u64.wrap (1 * 2 ^ min i.toNat 64))))) (wv a_hi a_lo) ≤ 0)))) (weak 1 (x28)) (weak 1 (x29)) (weak 1 (x30)) (weak 1 (x31)) (weak 1 (x32))
  refine ⟨N + 1, s', fun L => ?_, hh ▸ h2.of (s1 := sl_skylightref02_Root_0_3 r i a_hi a_lo x0 x2 x3 x6 x7 x8 x9 x10 x11 x12 x13 x14 x15 x16 x17 x18 x19 x20 x21 x22 x23 x24 x25 x26 x27 x28 x29 x30 x31 x32) rfl ((show _ = kl_skylightref02_Root_0 r i a_hi a_lo x0 x2 x3 x6 x7 x8 x9 x10 x11 x12 x13 x14 x15 x16 x17 x18 x19 x20 x21 x22 x23 x24 x25 x26 x27 x28 x29 x30 x31 x32 from rfl).trans (show kl_skylightref02_Root_0 r i a_hi a_lo x0 x2 x3 x6 x7 x8 x9 x10 x11 x12 x13 x14 x15 x16 x17 x18 x19 x20 x21 x22 x23 x24 x25 x26 x27 x28 x29 x30 x31 x32 = _ from rfl))⟩
  rw [loopIterG, hr L r i a_hi a_lo x0 x2 x3 x6 x7 x8 x9 x10 x11 x12 x13 x14 x15 x16 x17 x18 x19 x20 x21 x22 x23 x24 x25 x26 x27 x28 x29 x30 x31 x32, Tr.run_bind, show (rd_skylightref02_Root_0 r i a_hi a_lo x0 x2 x3 x6 x7 x8 x9 x10 x11 x12 x13 x14 x15 x16 x17 x18 x19 x20 x21 x22 x23 x24 x25 x26 x27 x28 x29 x30 x31 x32).run = some (.normal, sl_skylightref02_Root_0_3 r i a_hi a_lo x0 x2 x3 x6 x7 x8 x9 x10 x11 x12 x13 x14 x15 x16 x17 x18 x19 x20 x21 x22 x23 x24 x25 x26 x27 x28 x29 x30 x31 x32) from (run_t c0).trans ((run_f c1).trans ((run_t c2).trans ((run_f c3).trans (rfl))))]
  exact h1 L
theorem step_skylightref02_Root_0_4 {rnd : Nat → St → Tr (Ex × St)} (hr : HR_skylightref02_Root_0 rnd) (r : Int) (i : Int) (a_hi : Int) (a_lo : Int) (c0 : (decide (i ≥ 0)) = true) (c1 : (decide (i < 0)) = false) (c2 : (decide (whi (IntKind.u64.wrap (r + IntKind.u64.wrap (1 * 2 ^ min i.toNat 64)) * IntKind.u64.wrap (r + IntKind.u64.wrap (1 * 2 ^ min i.toNat 64))) ≥ 0)) = false) {e : Ex} {outs : List (Nat × AV)} {hp : AH → AH} (hh : hp ((([[AV.int IntKind.i64 false a_hi, AV.int IntKind.u64 false a_lo], [AV.int IntKind.i64 false (whi (IntKind.u64.wrap (r + IntKind.u64.wrap (1 * 2 ^ min i.toNat 64)) * IntKind.u64.wrap (r + IntKind.u64.wrap (1 * 2 ^ min i.toNat 64)))), AV.int IntKind.u64 false (wlo (IntKind.u64.wrap (r + IntKind.u64.wrap (1 * 2 ^ min i.toNat 64)) * IntKind.u64.wrap (r + IntKind.u64.wrap (1 * 2 ^ min i.toNat 64))))]] : AH).take 1).map (weakL 1)) = hp ([[.int .i64 false a_hi, .int .u64 false a_lo]])) (hn : Fin_skylightref02_Root_0 rnd (r) ((IntKind.i64.wrap (i - 1))) (a_hi) (a_lo) e outs hp) : Fin_skylightref02_Root_0 rnd r i a_hi a_lo e outs hp := by
  intro x0 x2 x3 x6 x7 x8 x9 x10 x11 x12 x13 x14 x15 x16 x17 x18 x19 x20 x21 x22 x23 x24 x25 x26 x27 x28 x29 x30 x31 x32
  obtain ⟨N, s', h1, h2⟩ := hn (weak 1 (x0)) (weak 1 (x2)) (weak 1 (x3)) (weak 1 (AV.ptr (some (1, 0)))) (weak 1 (x7)) (weak 1 (x8)) (weak 1 (x9)) (weak 1 (AV.int IntKind.i64 false i)) (weak 1 (AV.bool false (decide (i ≥ 0)))) (weak 1 (AV.int IntKind.i64 false i)) (weak 1 (AV.int IntKind.i64 false (IntKind.i64.wrap (i - 1)))) (weak 1 (AV.int IntKind.u64 false r)) (weak 1 (AV.int IntKind.i64 false i)) (weak 1 (AV.int IntKind.u64 false (IntKind.u64.wrap (1 * 2 ^ min i.toNat 64)))) (weak 1 (AV.int IntKind.u64 false (IntKind.u64.wrap (r + IntKind.u64.wrap (1 * 2 ^ min i.toNat 64))))) (weak 1 (AV.agg [AV.int IntKind.i64 false (whi (IntKind.u64.wrap (r + IntKind.u64.wrap (1 * 2 ^ min i.toNat 64)) * IntKind.u64.wrap (r + IntKind.u64.wrap (1 * 2 ^ min i.toNat 64)))), AV.int IntKind.u64 false (wlo (IntKind.u64.wrap (r + IntKind.u64.wrap (1 * 2 ^ min i.toNat 64)) * IntKind.u64.wrap (r + IntKind.u64.wrap (1 * 2 ^ min i.toNat 64))))])) (weak 1 (AV.ptr (some (1, 0)))) (weak 1 (AV.int IntKind.i64 false (whi (IntKind.u64.wrap (r + IntKind.u64.wrap (1 * 2 ^ min i.toNat 64)) * IntKind.u64.wrap (r + IntKind.u64.wrap (1 * 2 ^ min i.toNat 64)))))) (weak 1 (AV.bool false (decide (whi (IntKind.u64.wrap (r + IntKind.u64.wrap (1 * 2 ^ min i.toNat 64)) * IntKind.u64.wrap (r + IntKind.u64.wrap (1 * 2 ^ min i.toNat 64))) ≥ 0)))) (weak 1 (AV.bool false (decide (whi (IntKind.u64.wrap (r + IntKind.u64.wrap (1 * 2 ^ min i.toNat 64)) * IntKind.u64.wrap (r + IntKind.u64.wrap (1 * 2 ^ min i.toNat 64))) ≥ 0)))) (weak 1 (AV.tuple [])) (weak 1 (AV.tuple [])) (weak 1 (AV.tuple [])) (weak 1 (AV.tuple [])) (weak 1 (AV.bool true false)) (weak 1 (x28)) (weak 1 (x29)) (weak 1 (x30)) (weak 1 (x31)) (weak 1 (x32))
  refine ⟨N + 1, s', fun L => ?_, hh ▸ h2.of (s1 := sl_skylightref02_Root_0_4 r i a_hi a_lo x0 x2 x3 x6 x7 x8 x9 x10 x11 x12 x13 x14 x15 x16 x17 x18 x19 x20 x21 x22 x23 x24 x25 x26 x27 x28 x29 x30 x31 x32) rfl ((show _ = kl_skylightref02_Root_0 r i a_hi a_lo x0 x2 x3 x6 x7 x8 x9 x10 x11 x12 x13 x14 x15 x16 x17 x18 x19 x20 x21 x22 x23 x24 x25 x26 x27 x28 x29 x30 x31 x32 from rfl).trans (show kl_skylightref02_Root_0 r i a_hi a_lo x0 x2 x3 x6 x7 x8 x9 x10 x11 x12 x13 x14 x15 x16 x17 x18 x19 x20 x21 x22 x23 x24 x25 x26 x27 x28 x29 x30 x31 x32 = _ from rfl))⟩
  rw [loopIterG, hr L r i a_hi a_lo x0 x2 x3 x6 x7 x8 x9 x10 x11 x12 x13 x14 x15 x16 x17 x18 x19 x20 x21 x22 x23 x24 x25 x26 x27 x28 x29 x30 x31 x32, Tr.run_bind, show (rd_skylightref02_Root_0 r i a_hi a_lo x0 x2 x3 x6 x7 x8 x9 x10 x11 x12 x13 x14 x15 x16 x17 x18 x19 x20 x21 x22 x23 x24 x25 x26 x27 x28 x29 x30 x31 x32).run = some (.normal, sl_skylightref02_Root_0_4 r i a_hi a_lo x0 x2 x3 x6 x7 x8 x9 x10 x11 x12 x13 x14 x15 x16 x17 x18 x19 x20 x21 x22 x23 x24 x25 x26 x27 x28 x29 x30 x31 x32) from (run_t c0).trans ((run_f c1).trans ((run_f c2).trans (rfl)))]
  exact h1 L
theorem stop_skylightref02_Root_0_5 {rnd : Nat → St → Tr (Ex × St)} (hr : HR_skylightref02_Root_0 rnd) (r : Int) (i : Int) (a_hi : Int) (a_lo : Int) (c0 : (decide (i ≥ 0)) = false) {outs : List (Nat × AV)} {hp : AH → AH} (ho : ∀ (x0 x2 x3 x6 x7 x8 x9 x10 x11 x12 x13 x14 x15 x16 x17 x18 x19 x20 x21 x22 x23 x24 x25 x26 x27 x28 x29 x30 x31 x32 : AV), outs.map (fun p => untag ((gcSt (some 1) (sl_skylightref02_Root_0_5 r i a_hi a_lo x0 x2 x3 x6 x7 x8 x9 x10 x11 x12 x13 x14 x15 x16 x17 x18 x19 x20 x21 x22 x23 x24 x25 x26 x27 x28 x29 x30 x31 x32)).tmps.getD p.1 .undef)) = outs.map (fun p => untag p.2)) (hh : ∀ h : AH, ((([[AV.int IntKind.i64 false a_hi, AV.int IntKind.u64 false a_lo]] : AH).take 1).map (weakL 1)).map untagL = (hp ([[.int .i64 false a_hi, .int .u64 false a_lo]])).map untagL) : Fin_skylightref02_Root_0 rnd r i a_hi a_lo (.exit 0) outs hp := by
  intro x0 x2 x3 x6 x7 x8 x9 x10 x11 x12 x13 x14 x15 x16 x17 x18 x19 x20 x21 x22 x23 x24 x25 x26 x27 x28 x29 x30 x31 x32
  refine ⟨0, gcSt (some 1) (sl_skylightref02_Root_0_5 r i a_hi a_lo x0 x2 x3 x6 x7 x8 x9 x10 x11 x12 x13 x14 x15 x16 x17 x18 x19 x20 x21 x22 x23 x24 x25 x26 x27 x28 x29 x30 x31 x32), fun L => ?_, Leaves.stop (s1 := sl_skylightref02_Root_0_5 r i a_hi a_lo x0 x2 x3 x6 x7 x8 x9 x10 x11 x12 x13 x14 x15 x16 x17 x18 x19 x20 x21 x22 x23 x24 x25 x26 x27 x28 x29 x30 x31 x32) (hh []) rfl (ho x0 x2 x3 x6 x7 x8 x9 x10 x11 x12 x13 x14 x15 x16 x17 x18 x19 x20 x21 x22 x23 x24 x25 x26 x27 x28 x29 x30 x31 x32) ((show _ = kl_skylightref02_Root_0 r i a_hi a_lo x0 x2 x3 x6 x7 x8 x9 x10 x11 x12 x13 x14 x15 x16 x17 x18 x19 x20 x21 x22 x23 x24 x25 x26 x27 x28 x29 x30 x31 x32 from rfl).trans (show kl_skylightref02_Root_0 r i a_hi a_lo x0 x2 x3 x6 x7 x8 x9 x10 x11 x12 x13 x14 x15 x16 x17 x18 x19 x20 x21 x22 x23 x24 x25 x26 x27 x28 x29 x30 x31 x32 = _ from rfl))⟩
  rw [loopIterG, hr L r i a_hi a_lo x0 x2 x3 x6 x7 x8 x9 x10 x11 x12 x13 x14 x15 x16 x17 x18 x19 x20 x21 x22 x23 x24 x25 x26 x27 x28 x29 x30 x31 x32, Tr.run_bind, show (rd_skylightref02_Root_0 r i a_hi a_lo x0 x2 x3 x6 x7 x8 x9 x10 x11 x12 x13 x14 x15 x16 x17 x18 x19 x20 x21 x22 x23 x24 x25 x26 x27 x28 x29 x30 x31 x32).run = some (.exit 0, sl_skylightref02_Root_0_5 r i a_hi a_lo x0 x2 x3 x6 x7 x8 x9 x10 x11 x12 x13 x14 x15 x16 x17 x18 x19 x20 x21 x22 x23 x24 x25 x26 x27 x28 x29 x30 x31 x32) from (run_f c0).trans (rfl)]
  rfl
theorem core_skylightref02_Root_0 (rnd : Nat → St → Tr (Ex × St)) (hr : HR_skylightref02_Root_0 rnd) : ∀ (r : Int) (i : Int) (a_hi : Int) (a_lo : Int), (0 ≤ a_hi ∧ a_hi ≤ 9223372036854775807) ∧ (0 ≤ a_lo ∧ a_lo ≤ 18446744073709551615) ∧ 0 ≤ r ∧ -1 ≤ i ∧ i ≤ 63 ∧ r + 2 ^ (i + 1).toNat ≤ 18446744073709551616 → Fin_skylightref02_Root_0 rnd r i a_hi a_lo (.exit 0) [(4, u6 (isqGo (i + 1).toNat (wv a_hi a_lo) r))] (fun _ => [[.int .i64 false a_hi, .int .u64 false a_lo]]) := by
  have key : ∀ (m : Nat) (r i a_hi a_lo : Int), (i + 1).toNat = m → (0 ≤ a_hi ∧ a_hi ≤ 9223372036854775807) ∧ (0 ≤ a_lo ∧ a_lo ≤ 18446744073709551615) ∧ 0 ≤ r ∧ -1 ≤ i ∧ i ≤ 63 ∧ r + 2 ^ (i + 1).toNat ≤ 18446744073709551616 →
      Fin_skylightref02_Root_0 rnd r i a_hi a_lo (.exit 0) [(4, u6 (isqGo (i + 1).toNat (wv a_hi a_lo) r))] (fun _ => [[.int .i64 false a_hi, .int .u64 false a_lo]]) := by
    intro m
    induction m with
    | zero =>
      intro r i a_hi a_lo hm ⟨h1, h2, h3, h4, h5, h6⟩
      refine stop_skylightref02_Root_0_5 hr r i a_hi a_lo (decide_eq_false (by omega)) ?_ (fun h => rfl)
      intros
      rw [hm]; rfl
    | succ m ih =>
      intro r i a_hi a_lo hm ⟨h1, h2, h3, h4, h5, h6⟩
      have hi' : i.toNat = m := by omega
      rw [hm] at h6 ⊢
      have hp : (0 : Int) < 2 ^ m := Int.pow_pos (by decide)
      have hpe : (2 : Int) ^ (m + 1) = 2 ^ m + 2 ^ m := by rw [Int.pow_succ]; omega
      have e1 : IntKind.u64.wrap (1 * 2 ^ min i.toNat 64) = 2 ^ m := by rw [hi', show min m 64 = m by omega, Int.one_mul]; exact wrap_u64_id (by omega)
      have e2 : IntKind.u64.wrap (r + 2 ^ m) = r + 2 ^ m := wrap_u64_id (by omega)
      have e4 : IntKind.i64.wrap (i - 1) = i - 1 := wrap_i64_id (by omega)
      have hi2 : (i - 1 + 1).toNat = m := by omega
      have b0 : decide (i ≥ 0) = true := decide_eq_true (by omega)
      have b1 : decide (i < 0) = false := decide_eq_false (by omega)
      have t := root_test (x := r + 2 ^ m) h1 h2 (by omega)
      have no : ¬ ((r + 2 ^ m) * (r + 2 ^ m) ≤ wv a_hi a_lo) → Fin_skylightref02_Root_0 rnd r (i - 1) a_hi a_lo (.exit 0) [(4, u6 (isqGo (m + 1) (wv a_hi a_lo) r))] (fun _ => [[.int .i64 false a_hi, .int .u64 false a_lo]]) := by
        intro hc
        have := ih r (i - 1) a_hi a_lo hi2 ⟨h1, h2, h3, by omega, by omega, by rw [hi2]; omega⟩
        rw [hi2] at this
        rw [show isqGo (m + 1) (wv a_hi a_lo) r = isqGo m (wv a_hi a_lo) r by simp only [isqGo]; rw [if_neg hc]]
        exact this
      by_cases c2 : whi ((r + 2 ^ m) * (r + 2 ^ m)) ≥ 0
      · by_cases c3 : cmpI (wv (whi ((r + 2 ^ m) * (r + 2 ^ m))) (wlo ((r + 2 ^ m) * (r + 2 ^ m)))) (wv a_hi a_lo) ≤ 0
        · have hc := t.1 ⟨c2, c3⟩
          refine step_skylightref02_Root_0_2 hr r i a_hi a_lo b0 b1 (by rw [e1, e2]; exact decide_eq_true c2) (by rw [e1, e2]; exact decide_eq_true c3) b1 rfl ?_
          rw [e1, e2, e4]
          have := ih (r + 2 ^ m) (i - 1) a_hi a_lo hi2 ⟨h1, h2, by omega, by omega, by omega, by rw [hi2]; omega⟩
          rw [hi2] at this
          rw [show isqGo (m + 1) (wv a_hi a_lo) r = isqGo m (wv a_hi a_lo) (r + 2 ^ m) by simp only [isqGo]; rw [if_pos hc]]
          exact this
        · refine step_skylightref02_Root_0_3 hr r i a_hi a_lo b0 b1 (by rw [e1, e2]; exact decide_eq_true c2) (by rw [e1, e2]; exact decide_eq_false c3) rfl ?_
          rw [e4]; exact no (fun h => c3 (t.2 h).2)
      · refine step_skylightref02_Root_0_4 hr r i a_hi a_lo b0 b1 (by rw [e1, e2]; exact decide_eq_false c2) rfl ?_
        rw [e4]; exact no (fun h => c2 (t.2 h).1)
  exact fun r i a_hi a_lo hc => key _ r i a_hi a_lo rfl hc
theorem piece_skylightref02_Root_0 {P : Program} {T : Table} {O' : Known} {f : FuncId} (hb : blockOf P f 0 = .loop (loopOf P f 0)) (hid : O' 0 = none)
    (hr : HR_skylightref02_Root_0 (fun L => evCode P (evCall P T 16 6) L O' (loopOf P f 0))) :
    ∀ (s : St) (e : Ex) (outs : List (Nat × AV)) (hp : AH), s.tmps.length = 33 → (g_skylightref02_Root_0 (([1, 4, 5] : List Nat).map fun j => untag (s.tmps.getD j .undef)) (s.heap.map untagL)).run = some (e, outs, hp) → ∃ s', Good P T O' f 0 33 [4, 5, 6, 10, 11, 12, 13, 14, 15, 16, 17, 18, 19, 20, 21, 22, 23, 24, 25, 26, 27, 28, 29, 30, 31] s e outs hp s' := by
  intro s e outs hp hk hg
  obtain ⟨tm, h⟩ := s
  have htm : untagL tm = [untag (tm.getD 0 .undef), untag (tm.getD 1 .undef), untag (tm.getD 2 .undef), untag (tm.getD 3 .undef), untag (tm.getD 4 .undef), untag (tm.getD 5 .undef), untag (tm.getD 6 .undef), untag (tm.getD 7 .undef), untag (tm.getD 8 .undef), untag (tm.getD 9 .undef), untag (tm.getD 10 .undef), untag (tm.getD 11 .undef), untag (tm.getD 12 .undef), untag (tm.getD 13 .undef), untag (tm.getD 14 .undef), untag (tm.getD 15 .undef), untag (tm.getD 16 .undef), untag (tm.getD 17 .undef), untag (tm.getD 18 .undef), untag (tm.getD 19 .undef), untag (tm.getD 20 .undef), untag (tm.getD 21 .undef), untag (tm.getD 22 .undef), untag (tm.getD 23 .undef), untag (tm.getD 24 .undef), untag (tm.getD 25 .undef), untag (tm.getD 26 .undef), untag (tm.getD 27 .undef), untag (tm.getD 28 .undef), untag (tm.getD 29 .undef), untag (tm.getD 30 .undef), untag (tm.getD 31 .undef), untag (tm.getD 32 .undef)] := tmps_eq hk
  unfold g_skylightref02_Root_0 at hg
  simp only [List.map_cons, List.map_nil] at hg
  split at hg
  · rename_i r i a_hi a_lo heq hheap
    simp only [List.cons.injEq, and_true] at heq
    obtain ⟨e1, e4, e5⟩ := heq
    simp only [Tr.run] at hg
    split at hg
    · rename_i hc
      simp only [Option.some.injEq, Prod.mk.injEq] at hg
      obtain ⟨rfl, rfl, rfl⟩ := hg
      rw [e1, e4, e5] at htm
      obtain ⟨N, s', h1, h2⟩ := core_skylightref02_Root_0 (fun L => evCode P (evCall P T 16 6) L O' (loopOf P f 0)) hr r i a_hi a_lo (of_decide_eq_true hc) (untag (tm.getD 0 .undef)) (untag (tm.getD 2 .undef)) (untag (tm.getD 3 .undef)) (untag (tm.getD 6 .undef)) (untag (tm.getD 7 .undef)) (untag (tm.getD 8 .undef)) (untag (tm.getD 9 .undef)) (untag (tm.getD 10 .undef)) (untag (tm.getD 11 .undef)) (untag (tm.getD 12 .undef)) (untag (tm.getD 13 .undef)) (untag (tm.getD 14 .undef)) (untag (tm.getD 15 .undef)) (untag (tm.getD 16 .undef)) (untag (tm.getD 17 .undef)) (untag (tm.getD 18 .undef)) (untag (tm.getD 19 .undef)) (untag (tm.getD 20 .undef)) (untag (tm.getD 21 .undef)) (untag (tm.getD 22 .undef)) (untag (tm.getD 23 .undef)) (untag (tm.getD 24 .undef)) (untag (tm.getD 25 .undef)) (untag (tm.getD 26 .undef)) (untag (tm.getD 27 .undef)) (untag (tm.getD 28 .undef)) (untag (tm.getD 29 .undef)) (untag (tm.getD 30 .undef)) (untag (tm.getD 31 .undef)) (untag (tm.getD 32 .undef)) 
      exact ⟨s', good_loop (g := (some 1)) (e1 := .exit 0) hb (fun k e => by cases e; have := congrArg List.length hheap; simp only [List.length_map, List.length_cons, List.length_nil] at this; omega) 16 6 N (by rw [htm, hheap]; exact h1) (by rw [htm]; exact h2)⟩
    · cases hg
  · cases hg

/-! skylightref02.Root -/
def tr_skylightref02_Root (a_hi : Int) (a_lo : Int) : Tr AV := Tr.node (decide (a_hi < 0)) (Tr.leaf (AV.tuple [AV.int IntKind.u64 false 0, AV.bool false false])) (Tr.node (decide ((0 ≤ a_hi ∧ a_hi ≤ 9223372036854775807) ∧ (0 ≤ a_lo ∧ a_lo ≤ 18446744073709551615) ∧ (0 : Int) ≤ 0 ∧ (-1 : Int) ≤ 63 ∧ (63 : Int) ≤ 63 ∧ (18446744073709551616 : Int) ≤ 18446744073709551616)) (Tr.leaf (AV.tuple [AV.int IntKind.u64 false (isqGo 64 (wv a_hi a_lo) 0), AV.bool false true])) Tr.bad)
theorem run_skylightref02_Root (a_hi : Int) (a_lo : Int) (h_a_hi : InR .i64 a_hi) (h_a_lo : InR .u64 a_lo) : (tr_skylightref02_Root a_hi a_lo).run = some (.tuple [u6 (rootN a_hi a_lo), bb (decide (0 ≤ a_hi))]) := by
  unfold tr_skylightref02_Root
  have ha_hi := inR_i64.1 h_a_hi
  have ha_lo := inR_u64.1 h_a_lo
  
  unfold rootN
  by_cases c0 : a_hi < 0
  · rw [if_neg (by omega), show decide (0 ≤ a_hi) = false from decide_eq_false (by omega)]
    exact run_t (decide_eq_true c0)
  rw [if_pos (by omega), show decide (0 ≤ a_hi) = true from decide_eq_true (by omega)]
  exact (run_f (decide_eq_false c0)).trans ((run_t (decide_eq_true (by omega))).trans rfl)

/-! skylightref12.times, block 0 -/
def st_skylightref12_times_0 (n : Int) (i : Int) (w_hi : Int) (w_lo : Int) (s_hi : Int) (s_lo : Int) (x0 x3 x4 x7 x8 x9 x10 x11 x12 x13 x14 x15 x16 x17 x18 x19 x20 x21 x22 x23 : AV) : St := ⟨[x0, .int .i64 false n, .ptr (some (0, 0)), x3, x4, .ptr (some (2, 0)), .int .i64 false i, x7, x8, x9, x10, x11, x12, x13, x14, x15, x16, x17, x18, x19, x20, x21, x22, x23], [[.int .i64 false w_hi, .int .u64 false w_lo], [.int .i64 false 0, .int .u64 false 0], [.int .i64 false s_hi, .int .u64 false s_lo]]⟩
def kl_skylightref12_times_0 (n : Int) (i : Int) (w_hi : Int) (w_lo : Int) (s_hi : Int) (s_lo : Int) (x0 x3 x4 x7 x8 x9 x10 x11 x12 x13 x14 x15 x16 x17 x18 x19 x20 x21 x22 x23 : AV) : List AV := [untag x0, untag (.int .i64 false n), untag (.ptr (some (0, 0))), untag x3, untag x4, untag (.ptr (some (2, 0))), .undef, untag x7, .undef, .undef, .undef, .undef, .undef, .undef, .undef, .undef, .undef, .undef, .undef, .undef, .undef, .undef, .undef, untag x23]
def sl_skylightref12_times_0_1 (n : Int) (i : Int) (w_hi : Int) (w_lo : Int) (s_hi : Int) (s_lo : Int) (x0 x3 x4 x7 x8 x9 x10 x11 x12 x13 x14 x15 x16 x17 x18 x19 x20 x21 x22 x23 : AV) : St := ⟨[x0, AV.int IntKind.i64 false n, AV.ptr (some (0, 0)), x3, x4, AV.ptr (some (2, 0)), AV.int IntKind.i64 false (IntKind.i64.wrap (i - 1)), x7, AV.int IntKind.i64 false i, AV.bool false (decide (i ≥ 0)), AV.int IntKind.i64 false i, AV.int IntKind.i64 false (IntKind.i64.wrap (i - 1)), AV.agg [AV.int IntKind.i64 false s_hi, AV.int IntKind.u64 false s_lo], AV.agg [AV.int IntKind.i64 false s_hi, AV.int IntKind.u64 false s_lo], AV.agg [AV.int IntKind.i64 false (whi (wv s_hi s_lo + wv s_hi s_lo)), AV.int IntKind.u64 false (wlo (wv s_hi s_lo + wv s_hi s_lo))], AV.int IntKind.i64 false n, AV.int IntKind.i64 false i, AV.int IntKind.i64 false (n.fdiv (2 ^ min i.toNat 64)), AV.int IntKind.i64 false (bits BinOp.and IntKind.i64 (n.fdiv (2 ^ min i.toNat 64)) 1), AV.bool false (bits BinOp.and IntKind.i64 (n.fdiv (2 ^ min i.toNat 64)) (1 : Int) == 1), AV.agg [AV.int IntKind.i64 false (whi (wv s_hi s_lo + wv s_hi s_lo)), AV.int IntKind.u64 false (wlo (wv s_hi s_lo + wv s_hi s_lo))], AV.agg [AV.int IntKind.i64 false w_hi, AV.int IntKind.u64 false w_lo], AV.agg [AV.int IntKind.i64 false (whi (wv (whi (wv s_hi s_lo + wv s_hi s_lo)) (wlo (wv s_hi s_lo + wv s_hi s_lo)) + wv w_hi w_lo)), AV.int IntKind.u64 false (wlo (wv (whi (wv s_hi s_lo + wv s_hi s_lo)) (wlo (wv s_hi s_lo + wv s_hi s_lo)) + wv w_hi w_lo))], x23], [[AV.int IntKind.i64 false w_hi, AV.int IntKind.u64 false w_lo], [AV.int IntKind.i64 false 0, AV.int IntKind.u64 false 0], [AV.int IntKind.i64 false (whi (wv (whi (wv s_hi s_lo + wv s_hi s_lo)) (wlo (wv s_hi s_lo + wv s_hi s_lo)) + wv w_hi w_lo)), AV.int IntKind.u64 false (wlo (wv (whi (wv s_hi s_lo + wv s_hi s_lo)) (wlo (wv s_hi s_lo + wv s_hi s_lo)) + wv w_hi w_lo))]]⟩
def sl_skylightref12_times_0_2 (n : Int) (i : Int) (w_hi : Int) (w_lo : Int) (s_hi : Int) (s_lo : Int) (x0 x3 x4 x7 x8 x9 x10 x11 x12 x13 x14 x15 x16 x17 x18 x19 x20 x21 x22 x23 : AV) : St := ⟨[x0, AV.int IntKind.i64 false n, AV.ptr (some (0, 0)), x3, x4, AV.ptr (some (2, 0)), AV.int IntKind.i64 false (IntKind.i64.wrap (i - 1)), x7, AV.int IntKind.i64 false i, AV.bool false (decide (i ≥ 0)), AV.int IntKind.i64 false i, AV.int IntKind.i64 false (IntKind.i64.wrap (i - 1)), AV.agg [AV.int IntKind.i64 false s_hi, AV.int IntKind.u64 false s_lo], AV.agg [AV.int IntKind.i64 false s_hi, AV.int IntKind.u64 false s_lo], AV.agg [AV.int IntKind.i64 false (whi (wv s_hi s_lo + wv s_hi s_lo)), AV.int IntKind.u64 false (wlo (wv s_hi s_lo + wv s_hi s_lo))], AV.int IntKind.i64 false n, AV.int IntKind.i64 false i, AV.int IntKind.i64 false (n.fdiv (2 ^ min i.toNat 64)), AV.int IntKind.i64 false (bits BinOp.and IntKind.i64 (n.fdiv (2 ^ min i.toNat 64)) 1), AV.bool false (bits BinOp.and IntKind.i64 (n.fdiv (2 ^ min i.toNat 64)) (1 : Int) == 1), x20, x21, x22, x23], [[AV.int IntKind.i64 false w_hi, AV.int IntKind.u64 false w_lo], [AV.int IntKind.i64 false 0, AV.int IntKind.u64 false 0], [AV.int IntKind.i64 false (whi (wv s_hi s_lo + wv s_hi s_lo)), AV.int IntKind.u64 false (wlo (wv s_hi s_lo + wv s_hi s_lo))]]⟩
def sl_skylightref12_times_0_3 (n : Int) (i : Int) (w_hi : Int) (w_lo : Int) (s_hi : Int) (s_lo : Int) (x0 x3 x4 x7 x8 x9 x10 x11 x12 x13 x14 x15 x16 x17 x18 x19 x20 x21 x22 x23 : AV) : St := ⟨[x0, AV.int IntKind.i64 false n, AV.ptr (some (0, 0)), x3, x4, AV.ptr (some (2, 0)), AV.int IntKind.i64 false i, x7, AV.int IntKind.i64 false i, AV.bool false (decide (i ≥ 0)), x10, x11, x12, x13, x14, x15, x16, x17, x18, x19, x20, x21, x22, x23], [[AV.int IntKind.i64 false w_hi, AV.int IntKind.u64 false w_lo], [AV.int IntKind.i64 false 0, AV.int IntKind.u64 false 0], [AV.int IntKind.i64 false s_hi, AV.int IntKind.u64 false s_lo]]⟩
def rd_skylightref12_times_0 (n : Int) (i : Int) (w_hi : Int) (w_lo : Int) (s_hi : Int) (s_lo : Int) (x0 x3 x4 x7 x8 x9 x10 x11 x12 x13 x14 x15 x16 x17 x18 x19 x20 x21 x22 x23 : AV) : Tr (Ex × St) := Tr.node (decide (i ≥ 0)) (Tr.node (decide (i < 0)) (Tr.bad) (Tr.node (bits BinOp.and IntKind.i64 (n.fdiv (2 ^ min i.toNat 64)) (1 : Int) == 1) (Tr.leaf (Ex.normal, sl_skylightref12_times_0_1 n i w_hi w_lo s_hi s_lo x0 x3 x4 x7 x8 x9 x10 x11 x12 x13 x14 x15 x16 x17 x18 x19 x20 x21 x22 x23)) (Tr.leaf (Ex.normal, sl_skylightref12_times_0_2 n i w_hi w_lo s_hi s_lo x0 x3 x4 x7 x8 x9 x10 x11 x12 x13 x14 x15 x16 x17 x18 x19 x20 x21 x22 x23)))) (Tr.leaf (Ex.exit 0, sl_skylightref12_times_0_3 n i w_hi w_lo s_hi s_lo x0 x3 x4 x7 x8 x9 x10 x11 x12 x13 x14 x15 x16 x17 x18 x19 x20 x21 x22 x23))
def g_skylightref12_times_0 : PieceTold := fun l h => match l, h with | [.int .i64 false n, .ptr (some (0, 0)), .ptr (some (2, 0)), .int .i64 false i], [[.int .i64 false w_hi, .int .u64 false w_lo], [.int .i64 false 0, .int .u64 false 0], [.int .i64 false s_hi, .int .u64 false s_lo]] => .node (decide ((-9223372036854775808 ≤ s_hi ∧ s_hi ≤ 9223372036854775807) ∧ (0 ≤ s_lo ∧ s_lo ≤ 18446744073709551615) ∧ 0 ≤ n ∧ n ≤ 9223372036854775807 ∧ -1 ≤ i ∧ i ≤ 62)) (.leaf (.normal, [], [[.int .i64 false w_hi, .int .u64 false w_lo], [.int .i64 false 0, .int .u64 false 0], [i6 (whi (wv s_hi s_lo * 2 ^ (i + 1).toNat + wv w_hi w_lo * (n % 2 ^ (i + 1).toNat))), u6 (wlo (wv s_hi s_lo * 2 ^ (i + 1).toNat + wv w_hi w_lo * (n % 2 ^ (i + 1).toNat)))]])) .bad | _, _ => .bad
def HR_skylightref12_times_0 (rnd : Nat → St → Tr (Ex × St)) : Prop := ∀ L (n : Int) (i : Int) (w_hi : Int) (w_lo : Int) (s_hi : Int) (s_lo : Int) (x0 x3 x4 x7 x8 x9 x10 x11 x12 x13 x14 x15 x16 x17 x18 x19 x20 x21 x22 x23 : AV), rnd L (st_skylightref12_times_0 n i w_hi w_lo s_hi s_lo x0 x3 x4 x7 x8 x9 x10 x11 x12 x13 x14 x15 x16 x17 x18 x19 x20 x21 x22 x23) = rd_skylightref12_times_0 n i w_hi w_lo s_hi s_lo x0 x3 x4 x7 x8 x9 x10 x11 x12 x13 x14 x15 x16 x17 x18 x19 x20 x21 x22 x23
/-- From here the loop ends so. -/
def Fin_skylightref12_times_0 (rnd : Nat → St → Tr (Ex × St)) (n : Int) (i : Int) (w_hi : Int) (w_lo : Int) (s_hi : Int) (s_lo : Int) (e : Ex) (outs : List (Nat × AV)) (hp : AH → AH) : Prop := ∀ (x0 x3 x4 x7 x8 x9 x10 x11 x12 x13 x14 x15 x16 x17 x18 x19 x20 x21 x22 x23 : AV),
    ∃ N s', (∀ L, (loopIterG none (rnd L) (N + 1) (st_skylightref12_times_0 n i w_hi w_lo s_hi s_lo x0 x3 x4 x7 x8 x9 x10 x11 x12 x13 x14 x15 x16 x17 x18 x19 x20 x21 x22 x23)).run = some (e, s')) ∧ Leaves none 24 [6, 8, 9, 10, 11, 12, 13, 14, 15, 16, 17, 18, 19, 20, 21, 22] (st_skylightref12_times_0 n i w_hi w_lo s_hi s_lo x0 x3 x4 x7 x8 x9 x10 x11 x12 x13 x14 x15 x16 x17 x18 x19 x20 x21 x22 x23).tmps outs (hp ([[.int .i64 false w_hi, .int .u64 false w_lo], [.int .i64 false 0, .int .u64 false 0], [.int .i64 false s_hi, .int .u64 false s_lo]])) s'
theorem step_skylightref12_times_0_1 {rnd : Nat → St → Tr (Ex × St)} (hr : HR_skylightref12_times_0 rnd) (n : Int) (i : Int) (w_hi : Int) (w_lo : Int) (s_hi : Int) (s_lo : Int) (c0 : (decide (i ≥ 0)) = true) (c1 : (decide (i < 0)) = false) (c2 : (bits BinOp.and IntKind.i64 (n.fdiv (2 ^ min i.toNat 64)) (1 : Int) == 1) = true) {e : Ex} {outs : List (Nat × AV)} {hp : AH → AH} (hh : hp ([[AV.int IntKind.i64 false w_hi, AV.int IntKind.u64 false w_lo], [AV.int IntKind.i64 false 0, AV.int IntKind.u64 false 0], [AV.int IntKind.i64 false (whi (wv (whi (wv s_hi s_lo + wv s_hi s_lo)) (wlo (wv s_hi s_lo + wv s_hi s_lo)) + wv w_hi w_lo)), AV.int IntKind.u64 false (wlo (wv (whi (wv s_hi s_lo + wv s_hi s_lo)) (wlo (wv s_hi s_lo + wv s_hi s_lo)) + wv w_hi w_lo))]]) = hp ([[.int .i64 false w_hi, .int .u64 false w_lo], [.int .i64 false 0, .int .u64 false 0], [.int .i64 false s_hi, .int .u64 false s_lo]])) (hn : Fin_skylightref12_times_0 rnd (n) ((IntKind.i64.wrap (i - 1))) (w_hi) (w_lo) ((whi (wv (whi (wv s_hi s_lo + wv s_hi s_lo)) (wlo (wv s_hi s_lo + wv s_hi s_lo)) + wv w_hi w_lo))) ((wlo (wv (whi (wv s_hi s_lo + wv s_hi s_lo)) (wlo (wv s_hi s_lo + wv s_hi s_lo)) + wv w_hi w_lo))) e outs hp) : Fin_skylightref12_times_0 rnd n i w_hi w_lo s_hi s_lo e outs hp := by
  intro x0 x3 x4 x7 x8 x9 x10 x11 x12 x13 x14 x15 x16 x17 x18 x19 x20 x21 x22 x23
  obtain ⟨N, s', h1, h2⟩ := hn (x0) (x3) (x4) (x7) (AV.int IntKind.i64 false i) (AV.bool false (decide (i ≥ 0))) (AV.int IntKind.i64 false i) (AV.int IntKind.i64 false (IntKind.i64.wrap (i - 1))) (AV.agg [AV.int IntKind.i64 false s_hi, AV.int IntKind.u64 false s_lo]) (AV.agg [AV.int IntKind.i64 false s_hi, AV.int IntKind.u64 false s_lo]) (AV.agg [AV.int IntKind.i64 false (whi (wv s_hi s_lo + wv s_hi s_lo)), AV.int IntKind.u64 false (wlo (wv s_hi s_lo + wv s_hi s_lo))]) (AV.int IntKind.i64 false n) (AV.int IntKind.i64 false i) (AV.int IntKind.i64 false (n.fdiv (2 ^ min i.toNat 64))) (AV.int IntKind.i64 false (bits BinOp.and IntKind.i64 (n.fdiv (2 ^ min i.toNat 64)) 1)) (AV.bool false (bits BinOp.and IntKind.i64 (n.fdiv (2 ^ min i.toNat 64)) (1 : Int) == 1)) (AV.agg [AV.int IntKind.i64 false (whi (wv s_hi s_lo + wv s_hi s_lo)), AV.int IntKind.u64 false (wlo (wv s_hi s_lo + wv s_hi s_lo))]) (AV.agg [AV.int IntKind.i64 false w_hi, AV.int IntKind.u64 false w_lo]) (AV.agg [AV.int IntKind.i64 false (whi (wv (whi (wv s_hi s_lo + wv s_hi s_lo)) (wlo (wv s_hi s_lo + wv s_hi s_lo)) + wv w_hi w_lo)), AV.int IntKind.u64 false (wlo (wv (whi (wv s_hi s_lo + wv s_hi s_lo)) (wlo (wv s_hi s_lo + wv s_hi s_lo)) + wv w_hi w_lo))]) (x23)
  refine ⟨N + 1, s', fun L => ?_, hh ▸ h2.of (s1 := sl_skylightref12_times_0_1 n i w_hi w_lo s_hi s_lo x0 x3 x4 x7 x8 x9 x10 x11 x12 x13 x14 x15 x16 x17 x18 x19 x20 x21 x22 x23) rfl ((show _ = kl_skylightref12_times_0 n i w_hi w_lo s_hi s_lo x0 x3 x4 x7 x8 x9 x10 x11 x12 x13 x14 x15 x16 x17 x18 x19 x20 x21 x22 x23 from rfl).trans (show kl_skylightref12_times_0 n i w_hi w_lo s_hi s_lo x0 x3 x4 x7 x8 x9 x10 x11 x12 x13 x14 x15 x16 x17 x18 x19 x20 x21 x22 x23 = _ from rfl))⟩
  rw [loopIterG, hr L n i w_hi w_lo s_hi s_lo x0 x3 x4 x7 x8 x9 x10 x11 x12 x13 x14 x15 x16 x17 x18 x19 x20 x21 x22 x23, Tr.run_bind, show (rd_skylightref12_times_0 n i w_hi w_lo s_hi s_lo x0 x3 x4 x7 x8 x9 x10 x11 x12 x13 x14 x15 x16 x17 x18 x19 x20 x21 x22 x23).run = some (.normal, sl_skylightref12_times_0_1 n i w_hi w_lo s_hi s_lo x0 x3 x4 x7 x8 x9 x10 x11 x12 x13 x14 x15 x16 x17 x18 x19 x20 x21 x22 x23) from (run_t c0).trans ((run_f c1).trans ((run_t c2).trans (rfl)))]
  exact h1 L
theorem step_skylightref12_times_0_2 {rnd : Nat → St → Tr (Ex × St)} (hr : HR_skylightref12_times_0 rnd) (n : Int) (i : Int) (w_hi : Int) (w_lo : Int) (s_hi : Int) (s_lo : Int) (c0 : (decide (i ≥ 0)) = true) (c1 : (decide (i < 0)) = false) (c2 : (bits BinOp.and IntKind.i64 (n.fdiv (2 ^ min i.toNat 64)) (1 : Int) == 1) = false) {e : Ex} {outs : List (Nat × AV)} {hp : AH → AH} (hh : hp ([[AV.int IntKind.i64 false w_hi, AV.int IntKind.u64 false w_lo], [AV.int IntKind.i64 false 0, AV.int IntKind.u64 false 0], [AV.int IntKind.i64 false (whi (wv s_hi s_lo + wv s_hi s_lo)), AV.int IntKind.u64 false (wlo (wv s_hi s_lo + wv s_hi s_lo))]]) = hp ([[.int .i64 false w_hi, .int .u64 false w_lo], [.int .i64 false 0, .int .u64 false 0], [.int .i64 false s_hi, .int .u64 false s_lo]])) (hn : Fin_skylightref12_times_0 rnd (n) ((IntKind.i64.wrap (i - 1))) (w_hi) (w_lo) ((whi (wv s_hi s_lo + wv s_hi s_lo))) ((wlo (wv s_hi s_lo + wv s_hi s_lo))) e outs hp) : Fin_skylightref12_times_0 rnd n i w_hi w_lo s_hi s_lo e outs hp := by
  intro x0 x3 x4 x7 x8 x9 x10 x11 x12 x13 x14 x15 x16 x17 x18 x19 x20 x21 x22 x23
  obtain ⟨N, s', h1, h2⟩ := hn (x0) (x3) (x4) (x7) (AV.int IntKind.i64 false i) (AV.bool false (decide (i ≥ 0))) (AV.int IntKind.i64 false i) (AV.int IntKind.i64 false (IntKind.i64.wrap (i - 1))) (AV.agg [AV.int IntKind.i64 false s_hi, AV.int IntKind.u64 false s_lo]) (AV.agg [AV.int IntKind.i64 false s_hi, AV.int IntKind.u64 false s_lo]) (AV.agg [AV.int IntKind.i64 false (whi (wv s_hi s_lo + wv s_hi s_lo)), AV.int IntKind.u64 false (wlo (wv s_hi s_lo + wv s_hi s_lo))]) (AV.int IntKind.i64 false n) (AV.int IntKind.i64 false i) (AV.int IntKind.i64 false (n.fdiv (2 ^ min i.toNat 64))) (AV.int IntKind.i64 false (bits BinOp.and IntKind.i64 (n.fdiv (2 ^ min i.toNat 64)) 1)) (AV.bool false (bits BinOp.and IntKind.i64 (n.fdiv (2 ^ min i.toNat 64)) (1 : Int) == 1)) (x20) (x21) (x22) (x23)
  refine ⟨N + 1, s', fun L => ?_, hh ▸ h2.of (s1 := sl_skylightref12_times_0_2 n i w_hi w_lo s_hi s_lo x0 x3 x4 x7 x8 x9 x10 x11 x12 x13 x14 x15 x16 x17 x18 x19 x20 x21 x22 x23) rfl ((show _ = kl_skylightref12_times_0 n i w_hi w_lo s_hi s_lo x0 x3 x4 x7 x8 x9 x10 x11 x12 x13 x14 x15 x16 x17 x18 x19 x20 x21 x22 x23 from rfl).trans (show kl_skylightref12_times_0 n i w_hi w_lo s_hi s_lo x0 x3 x4 x7 x8 x9 x10 x11 x12 x13 x14 x15 x16 x17 x18 x19 x20 x21 x22 x23 = _ from rfl))⟩
  rw [loopIterG, hr L n i w_hi w_lo s_hi s_lo x0 x3 x4 x7 x8 x9 x10 x11 x12 x13 x14 x15 x16 x17 x18 x19 x20 x21 x22 x23, Tr.run_bind, show (rd_skylightref12_times_0 n i w_hi w_lo s_hi s_lo x0 x3 x4 x7 x8 x9 x10 x11 x12 x13 x14 x15 x16 x17 x18 x19 x20 x21 x22 x23).run = some (.normal, sl_skylightref12_times_0_2 n i w_hi w_lo s_hi s_lo x0 x3 x4 x7 x8 x9 x10 x11 x12 x13 x14 x15 x16 x17 x18 x19 x20 x21 x22 x23) from (run_t c0).trans ((run_f c1).trans ((run_f c2).trans (rfl)))]
  exact h1 L
theorem stop_skylightref12_times_0_3 {rnd : Nat → St → Tr (Ex × St)} (hr : HR_skylightref12_times_0 rnd) (n : Int) (i : Int) (w_hi : Int) (w_lo : Int) (s_hi : Int) (s_lo : Int) (c0 : (decide (i ≥ 0)) = false) {outs : List (Nat × AV)} {hp : AH → AH} (ho : ∀ (x0 x3 x4 x7 x8 x9 x10 x11 x12 x13 x14 x15 x16 x17 x18 x19 x20 x21 x22 x23 : AV), outs.map (fun p => untag ((sl_skylightref12_times_0_3 n i w_hi w_lo s_hi s_lo x0 x3 x4 x7 x8 x9 x10 x11 x12 x13 x14 x15 x16 x17 x18 x19 x20 x21 x22 x23).tmps.getD p.1 .undef)) = outs.map (fun p => untag p.2)) (hh : ∀ h : AH, ([[AV.int IntKind.i64 false w_hi, AV.int IntKind.u64 false w_lo], [AV.int IntKind.i64 false 0, AV.int IntKind.u64 false 0], [AV.int IntKind.i64 false s_hi, AV.int IntKind.u64 false s_lo]]).map untagL = (hp ([[.int .i64 false w_hi, .int .u64 false w_lo], [.int .i64 false 0, .int .u64 false 0], [.int .i64 false s_hi, .int .u64 false s_lo]])).map untagL) : Fin_skylightref12_times_0 rnd n i w_hi w_lo s_hi s_lo (.exit 0) outs hp := by
  intro x0 x3 x4 x7 x8 x9 x10 x11 x12 x13 x14 x15 x16 x17 x18 x19 x20 x21 x22 x23
  refine ⟨0, gcSt none (sl_skylightref12_times_0_3 n i w_hi w_lo s_hi s_lo x0 x3 x4 x7 x8 x9 x10 x11 x12 x13 x14 x15 x16 x17 x18 x19 x20 x21 x22 x23), fun L => ?_, Leaves.stop (s1 := sl_skylightref12_times_0_3 n i w_hi w_lo s_hi s_lo x0 x3 x4 x7 x8 x9 x10 x11 x12 x13 x14 x15 x16 x17 x18 x19 x20 x21 x22 x23) (hh []) rfl (ho x0 x3 x4 x7 x8 x9 x10 x11 x12 x13 x14 x15 x16 x17 x18 x19 x20 x21 x22 x23) ((show _ = kl_skylightref12_times_0 n i w_hi w_lo s_hi s_lo x0 x3 x4 x7 x8 x9 x10 x11 x12 x13 x14 x15 x16 x17 x18 x19 x20 x21 x22 x23 from rfl).trans (show kl_skylightref12_times_0 n i w_hi w_lo s_hi s_lo x0 x3 x4 x7 x8 x9 x10 x11 x12 x13 x14 x15 x16 x17 x18 x19 x20 x21 x22 x23 = _ from rfl))⟩
  rw [loopIterG, hr L n i w_hi w_lo s_hi s_lo x0 x3 x4 x7 x8 x9 x10 x11 x12 x13 x14 x15 x16 x17 x18 x19 x20 x21 x22 x23, Tr.run_bind, show (rd_skylightref12_times_0 n i w_hi w_lo s_hi s_lo x0 x3 x4 x7 x8 x9 x10 x11 x12 x13 x14 x15 x16 x17 x18 x19 x20 x21 x22 x23).run = some (.exit 0, sl_skylightref12_times_0_3 n i w_hi w_lo s_hi s_lo x0 x3 x4 x7 x8 x9 x10 x11 x12 x13 x14 x15 x16 x17 x18 x19 x20 x21 x22 x23) from (run_f c0).trans (rfl)]
  rfl
theorem core_skylightref12_times_0 (rnd : Nat → St → Tr (Ex × St)) (hr : HR_skylightref12_times_0 rnd) : ∀ (n : Int) (i : Int) (w_hi : Int) (w_lo : Int) (s_hi : Int) (s_lo : Int), (-9223372036854775808 ≤ s_hi ∧ s_hi ≤ 9223372036854775807) ∧ (0 ≤ s_lo ∧ s_lo ≤ 18446744073709551615) ∧ 0 ≤ n ∧ n ≤ 9223372036854775807 ∧ -1 ≤ i ∧ i ≤ 62 → Fin_skylightref12_times_0 rnd n i w_hi w_lo s_hi s_lo (.exit 0) [] (fun _ => [[.int .i64 false w_hi, .int .u64 false w_lo], [.int .i64 false 0, .int .u64 false 0], [i6 (whi (wv s_hi s_lo * 2 ^ (i + 1).toNat + wv w_hi w_lo * (n % 2 ^ (i + 1).toNat))), u6 (wlo (wv s_hi s_lo * 2 ^ (i + 1).toNat + wv w_hi w_lo * (n % 2 ^ (i + 1).toNat)))]]) := by
  have key : ∀ (m : Nat) (n i w_hi w_lo s_hi s_lo : Int), (i + 1).toNat = m → (-9223372036854775808 ≤ s_hi ∧ s_hi ≤ 9223372036854775807) ∧ (0 ≤ s_lo ∧ s_lo ≤ 18446744073709551615) ∧ 0 ≤ n ∧ n ≤ 9223372036854775807 ∧ -1 ≤ i ∧ i ≤ 62 →
      Fin_skylightref12_times_0 rnd n i w_hi w_lo s_hi s_lo (.exit 0) [] (fun _ => [[.int .i64 false w_hi, .int .u64 false w_lo], [.int .i64 false 0, .int .u64 false 0], [i6 (whi (wv s_hi s_lo * 2 ^ (i + 1).toNat + wv w_hi w_lo * (n % 2 ^ (i + 1).toNat))), u6 (wlo (wv s_hi s_lo * 2 ^ (i + 1).toNat + wv w_hi w_lo * (n % 2 ^ (i + 1).toNat)))]]) := by
    intro m
    induction m with
    | zero =>
      intro n i w_hi w_lo s_hi s_lo hm ⟨h1, h2, h3, h4, h5, h6⟩
      refine stop_skylightref12_times_0_3 hr n i w_hi w_lo s_hi s_lo (decide_eq_false (by omega)) (by intros; rfl) (fun h => ?_)
      have e : wv s_hi s_lo * 2 ^ (i + 1).toNat + wv w_hi w_lo * (n % 2 ^ (i + 1).toNat) = wv s_hi s_lo := by rw [hm]; simp
      rw [e]
      have e2 := wA_wv h1 h2
      unfold wA w2 at e2
      simp only [AV.agg.injEq, List.cons.injEq, i6, u6, AV.int.injEq, true_and, and_true] at e2
      rw [e2.1, e2.2]; rfl
    | succ m ih =>
      intro n i w_hi w_lo s_hi s_lo hm ⟨h1, h2, h3, h4, h5, h6⟩
      have hi' : i.toNat = m := by omega
      have hp : (0 : Int) < 2 ^ m := Int.pow_pos (by decide)
      have e4 : IntKind.i64.wrap (i - 1) = i - 1 := wrap_i64_id (by omega)
      have hi2 : (i - 1 + 1).toNat = m := by omega
      have b0 : decide (i ≥ 0) = true := decide_eq_true (by omega)
      have b1 : decide (i < 0) = false := decide_eq_false (by omega)
      have eb : Go.bits BinOp.and IntKind.i64 (n.fdiv (2 ^ min i.toNat 64)) 1 = n / 2 ^ m % 2 := by
        rw [hi', show min m 64 = m by omega, Int.fdiv_eq_ediv_of_nonneg _ (by omega)]
        have d0 : 0 ≤ n / 2 ^ m := Int.ediv_nonneg h3 (by omega)
        have d1 : n / 2 ^ m ≤ n := Int.ediv_le_self _ h3
        exact bits_one (by omega)
      have sp := bit_split m h3
      have go : ∀ (Y : Int), wv s_hi s_lo * 2 ^ (m + 1) + wv w_hi w_lo * (n % 2 ^ (m + 1)) = Y * 2 ^ m + wv w_hi w_lo * (n % 2 ^ m) →
          Fin_skylightref12_times_0 rnd n (i - 1) w_hi w_lo (whi Y) (wlo Y) (.exit 0) [] (fun _ => [[.int .i64 false w_hi, .int .u64 false w_lo], [.int .i64 false 0, .int .u64 false 0], [i6 (whi (wv s_hi s_lo * 2 ^ (i + 1).toNat + wv w_hi w_lo * (n % 2 ^ (i + 1).toNat))), u6 (wlo (wv s_hi s_lo * 2 ^ (i + 1).toNat + wv w_hi w_lo * (n % 2 ^ (i + 1).toNat)))]]) := by
        intro Y hY
        have := ih n (i - 1) w_hi w_lo (whi Y) (wlo Y) hi2 ⟨whi_r Y, wlo_r Y, h3, h4, by omega, by omega⟩
        rw [hi2, wv_sg, whi_congr (sg_mul Y (2 ^ m) (wv w_hi w_lo * (n % 2 ^ m))), wlo_congr (sg_mul Y (2 ^ m) (wv w_hi w_lo * (n % 2 ^ m)))] at this
        rw [hm, hY]
        exact this
      have hpe : (2 : Int) ^ (m + 1) = 2 * 2 ^ m := by rw [Int.pow_succ]; omega
      by_cases c : n / 2 ^ m % 2 = 1
      · refine step_skylightref12_times_0_1 hr n i w_hi w_lo s_hi s_lo b0 b1 (by rw [eb]; simpa using c) rfl ?_
        rw [e4]
        rw [wv_sg]
        have e : whi (sg (wv s_hi s_lo + wv s_hi s_lo) + wv w_hi w_lo) = whi (wv s_hi s_lo + wv s_hi s_lo + wv w_hi w_lo) ∧ wlo (sg (wv s_hi s_lo + wv s_hi s_lo) + wv w_hi w_lo) = wlo (wv s_hi s_lo + wv s_hi s_lo + wv w_hi w_lo) :=
          ⟨whi_congr (by unfold sg; omega), wlo_congr (by unfold sg; omega)⟩
        rw [e.1, e.2]
        exact go _ (by rw [sp, c, hpe]; generalize (2 : Int) ^ m = p; grind)
      · have c0 : n / 2 ^ m % 2 = 0 := by omega
        refine step_skylightref12_times_0_2 hr n i w_hi w_lo s_hi s_lo b0 b1 (by rw [eb]; simpa using c) rfl ?_
        rw [e4]
        exact go _ (by rw [sp, c0, hpe]; generalize (2 : Int) ^ m = p; grind)
  exact fun n i w_hi w_lo s_hi s_lo hc => key _ n i w_hi w_lo s_hi s_lo rfl hc
theorem piece_skylightref12_times_0 {P : Program} {T : Table} {O' : Known} {f : FuncId} (hb : blockOf P f 0 = .loop (loopOf P f 0)) (hid : O' 0 = none)
    (hr : HR_skylightref12_times_0 (fun L => evCode P (evCall P T 16 6) L O' (loopOf P f 0))) :
    ∀ (s : St) (e : Ex) (outs : List (Nat × AV)) (hp : AH), s.tmps.length = 24 → (g_skylightref12_times_0 (([1, 2, 5, 6] : List Nat).map fun j => untag (s.tmps.getD j .undef)) (s.heap.map untagL)).run = some (e, outs, hp) → ∃ s', Good P T O' f 0 24 [6, 8, 9, 10, 11, 12, 13, 14, 15, 16, 17, 18, 19, 20, 21, 22] s e outs hp s' := by
  intro s e outs hp hk hg
  obtain ⟨tm, h⟩ := s
  have htm : untagL tm = [untag (tm.getD 0 .undef), untag (tm.getD 1 .undef), untag (tm.getD 2 .undef), untag (tm.getD 3 .undef), untag (tm.getD 4 .undef), untag (tm.getD 5 .undef), untag (tm.getD 6 .undef), untag (tm.getD 7 .undef), untag (tm.getD 8 .undef), untag (tm.getD 9 .undef), untag (tm.getD 10 .undef), untag (tm.getD 11 .undef), untag (tm.getD 12 .undef), untag (tm.getD 13 .undef), untag (tm.getD 14 .undef), untag (tm.getD 15 .undef), untag (tm.getD 16 .undef), untag (tm.getD 17 .undef), untag (tm.getD 18 .undef), untag (tm.getD 19 .undef), untag (tm.getD 20 .undef), untag (tm.getD 21 .undef), untag (tm.getD 22 .undef), untag (tm.getD 23 .undef)] := tmps_eq hk
  unfold g_skylightref12_times_0 at hg
  simp only [List.map_cons, List.map_nil] at hg
  split at hg
  · rename_i n i w_hi w_lo s_hi s_lo heq hheap
    simp only [List.cons.injEq, and_true] at heq
    obtain ⟨e1, e2, e5, e6⟩ := heq
    simp only [Tr.run] at hg
    split at hg
    · rename_i hc
      simp only [Option.some.injEq, Prod.mk.injEq] at hg
      obtain ⟨rfl, rfl, rfl⟩ := hg
      rw [e1, e2, e5, e6] at htm
      obtain ⟨N, s', h1, h2⟩ := core_skylightref12_times_0 (fun L => evCode P (evCall P T 16 6) L O' (loopOf P f 0)) hr n i w_hi w_lo s_hi s_lo (of_decide_eq_true hc) (untag (tm.getD 0 .undef)) (untag (tm.getD 3 .undef)) (untag (tm.getD 4 .undef)) (untag (tm.getD 7 .undef)) (untag (tm.getD 8 .undef)) (untag (tm.getD 9 .undef)) (untag (tm.getD 10 .undef)) (untag (tm.getD 11 .undef)) (untag (tm.getD 12 .undef)) (untag (tm.getD 13 .undef)) (untag (tm.getD 14 .undef)) (untag (tm.getD 15 .undef)) (untag (tm.getD 16 .undef)) (untag (tm.getD 17 .undef)) (untag (tm.getD 18 .undef)) (untag (tm.getD 19 .undef)) (untag (tm.getD 20 .undef)) (untag (tm.getD 21 .undef)) (untag (tm.getD 22 .undef)) (untag (tm.getD 23 .undef)) 
      exact ⟨s', good_loop (g := none) (e1 := .exit 0) hb (fun k e => by cases e) 16 6 N (by rw [htm, hheap]; exact h1) (by rw [htm]; exact h2)⟩
    · cases hg
  · cases hg

/-! skylightref12.times -/
def tr_skylightref12_times (w_hi : Int) (w_lo : Int) (n : Int) : Tr AV := Tr.node (decide (((-9223372036854775808 : Int) ≤ 0 ∧ (0 : Int) ≤ 9223372036854775807) ∧ ((0 : Int) ≤ 0 ∧ (0 : Int) ≤ 18446744073709551615) ∧ 0 ≤ n ∧ n ≤ 9223372036854775807 ∧ (-1 : Int) ≤ 62 ∧ (62 : Int) ≤ 62)) (Tr.leaf (AV.agg [AV.int IntKind.i64 false (whi (0 + wv w_hi w_lo * (n % 9223372036854775808))), AV.int IntKind.u64 false (wlo (0 + wv w_hi w_lo * (n % 9223372036854775808)))])) Tr.bad
theorem run_skylightref12_times (w_hi : Int) (w_lo : Int) (n : Int) (h_w_hi : InR .i64 w_hi) (h_w_lo : InR .u64 w_lo) (h_n : InR .i64 n) (hpre : 0 ≤ n) : (tr_skylightref12_times w_hi w_lo n).run = some (wA (wv w_hi w_lo * n)) := by
  unfold tr_skylightref12_times
  have hn := inR_i64.1 h_n
  
  refine (run_t (decide_eq_true (by omega))).trans ?_
  rw [Int.emod_eq_of_lt (by omega) (by omega), show (0 : Int) + wv w_hi w_lo * n = wv w_hi w_lo * n by omega]
  rfl

end Go.Sky

/- Balls: what is reckoned. -/
set_option linter.unusedSimpArgs false
set_option linter.unusedVariables false
namespace Go.Sky

def placeB (x y z : Int) : Bool := decide ((-524288 ≤ x ∧ x ≤ 524288) ∧ (-524288 ≤ y ∧ y ≤ 524288) ∧ (-524288 ≤ z ∧ z ≤ 524288))
def bRight (cx cy cz r : Int) : Bool := placeB cx cy cz && decide (4 ≤ r ∧ r ≤ 262144)
/-- The three numbers of a ball's equation. -/
def bA (dx dy dz : Int) : Int := dotI dx dy dz dx dy dz
def bB (cx cy cz ox oy oz dx dy dz : Int) : Int := dotI (ox - cx) (oy - cy) (oz - cz) dx dy dz
def bQ (cx cy cz r ox oy oz : Int) : Int := dotI (ox - cx) (oy - cy) (oz - cz) (ox - cx) (oy - cy) (oz - cz) - r * r
def bMay (cx cy cz r ox oy oz dx dy dz : Int) : Bool := bRight cx cy cz r && placeB ox oy oz && nearB dx dy dz && !decide (dx = 0 ∧ dy = 0 ∧ dz = 0)
def bDisc (cx cy cz r ox oy oz dx dy dz : Int) : Int := bB cx cy cz ox oy oz dx dy dz * bB cx cy cz ox oy oz dx dy dz - bA dx dy dz * bQ cx cy cz r ox oy oz
def bS (cx cy cz r ox oy oz dx dy dz : Int) : Int := isq (bDisc cx cy cz r ox oy oz dx dy dz)
def hitOk (cx cy cz r ox oy oz dx dy dz : Int) : Bool :=
  bMay cx cy cz r ox oy oz dx dy dz && decide (0 ≤ bDisc cx cy cz r ox oy oz dx dy dz) &&
    decide ((bQ cx cy cz r ox oy oz > 0 ∧ bB cx cy cz ox oy oz dx dy dz < 0) ∨ (bQ cx cy cz r ox oy oz ≤ 0 ∧ bS cx cy cz r ox oy oz dx dy dz - bB cx cy cz ox oy oz dx dy dz > 0))
def hitN (cx cy cz r ox oy oz dx dy dz : Int) : Int :=
  if hitOk cx cy cz r ox oy oz dx dy dz = true then (if bQ cx cy cz r ox oy oz > 0 then -bB cx cy cz ox oy oz dx dy dz - bS cx cy cz r ox oy oz dx dy dz else bS cx cy cz r ox oy oz dx dy dz - bB cx cy cz ox oy oz dx dy dz) else 0
def hitD (cx cy cz r ox oy oz dx dy dz : Int) : Int := if hitOk cx cy cz r ox oy oz dx dy dz = true then bA dx dy dz else 0
def thrOk (cx cy cz r ox oy oz dx dy dz : Int) : Bool := bMay cx cy cz r ox oy oz dx dy dz && decide (bB cx cy cz ox oy oz dx dy dz < 0)
def thrN (cx cy cz r ox oy oz dx dy dz : Int) : Int := if thrOk cx cy cz r ox oy oz dx dy dz = true then -2 * bB cx cy cz ox oy oz dx dy dz else 0
def thrD (cx cy cz r ox oy oz dx dy dz : Int) : Int := if thrOk cx cy cz r ox oy oz dx dy dz = true then bA dx dy dz else 0
/-- A coordinate of a direction that stands upon a ball; 'u' what it is if there is none. -/
def norC (k u cx cy cz ax ay az : Int) : Int := if placeB cx cy cz = true ∧ placeB ax ay az = true ∧ okU (ax - cx) (ay - cy) (az - cz) = true then unitC (ax - cx) (ay - cy) (az - cz) k else u
def insB (cx cy cz r ax ay az : Int) : Bool := bRight cx cy cz r && placeB ax ay az && decide (bQ cx cy cz r ax ay az ≤ 0)
def frA (n d : Int) : AV := .agg [i6 n, i6 d]

def mayE (cx cy cz r ox oy oz dx dy dz : Int) : Bool := bRight cx cy cz r && placeB ox oy oz && nearB dx dy dz
def eA (cx cy cz r ox oy oz dx dy dz : Int) : Int := if mayE cx cy cz r ox oy oz dx dy dz = true then bA dx dy dz else 0
def eB (cx cy cz r ox oy oz dx dy dz : Int) : Int := if mayE cx cy cz r ox oy oz dx dy dz = true then bB cx cy cz ox oy oz dx dy dz else 0
def eQ (cx cy cz r ox oy oz dx dy dz : Int) : Int := if mayE cx cy cz r ox oy oz dx dy dz = true then bQ cx cy cz r ox oy oz else 0
/-- A ball's equation at 'n' by 'd'. -/
def vP (cx cy cz r ox oy oz dx dy dz n d : Int) : Int := bA dx dy dz * n * n + 2 * bB cx cy cz ox oy oz dx dy dz * n * d + bQ cx cy cz r ox oy oz * d * d

theorem place_r {x y z : Int} (h : placeB x y z = true) : (-524288 ≤ x ∧ x ≤ 524288) ∧ (-524288 ≤ y ∧ y ≤ 524288) ∧ (-524288 ≤ z ∧ z ≤ 524288) := of_decide_eq_true h
theorem way1 {o c : Int} (ho : -1048576 ≤ o ∧ o ≤ 1048576) (hc : -1048576 ≤ c ∧ c ≤ 1048576) : sat (o + sat (c * -1)) = o - c := by unfold sat; omega
theorem way_near {cx cy cz ox oy oz : Int} (hc : placeB cx cy cz = true) (ho : placeB ox oy oz = true) : nearB (ox - cx) (oy - cy) (oz - cz) = true := by
  have := place_r hc; have := place_r ho
  unfold nearB; exact decide_eq_true (by omega)
theorem bRight_r {cx cy cz r : Int} (h : bRight cx cy cz r = true) : placeB cx cy cz = true ∧ 4 ≤ r ∧ r ≤ 262144 := by
  unfold bRight at h; simp only [Bool.and_eq_true, decide_eq_true_eq] at h; exact h
theorem mayE_r {cx cy cz r ox oy oz dx dy dz : Int} (h : mayE cx cy cz r ox oy oz dx dy dz = true) : (placeB cx cy cz = true ∧ 4 ≤ r ∧ r ≤ 262144) ∧ placeB ox oy oz = true ∧ nearB dx dy dz = true := by
  unfold mayE at h; simp only [Bool.and_eq_true] at h; exact ⟨bRight_r h.1.1, h.1.2, h.2⟩
theorem bMay_iff {cx cy cz r ox oy oz dx dy dz : Int} : bMay cx cy cz r ox oy oz dx dy dz = (mayE cx cy cz r ox oy oz dx dy dz && !decide (dx = 0 ∧ dy = 0 ∧ dz = 0)) := rfl

theorem dotI_self {x y z : Int} : 0 ≤ dotI x y z x y z ∧ (dotI x y z x y z = 0 ↔ x = 0 ∧ y = 0 ∧ z = 0) := by
  have h1 := sq_nonneg x; have h2 := sq_nonneg y; have h3 := sq_nonneg z
  unfold dotI
  refine ⟨by omega, fun h => ?_, fun ⟨a, b, c⟩ => by rw [a, b, c]; rfl⟩
  have z0 : ∀ n : Int, n * n = 0 → n = 0 := fun n h => by rcases Int.mul_eq_zero.1 h with h | h <;> exact h
  exact ⟨z0 x (by omega), z0 y (by omega), z0 z (by omega)⟩

/-- What is reckoned of a ball and a ray that may be. -/
theorem ball_facts {cx cy cz r ox oy oz dx dy dz : Int} (h : mayE cx cy cz r ox oy oz dx dy dz = true) :
    (sat (ox + sat (cx * -1)) = ox - cx ∧ sat (oy + sat (cy * -1)) = oy - cy ∧ sat (oz + sat (cz * -1)) = oz - cz) ∧
    dotN dx dy dz dx dy dz = bA dx dy dz ∧ dotN (ox - cx) (oy - cy) (oz - cz) dx dy dz = bB cx cy cz ox oy oz dx dy dz ∧
    IntKind.i64.wrap (dotN (ox - cx) (oy - cy) (oz - cz) (ox - cx) (oy - cy) (oz - cz) - IntKind.i64.wrap (r * r)) = bQ cx cy cz r ox oy oz ∧
    (0 ≤ bA dx dy dz ∧ bA dx dy dz ≤ 3298534883328) ∧ (-3298534883328 ≤ bB cx cy cz ox oy oz dx dy dz ∧ bB cx cy cz ox oy oz dx dy dz ≤ 3298534883328) ∧
    (-68719476736 ≤ bQ cx cy cz r ox oy oz ∧ bQ cx cy cz r ox oy oz ≤ 3298534883328) ∧ (bA dx dy dz = 0 ↔ dx = 0 ∧ dy = 0 ∧ dz = 0) := by
  obtain ⟨⟨hc, hr⟩, ho, hd⟩ := mayE_r h
  have rc := place_r hc; have ro := place_r ho
  have nw := way_near hc ho
  have e1 : ∀ {x y z a b c : Int}, nearB x y z = true → nearB a b c = true → dotN x y z a b c = dotI x y z a b c := fun h1 h2 => by unfold dotN; rw [if_pos ⟨h1, h2⟩]
  have rr := mul_mono (a := r) (b := 262144) (c := r) (d := 262144) (by omega) hr.2 (by omega) hr.2
  have q1 := dotI_r nw nw
  have q0 := (@dotI_self (ox - cx) (oy - cy) (oz - cz)).1
  have a1 := dotI_r hd hd
  refine ⟨⟨way1 (by omega) (by omega), way1 (by omega) (by omega), way1 (by omega) (by omega)⟩, e1 hd hd, e1 nw hd, ?_, ?_, dotI_r nw hd, ?_, dotI_self.2⟩
  · rw [e1 nw nw, wrap_i64_id (n := r * r) (by omega), wrap_i64_id (by omega)]; rfl
  · have := (@dotI_self dx dy dz).1; unfold bA; omega
  · unfold bQ; omega

theorem disc_r {a b q : Int} (ha : 0 ≤ a ∧ a ≤ 3298534883328) (hb : -3298534883328 ≤ b ∧ b ≤ 3298534883328) (hq : -68719476736 ≤ q ∧ q ≤ 3298534883328) :
    -10880332376531662572355584 ≤ b * b - a * q ∧ b * b - a * q ≤ 21760664753063325144711168 ∧ 0 ≤ b * b ∧ b * b ≤ 10880332376531662572355584 := by
  have h1 := mul_abs hb hb
  have h0 := sq_nonneg b
  have h2 := mul_abs (x := a) (y := q) (m := 3298534883328) (k := 3298534883328) (by omega) (by omega)
  omega

theorem root_w {D : Int} (h : -10880332376531662572355584 ≤ D ∧ D ≤ 21760664753063325144711168) :
    (0 ≤ whi D ↔ 0 ≤ D) ∧ (0 ≤ D → rootN (whi D) (wlo D) = isq D ∧ 0 ≤ isq D ∧ isq D ≤ 4664832768000 ∧ isq D * isq D ≤ D ∧ D < (isq D + 1) * (isq D + 1)) ∧ (D < 0 → rootN (whi D) (wlo D) = 0) := by
  have e : 0 ≤ whi D ↔ 0 ≤ D := by unfold whi; rw [wrap_i64]; omega
  refine ⟨e, fun h0 => ?_, fun h0 => ?_⟩
  · obtain ⟨s0, s1, s2, s3⟩ := isq_spec h0 (by omega)
    refine ⟨?_, s0, ?_, s2, s3⟩
    · unfold rootN; rw [if_pos (e.2 h0), wv_sg, sg_id (by omega)]
    · have : isq D < 4664832768001 := sq_lt s0 (by decide) (by omega)
      omega
  · unfold rootN; rw [if_neg (fun h1 => by have := e.1 h1; omega)]

theorem whi_sgm (V W : Int) : whi (sg V - sg W) = whi (V - W) := by unfold sg whi; rw [wrap_i64, wrap_i64]; omega
theorem wlo_sgm (V W : Int) : wlo (sg V - sg W) = wlo (V - W) := by unfold sg wlo; omega

theorem hit_pos {a b q s : Int} (ha : 0 < a) (hs : 0 ≤ s) (h : s * s ≤ b * b - a * q) (hq : 0 < q) (hb : b < 0) : s < -b := by
  have h1 : 0 < a * q := Int.mul_pos ha hq
  apply sq_lt hs (by omega)
  rw [Int.neg_mul_neg]; omega

/-- The roots of two halves. -/
theorem wv_split (x : Int) : wv (x / 18446744073709551616) (x % 18446744073709551616) = x := by unfold wv; omega

end Go.Sky

/- Trees of functions, and what they come to. -/
set_option linter.unusedSimpArgs false
set_option linter.unusedVariables false
namespace Go.Sky
set_option maxRecDepth 100000

/-! tri.Place -/
def tr_tri_Place (v_x : Int) (v_y : Int) (v_z : Int) : Tr AV := Tr.node (decide (mm true (mm true v_x v_y) v_z ≤ 524288)) (Tr.leaf (AV.bool false (decide (mm false (mm false v_x v_y) v_z ≥ -524288)))) (Tr.leaf (AV.bool false false))
theorem run_tri_Place (v_x : Int) (v_y : Int) (v_z : Int) (h_v_x : InR .i64 v_x) (h_v_y : InR .i64 v_y) (h_v_z : InR .i64 v_z) : (tr_tri_Place v_x v_y v_z).run = some (bb (placeB v_x v_y v_z)) := by
  unfold tr_tri_Place
  simp only [Tr.run, bb, mx_le, mn_ge, decide_eq_true_eq]
  by_cases h : v_x ≤ 524288 ∧ v_y ≤ 524288 ∧ v_z ≤ 524288
  · rw [if_pos h]; congr 2; unfold placeB; rw [decide_eq_decide]; omega
  · rw [if_neg h]; congr 2; symm; unfold placeB; exact decide_eq_false (by omega)

/-! skylightref11.Place -/
def tr_skylightref11_Place (v_x : Int) (v_y : Int) (v_z : Int) : Tr AV := Tr.node (decide (v_x ≥ -524288)) (Tr.node (decide (v_x ≤ 524288)) (Tr.node (decide (v_y ≥ -524288)) (Tr.node (decide (v_y ≤ 524288)) (Tr.node (decide (v_z ≥ -524288)) (Tr.leaf (AV.bool false (decide (v_z ≤ 524288)))) (Tr.leaf (AV.bool false false))) (Tr.leaf (AV.bool false false))) (Tr.leaf (AV.bool false false))) (Tr.leaf (AV.bool false false))) (Tr.leaf (AV.bool false false))
theorem run_skylightref11_Place (v_x : Int) (v_y : Int) (v_z : Int) (h_v_x : InR .i64 v_x) (h_v_y : InR .i64 v_y) (h_v_z : InR .i64 v_z) : (tr_skylightref11_Place v_x v_y v_z).run = some (bb (placeB v_x v_y v_z)) := by
  unfold tr_skylightref11_Place
  unfold placeB
  by_cases h : (-524288 ≤ v_x ∧ v_x ≤ 524288) ∧ (-524288 ≤ v_y ∧ v_y ≤ 524288) ∧ (-524288 ≤ v_z ∧ v_z ≤ 524288)
  · rw [decide_eq_true h]
    repeat (first | refine (run_t (by first | rfl | (simp only [decide_eq_true_eq, decide_eq_false_iff_not, Bool.not_eq_true', Bool.not_eq_false', beq_iff_eq, beq_eq_false_iff_ne, min_r, ne_eq]; omega))).trans ?_ | refine (run_f (by first | rfl | (simp only [decide_eq_true_eq, decide_eq_false_iff_not, Bool.not_eq_true', Bool.not_eq_false', beq_iff_eq, beq_eq_false_iff_ne, min_r, ne_eq]; omega))).trans ?_)
    rw [decide_eq_true h.2.2.2]; rfl
  · rw [decide_eq_false h]
    simp only [Tr.run, decide_eq_true_eq]
    (repeat' split) <;> first | rfl | (congr 2; exact decide_eq_false (by omega))

/-! ball.Right -/
def tr_ball_Right (c_x : Int) (c_y : Int) (c_z : Int) (r : Int) : Tr AV := Tr.node (decide (4 ≤ r)) (Tr.node (decide (r ≤ 262144)) (Tr.leaf (AV.bool false (placeB c_x c_y c_z))) (Tr.leaf (AV.bool false false))) (Tr.leaf (AV.bool false false))
theorem run_ball_Right (c_x : Int) (c_y : Int) (c_z : Int) (r : Int) (h_c_x : InR .i64 c_x) (h_c_y : InR .i64 c_y) (h_c_z : InR .i64 c_z) (h_r : InR .i64 r) : (tr_ball_Right c_x c_y c_z r).run = some (bb (bRight c_x c_y c_z r)) := by
  unfold tr_ball_Right
  unfold bRight
  by_cases h : 4 ≤ r ∧ r ≤ 262144
  · rw [decide_eq_true h, Bool.and_true]
    exact (run_t (decide_eq_true h.1)).trans (run_t (decide_eq_true h.2))
  · rw [decide_eq_false h, Bool.and_false]
    simp only [Tr.run, decide_eq_true_eq]
    (repeat' split) <;> first | rfl | (exfalso; omega)

/-! skylightref12.Right -/
def tr_skylightref12_Right (c_x : Int) (c_y : Int) (c_z : Int) (r : Int) : Tr AV := Tr.node (placeB c_x c_y c_z) (Tr.node (decide (r ≥ 4)) (Tr.leaf (AV.bool false (decide (r ≤ 262144)))) (Tr.leaf (AV.bool false false))) (Tr.leaf (AV.bool false false))
theorem run_skylightref12_Right (c_x : Int) (c_y : Int) (c_z : Int) (r : Int) (h_c_x : InR .i64 c_x) (h_c_y : InR .i64 c_y) (h_c_z : InR .i64 c_z) (h_r : InR .i64 r) : (tr_skylightref12_Right c_x c_y c_z r).run = some (bb (bRight c_x c_y c_z r)) := by
  unfold tr_skylightref12_Right
  unfold bRight
  cases placeB c_x c_y c_z
  · rfl
  · by_cases h : r ≥ 4
    · refine (run_t rfl).trans ((run_t (decide_eq_true h)).trans ?_)
      simp only [Tr.run, bb, Bool.true_and]; congr 2; rw [decide_eq_decide]; omega
    · refine (run_t rfl).trans ((run_f (decide_eq_false h)).trans ?_)
      simp only [Tr.run, bb, Bool.true_and]; congr 2; symm; exact decide_eq_false (by omega)

/-! ball.of -/
def tr_ball_of (c_x : Int) (c_y : Int) (c_z : Int) (r : Int) (x_o_x : Int) (x_o_y : Int) (x_o_z : Int) (x_d_x : Int) (x_d_y : Int) (x_d_z : Int) (x_f : Int) : Tr AV := Tr.node (!bRight c_x c_y c_z r) (Tr.leaf (AV.agg [AV.int IntKind.i64 false 0, AV.int IntKind.i64 false 0, AV.int IntKind.i64 false 0])) (Tr.node (!placeB x_o_x x_o_y x_o_z) (Tr.leaf (AV.agg [AV.int IntKind.i64 false 0, AV.int IntKind.i64 false 0, AV.int IntKind.i64 false 0])) (Tr.node (!nearB x_d_x x_d_y x_d_z) (Tr.leaf (AV.agg [AV.int IntKind.i64 false 0, AV.int IntKind.i64 false 0, AV.int IntKind.i64 false 0])) (Tr.leaf (AV.agg [AV.int IntKind.i64 false (dotN x_d_x x_d_y x_d_z x_d_x x_d_y x_d_z), AV.int IntKind.i64 false (dotN (sat (x_o_x + sat (c_x * -1))) (sat (x_o_y + sat (c_y * -1))) (sat (x_o_z + sat (c_z * -1))) x_d_x x_d_y x_d_z), AV.int IntKind.i64 false (IntKind.i64.wrap (dotN (sat (x_o_x + sat (c_x * -1))) (sat (x_o_y + sat (c_y * -1))) (sat (x_o_z + sat (c_z * -1))) (sat (x_o_x + sat (c_x * -1))) (sat (x_o_y + sat (c_y * -1))) (sat (x_o_z + sat (c_z * -1))) - IntKind.i64.wrap (r * r)))]))))
theorem run_ball_of (c_x : Int) (c_y : Int) (c_z : Int) (r : Int) (x_o_x : Int) (x_o_y : Int) (x_o_z : Int) (x_d_x : Int) (x_d_y : Int) (x_d_z : Int) (x_f : Int) (h_c_x : InR .i64 c_x) (h_c_y : InR .i64 c_y) (h_c_z : InR .i64 c_z) (h_r : InR .i64 r) (h_x_o_x : InR .i64 x_o_x) (h_x_o_y : InR .i64 x_o_y) (h_x_o_z : InR .i64 x_o_z) (h_x_d_x : InR .i64 x_d_x) (h_x_d_y : InR .i64 x_d_y) (h_x_d_z : InR .i64 x_d_z) (h_x_f : InR .i64 x_f) : (tr_ball_of c_x c_y c_z r x_o_x x_o_y x_o_z x_d_x x_d_y x_d_z x_f).run = some (.agg [i6 (eA c_x c_y c_z r x_o_x x_o_y x_o_z x_d_x x_d_y x_d_z), i6 (eB c_x c_y c_z r x_o_x x_o_y x_o_z x_d_x x_d_y x_d_z), i6 (eQ c_x c_y c_z r x_o_x x_o_y x_o_z x_d_x x_d_y x_d_z)]) := by
  unfold tr_ball_of
  unfold eA eB eQ
  cases hm : mayE c_x c_y c_z r x_o_x x_o_y x_o_z x_d_x x_d_y x_d_z
  · have hm' := hm
    unfold mayE at hm'
    cases h1 : bRight c_x c_y c_z r
    · rfl
    cases h2 : placeB x_o_x x_o_y x_o_z
    · rfl
    cases h3 : nearB x_d_x x_d_y x_d_z
    · rfl
    rw [h1, h2, h3] at hm'; cases hm'
  · obtain ⟨⟨s1, s2, s3⟩, f1, f2, f3, _⟩ := ball_facts hm
    rw [s1, s2, s3, f1, f2, f3]
    unfold mayE at hm
    simp only [Bool.and_eq_true] at hm
    rw [hm.1.1, hm.1.2, hm.2]
    rfl

/-! (ball.equation).root -/
def tr_ball_equation_root (e_a : Int) (e_b : Int) (e_q : Int) : Tr AV := Tr.leaf (AV.tuple [AV.int IntKind.i64 false (IntKind.i64.wrap (rootN (whi (wv (e_b * e_b / 18446744073709551616) (e_b * e_b % 18446744073709551616) - wv (e_a * e_q / 18446744073709551616) (e_a * e_q % 18446744073709551616))) (wlo (wv (e_b * e_b / 18446744073709551616) (e_b * e_b % 18446744073709551616) - wv (e_a * e_q / 18446744073709551616) (e_a * e_q % 18446744073709551616))))), AV.bool false (decide (0 ≤ whi (wv (e_b * e_b / 18446744073709551616) (e_b * e_b % 18446744073709551616) - wv (e_a * e_q / 18446744073709551616) (e_a * e_q % 18446744073709551616))))])
theorem run_ball_equation_root (e_a : Int) (e_b : Int) (e_q : Int) (h_e_a : InR .i64 e_a) (h_e_b : InR .i64 e_b) (h_e_q : InR .i64 e_q) : (tr_ball_equation_root e_a e_b e_q).run = some (.tuple [i6 (IntKind.i64.wrap (rootN (whi (e_b * e_b - e_a * e_q)) (wlo (e_b * e_b - e_a * e_q)))), bb (decide (0 ≤ whi (e_b * e_b - e_a * e_q)))]) := by
  unfold tr_ball_equation_root
  simp only [wv_split]
  rfl

/-! skylightref12.may -/
def tr_skylightref12_may (c_x : Int) (c_y : Int) (c_z : Int) (r : Int) (x_o_x : Int) (x_o_y : Int) (x_o_z : Int) (x_d_x : Int) (x_d_y : Int) (x_d_z : Int) (x_f : Int) : Tr AV := Tr.node (bRight c_x c_y c_z r) (Tr.node (placeB x_o_x x_o_y x_o_z) (Tr.node (nearB x_d_x x_d_y x_d_z) (Tr.leaf (AV.bool false !(x_d_x == 0 && (x_d_y == 0 && (x_d_z == 0 && true))))) (Tr.leaf (AV.bool false false))) (Tr.leaf (AV.bool false false))) (Tr.leaf (AV.bool false false))
theorem run_skylightref12_may (c_x : Int) (c_y : Int) (c_z : Int) (r : Int) (x_o_x : Int) (x_o_y : Int) (x_o_z : Int) (x_d_x : Int) (x_d_y : Int) (x_d_z : Int) (x_f : Int) (h_c_x : InR .i64 c_x) (h_c_y : InR .i64 c_y) (h_c_z : InR .i64 c_z) (h_r : InR .i64 r) (h_x_o_x : InR .i64 x_o_x) (h_x_o_y : InR .i64 x_o_y) (h_x_o_z : InR .i64 x_o_z) (h_x_d_x : InR .i64 x_d_x) (h_x_d_y : InR .i64 x_d_y) (h_x_d_z : InR .i64 x_d_z) (h_x_f : InR .i64 x_f) : (tr_skylightref12_may c_x c_y c_z r x_o_x x_o_y x_o_z x_d_x x_d_y x_d_z x_f).run = some (bb (bMay c_x c_y c_z r x_o_x x_o_y x_o_z x_d_x x_d_y x_d_z)) := by
  unfold tr_skylightref12_may
  unfold bMay
  cases h1 : bRight c_x c_y c_z r
  · rfl
  cases h2 : placeB x_o_x x_o_y x_o_z
  · rfl
  cases h3 : nearB x_d_x x_d_y x_d_z
  · rfl
  simp only [Tr.run, bb, if_true, Bool.true_and]
  congr 3
  rw [Bool.eq_iff_iff]
  simp

/-! skylightref12.Value -/
def c_skylightref12_Value_1 (x_d_x : Int) (x_d_y : Int) (x_d_z : Int) (n : Int) : Int := whi (wv (whi (dotN x_d_x x_d_y x_d_z x_d_x x_d_y x_d_z * n)) (wlo (dotN x_d_x x_d_y x_d_z x_d_x x_d_y x_d_z * n)) * n)
def c_skylightref12_Value_2 (x_d_x : Int) (x_d_y : Int) (x_d_z : Int) (n : Int) : Int := wlo (wv (whi (dotN x_d_x x_d_y x_d_z x_d_x x_d_y x_d_z * n)) (wlo (dotN x_d_x x_d_y x_d_z x_d_x x_d_y x_d_z * n)) * n)
def c_skylightref12_Value_3 (c_x : Int) (c_y : Int) (c_z : Int) (x_o_x : Int) (x_o_y : Int) (x_o_z : Int) (x_d_x : Int) (x_d_y : Int) (x_d_z : Int) (n : Int) : Int := whi (IntKind.i64.wrap (2 * dotN (sat (x_o_x + sat (c_x * -1))) (sat (x_o_y + sat (c_y * -1))) (sat (x_o_z + sat (c_z * -1))) x_d_x x_d_y x_d_z) * n)
def c_skylightref12_Value_4 (c_x : Int) (c_y : Int) (c_z : Int) (x_o_x : Int) (x_o_y : Int) (x_o_z : Int) (x_d_x : Int) (x_d_y : Int) (x_d_z : Int) (n : Int) : Int := wlo (IntKind.i64.wrap (2 * dotN (sat (x_o_x + sat (c_x * -1))) (sat (x_o_y + sat (c_y * -1))) (sat (x_o_z + sat (c_z * -1))) x_d_x x_d_y x_d_z) * n)
def c_skylightref12_Value_5 (c_x : Int) (c_y : Int) (c_z : Int) (x_o_x : Int) (x_o_y : Int) (x_o_z : Int) (x_d_x : Int) (x_d_y : Int) (x_d_z : Int) (n : Int) (d : Int) : Int := whi (wv (c_skylightref12_Value_3 c_x c_y c_z x_o_x x_o_y x_o_z x_d_x x_d_y x_d_z n) (c_skylightref12_Value_4 c_x c_y c_z x_o_x x_o_y x_o_z x_d_x x_d_y x_d_z n) * d)
def c_skylightref12_Value_6 (c_x : Int) (c_y : Int) (c_z : Int) (x_o_x : Int) (x_o_y : Int) (x_o_z : Int) (x_d_x : Int) (x_d_y : Int) (x_d_z : Int) (n : Int) (d : Int) : Int := wlo (wv (c_skylightref12_Value_3 c_x c_y c_z x_o_x x_o_y x_o_z x_d_x x_d_y x_d_z n) (c_skylightref12_Value_4 c_x c_y c_z x_o_x x_o_y x_o_z x_d_x x_d_y x_d_z n) * d)
def c_skylightref12_Value_7 (c_x : Int) (c_y : Int) (c_z : Int) (r : Int) (x_o_x : Int) (x_o_y : Int) (x_o_z : Int) (d : Int) : Int := whi (IntKind.i64.wrap (dotN (sat (x_o_x + sat (c_x * -1))) (sat (x_o_y + sat (c_y * -1))) (sat (x_o_z + sat (c_z * -1))) (sat (x_o_x + sat (c_x * -1))) (sat (x_o_y + sat (c_y * -1))) (sat (x_o_z + sat (c_z * -1))) - IntKind.i64.wrap (r * r)) * d)
def c_skylightref12_Value_8 (c_x : Int) (c_y : Int) (c_z : Int) (r : Int) (x_o_x : Int) (x_o_y : Int) (x_o_z : Int) (d : Int) : Int := wlo (IntKind.i64.wrap (dotN (sat (x_o_x + sat (c_x * -1))) (sat (x_o_y + sat (c_y * -1))) (sat (x_o_z + sat (c_z * -1))) (sat (x_o_x + sat (c_x * -1))) (sat (x_o_y + sat (c_y * -1))) (sat (x_o_z + sat (c_z * -1))) - IntKind.i64.wrap (r * r)) * d)
def c_skylightref12_Value_9 (c_x : Int) (c_y : Int) (c_z : Int) (r : Int) (x_o_x : Int) (x_o_y : Int) (x_o_z : Int) (d : Int) : Int := whi (wv (c_skylightref12_Value_7 c_x c_y c_z r x_o_x x_o_y x_o_z d) (c_skylightref12_Value_8 c_x c_y c_z r x_o_x x_o_y x_o_z d) * d)
def c_skylightref12_Value_10 (c_x : Int) (c_y : Int) (c_z : Int) (r : Int) (x_o_x : Int) (x_o_y : Int) (x_o_z : Int) (d : Int) : Int := wlo (wv (c_skylightref12_Value_7 c_x c_y c_z r x_o_x x_o_y x_o_z d) (c_skylightref12_Value_8 c_x c_y c_z r x_o_x x_o_y x_o_z d) * d)
def c_skylightref12_Value_11 (c_x : Int) (c_y : Int) (c_z : Int) (x_o_x : Int) (x_o_y : Int) (x_o_z : Int) (x_d_x : Int) (x_d_y : Int) (x_d_z : Int) (n : Int) (d : Int) : Int := whi (wv (c_skylightref12_Value_1 x_d_x x_d_y x_d_z n) (c_skylightref12_Value_2 x_d_x x_d_y x_d_z n) + wv (c_skylightref12_Value_5 c_x c_y c_z x_o_x x_o_y x_o_z x_d_x x_d_y x_d_z n d) (c_skylightref12_Value_6 c_x c_y c_z x_o_x x_o_y x_o_z x_d_x x_d_y x_d_z n d))
def c_skylightref12_Value_12 (c_x : Int) (c_y : Int) (c_z : Int) (x_o_x : Int) (x_o_y : Int) (x_o_z : Int) (x_d_x : Int) (x_d_y : Int) (x_d_z : Int) (n : Int) (d : Int) : Int := wlo (wv (c_skylightref12_Value_1 x_d_x x_d_y x_d_z n) (c_skylightref12_Value_2 x_d_x x_d_y x_d_z n) + wv (c_skylightref12_Value_5 c_x c_y c_z x_o_x x_o_y x_o_z x_d_x x_d_y x_d_z n d) (c_skylightref12_Value_6 c_x c_y c_z x_o_x x_o_y x_o_z x_d_x x_d_y x_d_z n d))
def tr_skylightref12_Value (c_x : Int) (c_y : Int) (c_z : Int) (r : Int) (x_o_x : Int) (x_o_y : Int) (x_o_z : Int) (x_d_x : Int) (x_d_y : Int) (x_d_z : Int) (x_f : Int) (n : Int) (d : Int) : Tr AV := Tr.node (decide (0 ≤ n)) (Tr.node (decide (0 ≤ d)) (Tr.node (decide (0 ≤ d)) (Tr.leaf (AV.agg [AV.int IntKind.i64 false (whi (wv (c_skylightref12_Value_11 c_x c_y c_z x_o_x x_o_y x_o_z x_d_x x_d_y x_d_z n d) (c_skylightref12_Value_12 c_x c_y c_z x_o_x x_o_y x_o_z x_d_x x_d_y x_d_z n d) + wv (c_skylightref12_Value_9 c_x c_y c_z r x_o_x x_o_y x_o_z d) (c_skylightref12_Value_10 c_x c_y c_z r x_o_x x_o_y x_o_z d))), AV.int IntKind.u64 false (wlo (wv (c_skylightref12_Value_11 c_x c_y c_z x_o_x x_o_y x_o_z x_d_x x_d_y x_d_z n d) (c_skylightref12_Value_12 c_x c_y c_z x_o_x x_o_y x_o_z x_d_x x_d_y x_d_z n d) + wv (c_skylightref12_Value_9 c_x c_y c_z r x_o_x x_o_y x_o_z d) (c_skylightref12_Value_10 c_x c_y c_z r x_o_x x_o_y x_o_z d)))])) Tr.bad) Tr.bad) Tr.bad
theorem run_skylightref12_Value (c_x : Int) (c_y : Int) (c_z : Int) (r : Int) (x_o_x : Int) (x_o_y : Int) (x_o_z : Int) (x_d_x : Int) (x_d_y : Int) (x_d_z : Int) (x_f : Int) (n : Int) (d : Int) (h_c_x : InR .i64 c_x) (h_c_y : InR .i64 c_y) (h_c_z : InR .i64 c_z) (h_r : InR .i64 r) (h_x_o_x : InR .i64 x_o_x) (h_x_o_y : InR .i64 x_o_y) (h_x_o_z : InR .i64 x_o_z) (h_x_d_x : InR .i64 x_d_x) (h_x_d_y : InR .i64 x_d_y) (h_x_d_z : InR .i64 x_d_z) (h_x_f : InR .i64 x_f) (h_n : InR .i64 n) (h_d : InR .i64 d) (hpre : mayE c_x c_y c_z r x_o_x x_o_y x_o_z x_d_x x_d_y x_d_z = true ∧ 0 ≤ n ∧ 0 ≤ d) : (tr_skylightref12_Value c_x c_y c_z r x_o_x x_o_y x_o_z x_d_x x_d_y x_d_z x_f n d).run = some (wA (vP c_x c_y c_z r x_o_x x_o_y x_o_z x_d_x x_d_y x_d_z n d)) := by
  unfold tr_skylightref12_Value
  obtain ⟨hm, hn, hd⟩ := hpre
  obtain ⟨⟨s1, s2, s3⟩, f1, f2, f3, r1, r2, r3, r4⟩ := ball_facts hm
  simp only [c_skylightref12_Value_1, c_skylightref12_Value_2, c_skylightref12_Value_3, c_skylightref12_Value_4, c_skylightref12_Value_5, c_skylightref12_Value_6, c_skylightref12_Value_7, c_skylightref12_Value_8, c_skylightref12_Value_9, c_skylightref12_Value_10, c_skylightref12_Value_11, c_skylightref12_Value_12]
  rw [s1, s2, s3, f1, f2, f3]
  refine (run_t (decide_eq_true hn)).trans ((run_t (decide_eq_true hd)).trans ((run_t (decide_eq_true hd)).trans ?_))
  unfold vP
  generalize bA x_d_x x_d_y x_d_z = a at *
  generalize bB c_x c_y c_z x_o_x x_o_y x_o_z x_d_x x_d_y x_d_z = b at *
  generalize bQ c_x c_y c_z r x_o_x x_o_y x_o_z = q at *
  rw [wrap_i64_id (n := 2 * b) (by omega)]
  simp only [wv_sg]
  have m1 := sg_mul (a * n) n 0
  have m2 := sg_mul (2 * b * n) d 0
  have m3 := sg_mul (q * d) d 0
  simp only [Int.add_zero] at m1 m2 m3
  have e : (sg (sg (sg (a * n) * n) + sg (sg (2 * b * n) * d)) + sg (sg (q * d) * d)) % 340282366920938463463374607431768211456 = (a * n * n + 2 * b * n * d + q * d * d) % 340282366920938463463374607431768211456 := by
    generalize sg (a * n) * n = A1 at *
    generalize sg (2 * b * n) * d = A2 at *
    generalize sg (q * d) * d = A3 at *
    unfold sg; omega
  unfold wA
  rw [whi_congr e, wlo_congr e]
  rfl

/-! ball.Hit -/
def tr_ball_Hit (c_x : Int) (c_y : Int) (c_z : Int) (r : Int) (x_o_x : Int) (x_o_y : Int) (x_o_z : Int) (x_d_x : Int) (x_d_y : Int) (x_d_z : Int) (x_f : Int) : Tr AV := Tr.node (!decide (0 ≤ whi (eB c_x c_y c_z r x_o_x x_o_y x_o_z x_d_x x_d_y x_d_z * eB c_x c_y c_z r x_o_x x_o_y x_o_z x_d_x x_d_y x_d_z - eA c_x c_y c_z r x_o_x x_o_y x_o_z x_d_x x_d_y x_d_z * eQ c_x c_y c_z r x_o_x x_o_y x_o_z x_d_x x_d_y x_d_z))) (Tr.leaf (AV.tuple [AV.agg [AV.int IntKind.i64 false 0, AV.int IntKind.i64 false 0], AV.bool false false])) (Tr.node (decide (eQ c_x c_y c_z r x_o_x x_o_y x_o_z x_d_x x_d_y x_d_z > 0)) (Tr.node (decide (eB c_x c_y c_z r x_o_x x_o_y x_o_z x_d_x x_d_y x_d_z ≥ 0)) (Tr.leaf (AV.tuple [AV.agg [AV.int IntKind.i64 false 0, AV.int IntKind.i64 false 0], AV.bool false false])) (Tr.node (decide (eQ c_x c_y c_z r x_o_x x_o_y x_o_z x_d_x x_d_y x_d_z > 0)) (Tr.node (eA c_x c_y c_z r x_o_x x_o_y x_o_z x_d_x x_d_y x_d_z == 0) (Tr.leaf (AV.tuple [AV.agg [AV.int IntKind.i64 false 0, AV.int IntKind.i64 false 0], AV.bool false false])) (Tr.node (decide (IntKind.i64.wrap (IntKind.i64.wrap (-2 * IntKind.i64.wrap (rootN (whi (eB c_x c_y c_z r x_o_x x_o_y x_o_z x_d_x x_d_y x_d_z * eB c_x c_y c_z r x_o_x x_o_y x_o_z x_d_x x_d_y x_d_z - eA c_x c_y c_z r x_o_x x_o_y x_o_z x_d_x x_d_y x_d_z * eQ c_x c_y c_z r x_o_x x_o_y x_o_z x_d_x x_d_y x_d_z)) (wlo (eB c_x c_y c_z r x_o_x x_o_y x_o_z x_d_x x_d_y x_d_z * eB c_x c_y c_z r x_o_x x_o_y x_o_z x_d_x x_d_y x_d_z - eA c_x c_y c_z r x_o_x x_o_y x_o_z x_d_x x_d_y x_d_z * eQ c_x c_y c_z r x_o_x x_o_y x_o_z x_d_x x_d_y x_d_z)))) + IntKind.i64.wrap (IntKind.i64.wrap (rootN (whi (eB c_x c_y c_z r x_o_x x_o_y x_o_z x_d_x x_d_y x_d_z * eB c_x c_y c_z r x_o_x x_o_y x_o_z x_d_x x_d_y x_d_z - eA c_x c_y c_z r x_o_x x_o_y x_o_z x_d_x x_d_y x_d_z * eQ c_x c_y c_z r x_o_x x_o_y x_o_z x_d_x x_d_y x_d_z)) (wlo (eB c_x c_y c_z r x_o_x x_o_y x_o_z x_d_x x_d_y x_d_z * eB c_x c_y c_z r x_o_x x_o_y x_o_z x_d_x x_d_y x_d_z - eA c_x c_y c_z r x_o_x x_o_y x_o_z x_d_x x_d_y x_d_z * eQ c_x c_y c_z r x_o_x x_o_y x_o_z x_d_x x_d_y x_d_z))) - eB c_x c_y c_z r x_o_x x_o_y x_o_z x_d_x x_d_y x_d_z)) ≤ 0)) (Tr.leaf (AV.tuple [AV.agg [AV.int IntKind.i64 false 0, AV.int IntKind.i64 false 0], AV.bool false false])) (Tr.node (eA c_x c_y c_z r x_o_x x_o_y x_o_z x_d_x x_d_y x_d_z == 0) (Tr.leaf (AV.tuple [AV.agg [AV.int IntKind.i64 false 0, AV.int IntKind.i64 false 0], AV.bool false false])) (Tr.node (mm false (IntKind.i64.wrap (IntKind.i64.wrap (-2 * IntKind.i64.wrap (rootN (whi (eB c_x c_y c_z r x_o_x x_o_y x_o_z x_d_x x_d_y x_d_z * eB c_x c_y c_z r x_o_x x_o_y x_o_z x_d_x x_d_y x_d_z - eA c_x c_y c_z r x_o_x x_o_y x_o_z x_d_x x_d_y x_d_z * eQ c_x c_y c_z r x_o_x x_o_y x_o_z x_d_x x_d_y x_d_z)) (wlo (eB c_x c_y c_z r x_o_x x_o_y x_o_z x_d_x x_d_y x_d_z * eB c_x c_y c_z r x_o_x x_o_y x_o_z x_d_x x_d_y x_d_z - eA c_x c_y c_z r x_o_x x_o_y x_o_z x_d_x x_d_y x_d_z * eQ c_x c_y c_z r x_o_x x_o_y x_o_z x_d_x x_d_y x_d_z)))) + IntKind.i64.wrap (IntKind.i64.wrap (rootN (whi (eB c_x c_y c_z r x_o_x x_o_y x_o_z x_d_x x_d_y x_d_z * eB c_x c_y c_z r x_o_x x_o_y x_o_z x_d_x x_d_y x_d_z - eA c_x c_y c_z r x_o_x x_o_y x_o_z x_d_x x_d_y x_d_z * eQ c_x c_y c_z r x_o_x x_o_y x_o_z x_d_x x_d_y x_d_z)) (wlo (eB c_x c_y c_z r x_o_x x_o_y x_o_z x_d_x x_d_y x_d_z * eB c_x c_y c_z r x_o_x x_o_y x_o_z x_d_x x_d_y x_d_z - eA c_x c_y c_z r x_o_x x_o_y x_o_z x_d_x x_d_y x_d_z * eQ c_x c_y c_z r x_o_x x_o_y x_o_z x_d_x x_d_y x_d_z))) - eB c_x c_y c_z r x_o_x x_o_y x_o_z x_d_x x_d_y x_d_z))) (eA c_x c_y c_z r x_o_x x_o_y x_o_z x_d_x x_d_y x_d_z) == -9223372036854775808) (Tr.leaf (AV.tuple [AV.agg [AV.int IntKind.i64 false 0, AV.int IntKind.i64 false 0], AV.bool false false])) (Tr.node (decide (eA c_x c_y c_z r x_o_x x_o_y x_o_z x_d_x x_d_y x_d_z < 0)) (Tr.leaf (AV.tuple [AV.agg [AV.int IntKind.i64 false (IntKind.i64.wrap (0 - IntKind.i64.wrap (IntKind.i64.wrap (-2 * IntKind.i64.wrap (rootN (whi (eB c_x c_y c_z r x_o_x x_o_y x_o_z x_d_x x_d_y x_d_z * eB c_x c_y c_z r x_o_x x_o_y x_o_z x_d_x x_d_y x_d_z - eA c_x c_y c_z r x_o_x x_o_y x_o_z x_d_x x_d_y x_d_z * eQ c_x c_y c_z r x_o_x x_o_y x_o_z x_d_x x_d_y x_d_z)) (wlo (eB c_x c_y c_z r x_o_x x_o_y x_o_z x_d_x x_d_y x_d_z * eB c_x c_y c_z r x_o_x x_o_y x_o_z x_d_x x_d_y x_d_z - eA c_x c_y c_z r x_o_x x_o_y x_o_z x_d_x x_d_y x_d_z * eQ c_x c_y c_z r x_o_x x_o_y x_o_z x_d_x x_d_y x_d_z)))) + IntKind.i64.wrap (IntKind.i64.wrap (rootN (whi (eB c_x c_y c_z r x_o_x x_o_y x_o_z x_d_x x_d_y x_d_z * eB c_x c_y c_z r x_o_x x_o_y x_o_z x_d_x x_d_y x_d_z - eA c_x c_y c_z r x_o_x x_o_y x_o_z x_d_x x_d_y x_d_z * eQ c_x c_y c_z r x_o_x x_o_y x_o_z x_d_x x_d_y x_d_z)) (wlo (eB c_x c_y c_z r x_o_x x_o_y x_o_z x_d_x x_d_y x_d_z * eB c_x c_y c_z r x_o_x x_o_y x_o_z x_d_x x_d_y x_d_z - eA c_x c_y c_z r x_o_x x_o_y x_o_z x_d_x x_d_y x_d_z * eQ c_x c_y c_z r x_o_x x_o_y x_o_z x_d_x x_d_y x_d_z))) - eB c_x c_y c_z r x_o_x x_o_y x_o_z x_d_x x_d_y x_d_z)))), AV.int IntKind.i64 false (IntKind.i64.wrap (0 - eA c_x c_y c_z r x_o_x x_o_y x_o_z x_d_x x_d_y x_d_z))], AV.bool false true])) (Tr.leaf (AV.tuple [AV.agg [AV.int IntKind.i64 false (IntKind.i64.wrap (IntKind.i64.wrap (-2 * IntKind.i64.wrap (rootN (whi (eB c_x c_y c_z r x_o_x x_o_y x_o_z x_d_x x_d_y x_d_z * eB c_x c_y c_z r x_o_x x_o_y x_o_z x_d_x x_d_y x_d_z - eA c_x c_y c_z r x_o_x x_o_y x_o_z x_d_x x_d_y x_d_z * eQ c_x c_y c_z r x_o_x x_o_y x_o_z x_d_x x_d_y x_d_z)) (wlo (eB c_x c_y c_z r x_o_x x_o_y x_o_z x_d_x x_d_y x_d_z * eB c_x c_y c_z r x_o_x x_o_y x_o_z x_d_x x_d_y x_d_z - eA c_x c_y c_z r x_o_x x_o_y x_o_z x_d_x x_d_y x_d_z * eQ c_x c_y c_z r x_o_x x_o_y x_o_z x_d_x x_d_y x_d_z)))) + IntKind.i64.wrap (IntKind.i64.wrap (rootN (whi (eB c_x c_y c_z r x_o_x x_o_y x_o_z x_d_x x_d_y x_d_z * eB c_x c_y c_z r x_o_x x_o_y x_o_z x_d_x x_d_y x_d_z - eA c_x c_y c_z r x_o_x x_o_y x_o_z x_d_x x_d_y x_d_z * eQ c_x c_y c_z r x_o_x x_o_y x_o_z x_d_x x_d_y x_d_z)) (wlo (eB c_x c_y c_z r x_o_x x_o_y x_o_z x_d_x x_d_y x_d_z * eB c_x c_y c_z r x_o_x x_o_y x_o_z x_d_x x_d_y x_d_z - eA c_x c_y c_z r x_o_x x_o_y x_o_z x_d_x x_d_y x_d_z * eQ c_x c_y c_z r x_o_x x_o_y x_o_z x_d_x x_d_y x_d_z))) - eB c_x c_y c_z r x_o_x x_o_y x_o_z x_d_x x_d_y x_d_z))), AV.int IntKind.i64 false (eA c_x c_y c_z r x_o_x x_o_y x_o_z x_d_x x_d_y x_d_z)], AV.bool false true]))))))) (Tr.node (eA c_x c_y c_z r x_o_x x_o_y x_o_z x_d_x x_d_y x_d_z == 0) (Tr.leaf (AV.tuple [AV.agg [AV.int IntKind.i64 false 0, AV.int IntKind.i64 false 0], AV.bool false false])) (Tr.node (decide (IntKind.i64.wrap (0 + IntKind.i64.wrap (IntKind.i64.wrap (rootN (whi (eB c_x c_y c_z r x_o_x x_o_y x_o_z x_d_x x_d_y x_d_z * eB c_x c_y c_z r x_o_x x_o_y x_o_z x_d_x x_d_y x_d_z - eA c_x c_y c_z r x_o_x x_o_y x_o_z x_d_x x_d_y x_d_z * eQ c_x c_y c_z r x_o_x x_o_y x_o_z x_d_x x_d_y x_d_z)) (wlo (eB c_x c_y c_z r x_o_x x_o_y x_o_z x_d_x x_d_y x_d_z * eB c_x c_y c_z r x_o_x x_o_y x_o_z x_d_x x_d_y x_d_z - eA c_x c_y c_z r x_o_x x_o_y x_o_z x_d_x x_d_y x_d_z * eQ c_x c_y c_z r x_o_x x_o_y x_o_z x_d_x x_d_y x_d_z))) - eB c_x c_y c_z r x_o_x x_o_y x_o_z x_d_x x_d_y x_d_z)) ≤ 0)) (Tr.leaf (AV.tuple [AV.agg [AV.int IntKind.i64 false 0, AV.int IntKind.i64 false 0], AV.bool false false])) (Tr.node (eA c_x c_y c_z r x_o_x x_o_y x_o_z x_d_x x_d_y x_d_z == 0) (Tr.leaf (AV.tuple [AV.agg [AV.int IntKind.i64 false 0, AV.int IntKind.i64 false 0], AV.bool false false])) (Tr.node (mm false (IntKind.i64.wrap (0 + IntKind.i64.wrap (IntKind.i64.wrap (rootN (whi (eB c_x c_y c_z r x_o_x x_o_y x_o_z x_d_x x_d_y x_d_z * eB c_x c_y c_z r x_o_x x_o_y x_o_z x_d_x x_d_y x_d_z - eA c_x c_y c_z r x_o_x x_o_y x_o_z x_d_x x_d_y x_d_z * eQ c_x c_y c_z r x_o_x x_o_y x_o_z x_d_x x_d_y x_d_z)) (wlo (eB c_x c_y c_z r x_o_x x_o_y x_o_z x_d_x x_d_y x_d_z * eB c_x c_y c_z r x_o_x x_o_y x_o_z x_d_x x_d_y x_d_z - eA c_x c_y c_z r x_o_x x_o_y x_o_z x_d_x x_d_y x_d_z * eQ c_x c_y c_z r x_o_x x_o_y x_o_z x_d_x x_d_y x_d_z))) - eB c_x c_y c_z r x_o_x x_o_y x_o_z x_d_x x_d_y x_d_z))) (eA c_x c_y c_z r x_o_x x_o_y x_o_z x_d_x x_d_y x_d_z) == -9223372036854775808) (Tr.leaf (AV.tuple [AV.agg [AV.int IntKind.i64 false 0, AV.int IntKind.i64 false 0], AV.bool false false])) (Tr.node (decide (eA c_x c_y c_z r x_o_x x_o_y x_o_z x_d_x x_d_y x_d_z < 0)) (Tr.leaf (AV.tuple [AV.agg [AV.int IntKind.i64 false (IntKind.i64.wrap (0 - IntKind.i64.wrap (0 + IntKind.i64.wrap (IntKind.i64.wrap (rootN (whi (eB c_x c_y c_z r x_o_x x_o_y x_o_z x_d_x x_d_y x_d_z * eB c_x c_y c_z r x_o_x x_o_y x_o_z x_d_x x_d_y x_d_z - eA c_x c_y c_z r x_o_x x_o_y x_o_z x_d_x x_d_y x_d_z * eQ c_x c_y c_z r x_o_x x_o_y x_o_z x_d_x x_d_y x_d_z)) (wlo (eB c_x c_y c_z r x_o_x x_o_y x_o_z x_d_x x_d_y x_d_z * eB c_x c_y c_z r x_o_x x_o_y x_o_z x_d_x x_d_y x_d_z - eA c_x c_y c_z r x_o_x x_o_y x_o_z x_d_x x_d_y x_d_z * eQ c_x c_y c_z r x_o_x x_o_y x_o_z x_d_x x_d_y x_d_z))) - eB c_x c_y c_z r x_o_x x_o_y x_o_z x_d_x x_d_y x_d_z)))), AV.int IntKind.i64 false (IntKind.i64.wrap (0 - eA c_x c_y c_z r x_o_x x_o_y x_o_z x_d_x x_d_y x_d_z))], AV.bool false true])) (Tr.leaf (AV.tuple [AV.agg [AV.int IntKind.i64 false (IntKind.i64.wrap (0 + IntKind.i64.wrap (IntKind.i64.wrap (rootN (whi (eB c_x c_y c_z r x_o_x x_o_y x_o_z x_d_x x_d_y x_d_z * eB c_x c_y c_z r x_o_x x_o_y x_o_z x_d_x x_d_y x_d_z - eA c_x c_y c_z r x_o_x x_o_y x_o_z x_d_x x_d_y x_d_z * eQ c_x c_y c_z r x_o_x x_o_y x_o_z x_d_x x_d_y x_d_z)) (wlo (eB c_x c_y c_z r x_o_x x_o_y x_o_z x_d_x x_d_y x_d_z * eB c_x c_y c_z r x_o_x x_o_y x_o_z x_d_x x_d_y x_d_z - eA c_x c_y c_z r x_o_x x_o_y x_o_z x_d_x x_d_y x_d_z * eQ c_x c_y c_z r x_o_x x_o_y x_o_z x_d_x x_d_y x_d_z))) - eB c_x c_y c_z r x_o_x x_o_y x_o_z x_d_x x_d_y x_d_z))), AV.int IntKind.i64 false (eA c_x c_y c_z r x_o_x x_o_y x_o_z x_d_x x_d_y x_d_z)], AV.bool false true]))))))))) (Tr.node (decide (eQ c_x c_y c_z r x_o_x x_o_y x_o_z x_d_x x_d_y x_d_z > 0)) (Tr.node (eA c_x c_y c_z r x_o_x x_o_y x_o_z x_d_x x_d_y x_d_z == 0) (Tr.leaf (AV.tuple [AV.agg [AV.int IntKind.i64 false 0, AV.int IntKind.i64 false 0], AV.bool false false])) (Tr.node (decide (IntKind.i64.wrap (IntKind.i64.wrap (-2 * IntKind.i64.wrap (rootN (whi (eB c_x c_y c_z r x_o_x x_o_y x_o_z x_d_x x_d_y x_d_z * eB c_x c_y c_z r x_o_x x_o_y x_o_z x_d_x x_d_y x_d_z - eA c_x c_y c_z r x_o_x x_o_y x_o_z x_d_x x_d_y x_d_z * eQ c_x c_y c_z r x_o_x x_o_y x_o_z x_d_x x_d_y x_d_z)) (wlo (eB c_x c_y c_z r x_o_x x_o_y x_o_z x_d_x x_d_y x_d_z * eB c_x c_y c_z r x_o_x x_o_y x_o_z x_d_x x_d_y x_d_z - eA c_x c_y c_z r x_o_x x_o_y x_o_z x_d_x x_d_y x_d_z * eQ c_x c_y c_z r x_o_x x_o_y x_o_z x_d_x x_d_y x_d_z)))) + IntKind.i64.wrap (IntKind.i64.wrap (rootN (whi (eB c_x c_y c_z r x_o_x x_o_y x_o_z x_d_x x_d_y x_d_z * eB c_x c_y c_z r x_o_x x_o_y x_o_z x_d_x x_d_y x_d_z - eA c_x c_y c_z r x_o_x x_o_y x_o_z x_d_x x_d_y x_d_z * eQ c_x c_y c_z r x_o_x x_o_y x_o_z x_d_x x_d_y x_d_z)) (wlo (eB c_x c_y c_z r x_o_x x_o_y x_o_z x_d_x x_d_y x_d_z * eB c_x c_y c_z r x_o_x x_o_y x_o_z x_d_x x_d_y x_d_z - eA c_x c_y c_z r x_o_x x_o_y x_o_z x_d_x x_d_y x_d_z * eQ c_x c_y c_z r x_o_x x_o_y x_o_z x_d_x x_d_y x_d_z))) - eB c_x c_y c_z r x_o_x x_o_y x_o_z x_d_x x_d_y x_d_z)) ≤ 0)) (Tr.leaf (AV.tuple [AV.agg [AV.int IntKind.i64 false 0, AV.int IntKind.i64 false 0], AV.bool false false])) (Tr.node (eA c_x c_y c_z r x_o_x x_o_y x_o_z x_d_x x_d_y x_d_z == 0) (Tr.leaf (AV.tuple [AV.agg [AV.int IntKind.i64 false 0, AV.int IntKind.i64 false 0], AV.bool false false])) (Tr.node (mm false (IntKind.i64.wrap (IntKind.i64.wrap (-2 * IntKind.i64.wrap (rootN (whi (eB c_x c_y c_z r x_o_x x_o_y x_o_z x_d_x x_d_y x_d_z * eB c_x c_y c_z r x_o_x x_o_y x_o_z x_d_x x_d_y x_d_z - eA c_x c_y c_z r x_o_x x_o_y x_o_z x_d_x x_d_y x_d_z * eQ c_x c_y c_z r x_o_x x_o_y x_o_z x_d_x x_d_y x_d_z)) (wlo (eB c_x c_y c_z r x_o_x x_o_y x_o_z x_d_x x_d_y x_d_z * eB c_x c_y c_z r x_o_x x_o_y x_o_z x_d_x x_d_y x_d_z - eA c_x c_y c_z r x_o_x x_o_y x_o_z x_d_x x_d_y x_d_z * eQ c_x c_y c_z r x_o_x x_o_y x_o_z x_d_x x_d_y x_d_z)))) + IntKind.i64.wrap (IntKind.i64.wrap (rootN (whi (eB c_x c_y c_z r x_o_x x_o_y x_o_z x_d_x x_d_y x_d_z * eB c_x c_y c_z r x_o_x x_o_y x_o_z x_d_x x_d_y x_d_z - eA c_x c_y c_z r x_o_x x_o_y x_o_z x_d_x x_d_y x_d_z * eQ c_x c_y c_z r x_o_x x_o_y x_o_z x_d_x x_d_y x_d_z)) (wlo (eB c_x c_y c_z r x_o_x x_o_y x_o_z x_d_x x_d_y x_d_z * eB c_x c_y c_z r x_o_x x_o_y x_o_z x_d_x x_d_y x_d_z - eA c_x c_y c_z r x_o_x x_o_y x_o_z x_d_x x_d_y x_d_z * eQ c_x c_y c_z r x_o_x x_o_y x_o_z x_d_x x_d_y x_d_z))) - eB c_x c_y c_z r x_o_x x_o_y x_o_z x_d_x x_d_y x_d_z))) (eA c_x c_y c_z r x_o_x x_o_y x_o_z x_d_x x_d_y x_d_z) == -9223372036854775808) (Tr.leaf (AV.tuple [AV.agg [AV.int IntKind.i64 false 0, AV.int IntKind.i64 false 0], AV.bool false false])) (Tr.node (decide (eA c_x c_y c_z r x_o_x x_o_y x_o_z x_d_x x_d_y x_d_z < 0)) (Tr.leaf (AV.tuple [AV.agg [AV.int IntKind.i64 false (IntKind.i64.wrap (0 - IntKind.i64.wrap (IntKind.i64.wrap (-2 * IntKind.i64.wrap (rootN (whi (eB c_x c_y c_z r x_o_x x_o_y x_o_z x_d_x x_d_y x_d_z * eB c_x c_y c_z r x_o_x x_o_y x_o_z x_d_x x_d_y x_d_z - eA c_x c_y c_z r x_o_x x_o_y x_o_z x_d_x x_d_y x_d_z * eQ c_x c_y c_z r x_o_x x_o_y x_o_z x_d_x x_d_y x_d_z)) (wlo (eB c_x c_y c_z r x_o_x x_o_y x_o_z x_d_x x_d_y x_d_z * eB c_x c_y c_z r x_o_x x_o_y x_o_z x_d_x x_d_y x_d_z - eA c_x c_y c_z r x_o_x x_o_y x_o_z x_d_x x_d_y x_d_z * eQ c_x c_y c_z r x_o_x x_o_y x_o_z x_d_x x_d_y x_d_z)))) + IntKind.i64.wrap (IntKind.i64.wrap (rootN (whi (eB c_x c_y c_z r x_o_x x_o_y x_o_z x_d_x x_d_y x_d_z * eB c_x c_y c_z r x_o_x x_o_y x_o_z x_d_x x_d_y x_d_z - eA c_x c_y c_z r x_o_x x_o_y x_o_z x_d_x x_d_y x_d_z * eQ c_x c_y c_z r x_o_x x_o_y x_o_z x_d_x x_d_y x_d_z)) (wlo (eB c_x c_y c_z r x_o_x x_o_y x_o_z x_d_x x_d_y x_d_z * eB c_x c_y c_z r x_o_x x_o_y x_o_z x_d_x x_d_y x_d_z - eA c_x c_y c_z r x_o_x x_o_y x_o_z x_d_x x_d_y x_d_z * eQ c_x c_y c_z r x_o_x x_o_y x_o_z x_d_x x_d_y x_d_z))) - eB c_x c_y c_z r x_o_x x_o_y x_o_z x_d_x x_d_y x_d_z)))), AV.int IntKind.i64 false (IntKind.i64.wrap (0 - eA c_x c_y c_z r x_o_x x_o_y x_o_z x_d_x x_d_y x_d_z))], AV.bool false true])) (Tr.leaf (AV.tuple [AV.agg [AV.int IntKind.i64 false (IntKind.i64.wrap (IntKind.i64.wrap (-2 * IntKind.i64.wrap (rootN (whi (eB c_x c_y c_z r x_o_x x_o_y x_o_z x_d_x x_d_y x_d_z * eB c_x c_y c_z r x_o_x x_o_y x_o_z x_d_x x_d_y x_d_z - eA c_x c_y c_z r x_o_x x_o_y x_o_z x_d_x x_d_y x_d_z * eQ c_x c_y c_z r x_o_x x_o_y x_o_z x_d_x x_d_y x_d_z)) (wlo (eB c_x c_y c_z r x_o_x x_o_y x_o_z x_d_x x_d_y x_d_z * eB c_x c_y c_z r x_o_x x_o_y x_o_z x_d_x x_d_y x_d_z - eA c_x c_y c_z r x_o_x x_o_y x_o_z x_d_x x_d_y x_d_z * eQ c_x c_y c_z r x_o_x x_o_y x_o_z x_d_x x_d_y x_d_z)))) + IntKind.i64.wrap (IntKind.i64.wrap (rootN (whi (eB c_x c_y c_z r x_o_x x_o_y x_o_z x_d_x x_d_y x_d_z * eB c_x c_y c_z r x_o_x x_o_y x_o_z x_d_x x_d_y x_d_z - eA c_x c_y c_z r x_o_x x_o_y x_o_z x_d_x x_d_y x_d_z * eQ c_x c_y c_z r x_o_x x_o_y x_o_z x_d_x x_d_y x_d_z)) (wlo (eB c_x c_y c_z r x_o_x x_o_y x_o_z x_d_x x_d_y x_d_z * eB c_x c_y c_z r x_o_x x_o_y x_o_z x_d_x x_d_y x_d_z - eA c_x c_y c_z r x_o_x x_o_y x_o_z x_d_x x_d_y x_d_z * eQ c_x c_y c_z r x_o_x x_o_y x_o_z x_d_x x_d_y x_d_z))) - eB c_x c_y c_z r x_o_x x_o_y x_o_z x_d_x x_d_y x_d_z))), AV.int IntKind.i64 false (eA c_x c_y c_z r x_o_x x_o_y x_o_z x_d_x x_d_y x_d_z)], AV.bool false true]))))))) (Tr.node (eA c_x c_y c_z r x_o_x x_o_y x_o_z x_d_x x_d_y x_d_z == 0) (Tr.leaf (AV.tuple [AV.agg [AV.int IntKind.i64 false 0, AV.int IntKind.i64 false 0], AV.bool false false])) (Tr.node (decide (IntKind.i64.wrap (0 + IntKind.i64.wrap (IntKind.i64.wrap (rootN (whi (eB c_x c_y c_z r x_o_x x_o_y x_o_z x_d_x x_d_y x_d_z * eB c_x c_y c_z r x_o_x x_o_y x_o_z x_d_x x_d_y x_d_z - eA c_x c_y c_z r x_o_x x_o_y x_o_z x_d_x x_d_y x_d_z * eQ c_x c_y c_z r x_o_x x_o_y x_o_z x_d_x x_d_y x_d_z)) (wlo (eB c_x c_y c_z r x_o_x x_o_y x_o_z x_d_x x_d_y x_d_z * eB c_x c_y c_z r x_o_x x_o_y x_o_z x_d_x x_d_y x_d_z - eA c_x c_y c_z r x_o_x x_o_y x_o_z x_d_x x_d_y x_d_z * eQ c_x c_y c_z r x_o_x x_o_y x_o_z x_d_x x_d_y x_d_z))) - eB c_x c_y c_z r x_o_x x_o_y x_o_z x_d_x x_d_y x_d_z)) ≤ 0)) (Tr.leaf (AV.tuple [AV.agg [AV.int IntKind.i64 false 0, AV.int IntKind.i64 false 0], AV.bool false false])) (Tr.node (eA c_x c_y c_z r x_o_x x_o_y x_o_z x_d_x x_d_y x_d_z == 0) (Tr.leaf (AV.tuple [AV.agg [AV.int IntKind.i64 false 0, AV.int IntKind.i64 false 0], AV.bool false false])) (Tr.node (mm false (IntKind.i64.wrap (0 + IntKind.i64.wrap (IntKind.i64.wrap (rootN (whi (eB c_x c_y c_z r x_o_x x_o_y x_o_z x_d_x x_d_y x_d_z * eB c_x c_y c_z r x_o_x x_o_y x_o_z x_d_x x_d_y x_d_z - eA c_x c_y c_z r x_o_x x_o_y x_o_z x_d_x x_d_y x_d_z * eQ c_x c_y c_z r x_o_x x_o_y x_o_z x_d_x x_d_y x_d_z)) (wlo (eB c_x c_y c_z r x_o_x x_o_y x_o_z x_d_x x_d_y x_d_z * eB c_x c_y c_z r x_o_x x_o_y x_o_z x_d_x x_d_y x_d_z - eA c_x c_y c_z r x_o_x x_o_y x_o_z x_d_x x_d_y x_d_z * eQ c_x c_y c_z r x_o_x x_o_y x_o_z x_d_x x_d_y x_d_z))) - eB c_x c_y c_z r x_o_x x_o_y x_o_z x_d_x x_d_y x_d_z))) (eA c_x c_y c_z r x_o_x x_o_y x_o_z x_d_x x_d_y x_d_z) == -9223372036854775808) (Tr.leaf (AV.tuple [AV.agg [AV.int IntKind.i64 false 0, AV.int IntKind.i64 false 0], AV.bool false false])) (Tr.node (decide (eA c_x c_y c_z r x_o_x x_o_y x_o_z x_d_x x_d_y x_d_z < 0)) (Tr.leaf (AV.tuple [AV.agg [AV.int IntKind.i64 false (IntKind.i64.wrap (0 - IntKind.i64.wrap (0 + IntKind.i64.wrap (IntKind.i64.wrap (rootN (whi (eB c_x c_y c_z r x_o_x x_o_y x_o_z x_d_x x_d_y x_d_z * eB c_x c_y c_z r x_o_x x_o_y x_o_z x_d_x x_d_y x_d_z - eA c_x c_y c_z r x_o_x x_o_y x_o_z x_d_x x_d_y x_d_z * eQ c_x c_y c_z r x_o_x x_o_y x_o_z x_d_x x_d_y x_d_z)) (wlo (eB c_x c_y c_z r x_o_x x_o_y x_o_z x_d_x x_d_y x_d_z * eB c_x c_y c_z r x_o_x x_o_y x_o_z x_d_x x_d_y x_d_z - eA c_x c_y c_z r x_o_x x_o_y x_o_z x_d_x x_d_y x_d_z * eQ c_x c_y c_z r x_o_x x_o_y x_o_z x_d_x x_d_y x_d_z))) - eB c_x c_y c_z r x_o_x x_o_y x_o_z x_d_x x_d_y x_d_z)))), AV.int IntKind.i64 false (IntKind.i64.wrap (0 - eA c_x c_y c_z r x_o_x x_o_y x_o_z x_d_x x_d_y x_d_z))], AV.bool false true])) (Tr.leaf (AV.tuple [AV.agg [AV.int IntKind.i64 false (IntKind.i64.wrap (0 + IntKind.i64.wrap (IntKind.i64.wrap (rootN (whi (eB c_x c_y c_z r x_o_x x_o_y x_o_z x_d_x x_d_y x_d_z * eB c_x c_y c_z r x_o_x x_o_y x_o_z x_d_x x_d_y x_d_z - eA c_x c_y c_z r x_o_x x_o_y x_o_z x_d_x x_d_y x_d_z * eQ c_x c_y c_z r x_o_x x_o_y x_o_z x_d_x x_d_y x_d_z)) (wlo (eB c_x c_y c_z r x_o_x x_o_y x_o_z x_d_x x_d_y x_d_z * eB c_x c_y c_z r x_o_x x_o_y x_o_z x_d_x x_d_y x_d_z - eA c_x c_y c_z r x_o_x x_o_y x_o_z x_d_x x_d_y x_d_z * eQ c_x c_y c_z r x_o_x x_o_y x_o_z x_d_x x_d_y x_d_z))) - eB c_x c_y c_z r x_o_x x_o_y x_o_z x_d_x x_d_y x_d_z))), AV.int IntKind.i64 false (eA c_x c_y c_z r x_o_x x_o_y x_o_z x_d_x x_d_y x_d_z)], AV.bool false true])))))))))
theorem run_ball_Hit (c_x : Int) (c_y : Int) (c_z : Int) (r : Int) (x_o_x : Int) (x_o_y : Int) (x_o_z : Int) (x_d_x : Int) (x_d_y : Int) (x_d_z : Int) (x_f : Int) (h_c_x : InR .i64 c_x) (h_c_y : InR .i64 c_y) (h_c_z : InR .i64 c_z) (h_r : InR .i64 r) (h_x_o_x : InR .i64 x_o_x) (h_x_o_y : InR .i64 x_o_y) (h_x_o_z : InR .i64 x_o_z) (h_x_d_x : InR .i64 x_d_x) (h_x_d_y : InR .i64 x_d_y) (h_x_d_z : InR .i64 x_d_z) (h_x_f : InR .i64 x_f) : (tr_ball_Hit c_x c_y c_z r x_o_x x_o_y x_o_z x_d_x x_d_y x_d_z x_f).run = some (.tuple [frA (hitN c_x c_y c_z r x_o_x x_o_y x_o_z x_d_x x_d_y x_d_z) (hitD c_x c_y c_z r x_o_x x_o_y x_o_z x_d_x x_d_y x_d_z), bb (hitOk c_x c_y c_z r x_o_x x_o_y x_o_z x_d_x x_d_y x_d_z)]) := by
  unfold tr_ball_Hit
  cases hm : mayE c_x c_y c_z r x_o_x x_o_y x_o_z x_d_x x_d_y x_d_z
  · have ok : hitOk c_x c_y c_z r x_o_x x_o_y x_o_z x_d_x x_d_y x_d_z = false := by unfold hitOk; rw [bMay_iff, hm]; rfl
    unfold hitN hitD
    rw [ok]
    have z : eA c_x c_y c_z r x_o_x x_o_y x_o_z x_d_x x_d_y x_d_z = 0 ∧ eB c_x c_y c_z r x_o_x x_o_y x_o_z x_d_x x_d_y x_d_z = 0 ∧ eQ c_x c_y c_z r x_o_x x_o_y x_o_z x_d_x x_d_y x_d_z = 0 := by unfold eA eB eQ; rw [hm]; simp
    rw [z.1, z.2.1, z.2.2]
    rfl
  
  obtain ⟨⟨s1, s2, s3⟩, f1, f2, f3, r1, r2, r3, r4⟩ := ball_facts hm
  
  have z1 : eA c_x c_y c_z r x_o_x x_o_y x_o_z x_d_x x_d_y x_d_z = bA x_d_x x_d_y x_d_z := by unfold eA; rw [hm]; rfl
  have z2 : eB c_x c_y c_z r x_o_x x_o_y x_o_z x_d_x x_d_y x_d_z = bB c_x c_y c_z x_o_x x_o_y x_o_z x_d_x x_d_y x_d_z := by unfold eB; rw [hm]; rfl
  have z3 : eQ c_x c_y c_z r x_o_x x_o_y x_o_z x_d_x x_d_y x_d_z = bQ c_x c_y c_z r x_o_x x_o_y x_o_z := by unfold eQ; rw [hm]; rfl
  rw [z1, z2, z3]
  clear z1 z2 z3
  
  obtain ⟨d1, d2, d3, d4⟩ := disc_r r1 r2 r3
  obtain ⟨w1, w2, w3⟩ := root_w ⟨d1, d2⟩
  by_cases hd0 : x_d_x = 0 ∧ x_d_y = 0 ∧ x_d_z = 0
  · have ok : hitOk c_x c_y c_z r x_o_x x_o_y x_o_z x_d_x x_d_y x_d_z = false := by unfold hitOk; rw [bMay_iff, hm]; simp [hd0]
    unfold hitN hitD
    rw [ok]
    have a0 := r4.2 hd0
    rw [a0]
    (repeat' (first | rfl | (refine run_guard (fun _ => ?_) (fun _ => ?_)))) <;> (exfalso; simp_all)
  have ha : 0 < bA x_d_x x_d_y x_d_z := by
    have : bA x_d_x x_d_y x_d_z ≠ 0 := fun h => hd0 (r4.1 h)
    omega
  have may : bMay c_x c_y c_z r x_o_x x_o_y x_o_z x_d_x x_d_y x_d_z = true := by rw [bMay_iff, hm]; simp; omega
  have ok : hitOk c_x c_y c_z r x_o_x x_o_y x_o_z x_d_x x_d_y x_d_z = decide (0 ≤ bDisc c_x c_y c_z r x_o_x x_o_y x_o_z x_d_x x_d_y x_d_z ∧ ((bQ c_x c_y c_z r x_o_x x_o_y x_o_z > 0 ∧ bB c_x c_y c_z x_o_x x_o_y x_o_z x_d_x x_d_y x_d_z < 0) ∨ (bQ c_x c_y c_z r x_o_x x_o_y x_o_z ≤ 0 ∧ bS c_x c_y c_z r x_o_x x_o_y x_o_z x_d_x x_d_y x_d_z - bB c_x c_y c_z x_o_x x_o_y x_o_z x_d_x x_d_y x_d_z > 0))) := by
    unfold hitOk; rw [may, Bool.true_and, Bool.eq_iff_iff]; simp
  unfold hitN hitD
  rw [ok]
  clear ok may
  unfold bS bDisc
  
  generalize bA x_d_x x_d_y x_d_z = a at *
  generalize bB c_x c_y c_z x_o_x x_o_y x_o_z x_d_x x_d_y x_d_z = b at *
  generalize bQ c_x c_y c_z r x_o_x x_o_y x_o_z = q at *
  by_cases hD : 0 ≤ b * b - a * q
  rotate_left
  · have e : rootN (whi (b * b - a * q)) (wlo (b * b - a * q)) = 0 := w3 (by omega)
    rw [decide_eq_false (show ¬ (0 ≤ b * b - a * q ∧ _) from fun h => hD h.1)]
    exact run_t (by rw [decide_eq_false (fun h => hD (w1.1 h))]; rfl)
  obtain ⟨g1, g2, g3, g4, g5⟩ := w2 hD
  rw [g1]
  have hp := hit_pos (a := a) (b := b) (q := q) (s := isq (b * b - a * q)) ha g2 g4
  have hw : 0 ≤ whi (b * b - a * q) := w1.2 hD
  generalize whi (b * b - a * q) = H at *
  generalize isq (b * b - a * q) = s at *
  have x1 : IntKind.i64.wrap s = s := wrap_i64_id (by omega)
  have x2 : IntKind.i64.wrap (s - b) = s - b := wrap_i64_id (by omega)
  have x3 : IntKind.i64.wrap (-2 * s) = -2 * s := wrap_i64_id (by omega)
  have x4 : IntKind.i64.wrap (-2 * s + (s - b)) = -b - s := by rw [wrap_i64_id (by omega)]; omega
  have x5 : IntKind.i64.wrap (0 + (s - b)) = s - b := by rw [wrap_i64_id (by omega)]; omega
  simp only [x1, x2, x3, x4, x5]
  by_cases C1 : q > 0 ∧ b < 0
  · rw [decide_eq_true (show 0 ≤ b * b - a * q ∧ _ from ⟨hD, .inl C1⟩), if_pos rfl, if_pos rfl, if_pos C1.1]
    have := hp C1.1 C1.2
    repeat (first | refine (run_t (by first | rfl | (simp only [decide_eq_true_eq, decide_eq_false_iff_not, Bool.not_eq_true', Bool.not_eq_false', beq_iff_eq, beq_eq_false_iff_ne, min_r, ne_eq]; omega))).trans ?_ | refine (run_f (by first | rfl | (simp only [decide_eq_true_eq, decide_eq_false_iff_not, Bool.not_eq_true', Bool.not_eq_false', beq_iff_eq, beq_eq_false_iff_ne, min_r, ne_eq]; omega))).trans ?_)
    rfl
  by_cases C2 : q ≤ 0 ∧ s - b > 0
  · rw [decide_eq_true (show 0 ≤ b * b - a * q ∧ _ from ⟨hD, .inr C2⟩), if_pos rfl, if_pos rfl, if_neg (by omega)]
    repeat (first | refine (run_t (by first | rfl | (simp only [decide_eq_true_eq, decide_eq_false_iff_not, Bool.not_eq_true', Bool.not_eq_false', beq_iff_eq, beq_eq_false_iff_ne, min_r, ne_eq]; omega))).trans ?_ | refine (run_f (by first | rfl | (simp only [decide_eq_true_eq, decide_eq_false_iff_not, Bool.not_eq_true', Bool.not_eq_false', beq_iff_eq, beq_eq_false_iff_ne, min_r, ne_eq]; omega))).trans ?_)
    rfl
  · rw [decide_eq_false (show ¬ (0 ≤ b * b - a * q ∧ _) from fun h => h.2.elim C1 C2), if_neg (by decide), if_neg (by decide)]
    by_cases hq : q > 0
    · repeat (first | refine (run_t (by first | rfl | (simp only [decide_eq_true_eq, decide_eq_false_iff_not, Bool.not_eq_true', Bool.not_eq_false', beq_iff_eq, beq_eq_false_iff_ne, min_r, ne_eq]; omega))).trans ?_ | refine (run_f (by first | rfl | (simp only [decide_eq_true_eq, decide_eq_false_iff_not, Bool.not_eq_true', Bool.not_eq_false', beq_iff_eq, beq_eq_false_iff_ne, min_r, ne_eq]; omega))).trans ?_)
      rfl
    · repeat (first | refine (run_t (by first | rfl | (simp only [decide_eq_true_eq, decide_eq_false_iff_not, Bool.not_eq_true', Bool.not_eq_false', beq_iff_eq, beq_eq_false_iff_ne, min_r, ne_eq]; omega))).trans ?_ | refine (run_f (by first | rfl | (simp only [decide_eq_true_eq, decide_eq_false_iff_not, Bool.not_eq_true', Bool.not_eq_false', beq_iff_eq, beq_eq_false_iff_ne, min_r, ne_eq]; omega))).trans ?_)
      rfl

/-! skylightref12.Hit -/
def c_skylightref12_Hit_1 (c_x : Int) (c_y : Int) (c_z : Int) (x_o_x : Int) (x_o_y : Int) (x_o_z : Int) (x_d_x : Int) (x_d_y : Int) (x_d_z : Int) : Int := whi (dotN (sat (x_o_x + sat (c_x * -1))) (sat (x_o_y + sat (c_y * -1))) (sat (x_o_z + sat (c_z * -1))) x_d_x x_d_y x_d_z * dotN (sat (x_o_x + sat (c_x * -1))) (sat (x_o_y + sat (c_y * -1))) (sat (x_o_z + sat (c_z * -1))) x_d_x x_d_y x_d_z)
def c_skylightref12_Hit_2 (c_x : Int) (c_y : Int) (c_z : Int) (x_o_x : Int) (x_o_y : Int) (x_o_z : Int) (x_d_x : Int) (x_d_y : Int) (x_d_z : Int) : Int := wlo (dotN (sat (x_o_x + sat (c_x * -1))) (sat (x_o_y + sat (c_y * -1))) (sat (x_o_z + sat (c_z * -1))) x_d_x x_d_y x_d_z * dotN (sat (x_o_x + sat (c_x * -1))) (sat (x_o_y + sat (c_y * -1))) (sat (x_o_z + sat (c_z * -1))) x_d_x x_d_y x_d_z)
def c_skylightref12_Hit_3 (c_x : Int) (c_y : Int) (c_z : Int) (r : Int) (x_o_x : Int) (x_o_y : Int) (x_o_z : Int) (x_d_x : Int) (x_d_y : Int) (x_d_z : Int) : Int := whi (dotN x_d_x x_d_y x_d_z x_d_x x_d_y x_d_z * IntKind.i64.wrap (dotN (sat (x_o_x + sat (c_x * -1))) (sat (x_o_y + sat (c_y * -1))) (sat (x_o_z + sat (c_z * -1))) (sat (x_o_x + sat (c_x * -1))) (sat (x_o_y + sat (c_y * -1))) (sat (x_o_z + sat (c_z * -1))) - IntKind.i64.wrap (r * r)))
def c_skylightref12_Hit_4 (c_x : Int) (c_y : Int) (c_z : Int) (r : Int) (x_o_x : Int) (x_o_y : Int) (x_o_z : Int) (x_d_x : Int) (x_d_y : Int) (x_d_z : Int) : Int := wlo (dotN x_d_x x_d_y x_d_z x_d_x x_d_y x_d_z * IntKind.i64.wrap (dotN (sat (x_o_x + sat (c_x * -1))) (sat (x_o_y + sat (c_y * -1))) (sat (x_o_z + sat (c_z * -1))) (sat (x_o_x + sat (c_x * -1))) (sat (x_o_y + sat (c_y * -1))) (sat (x_o_z + sat (c_z * -1))) - IntKind.i64.wrap (r * r)))
def c_skylightref12_Hit_5 (c_x : Int) (c_y : Int) (c_z : Int) (r : Int) (x_o_x : Int) (x_o_y : Int) (x_o_z : Int) (x_d_x : Int) (x_d_y : Int) (x_d_z : Int) : Int := whi (wv (c_skylightref12_Hit_1 c_x c_y c_z x_o_x x_o_y x_o_z x_d_x x_d_y x_d_z) (c_skylightref12_Hit_2 c_x c_y c_z x_o_x x_o_y x_o_z x_d_x x_d_y x_d_z) - wv (c_skylightref12_Hit_3 c_x c_y c_z r x_o_x x_o_y x_o_z x_d_x x_d_y x_d_z) (c_skylightref12_Hit_4 c_x c_y c_z r x_o_x x_o_y x_o_z x_d_x x_d_y x_d_z))
def c_skylightref12_Hit_6 (c_x : Int) (c_y : Int) (c_z : Int) (r : Int) (x_o_x : Int) (x_o_y : Int) (x_o_z : Int) (x_d_x : Int) (x_d_y : Int) (x_d_z : Int) : Int := wlo (wv (c_skylightref12_Hit_1 c_x c_y c_z x_o_x x_o_y x_o_z x_d_x x_d_y x_d_z) (c_skylightref12_Hit_2 c_x c_y c_z x_o_x x_o_y x_o_z x_d_x x_d_y x_d_z) - wv (c_skylightref12_Hit_3 c_x c_y c_z r x_o_x x_o_y x_o_z x_d_x x_d_y x_d_z) (c_skylightref12_Hit_4 c_x c_y c_z r x_o_x x_o_y x_o_z x_d_x x_d_y x_d_z))
def c_skylightref12_Hit_7 (c_x : Int) (c_y : Int) (c_z : Int) (r : Int) (x_o_x : Int) (x_o_y : Int) (x_o_z : Int) (x_d_x : Int) (x_d_y : Int) (x_d_z : Int) : Int := IntKind.i64.wrap (IntKind.i64.wrap (rootN (c_skylightref12_Hit_5 c_x c_y c_z r x_o_x x_o_y x_o_z x_d_x x_d_y x_d_z) (c_skylightref12_Hit_6 c_x c_y c_z r x_o_x x_o_y x_o_z x_d_x x_d_y x_d_z)) - dotN (sat (x_o_x + sat (c_x * -1))) (sat (x_o_y + sat (c_y * -1))) (sat (x_o_z + sat (c_z * -1))) x_d_x x_d_y x_d_z)
def tr_skylightref12_Hit (c_x : Int) (c_y : Int) (c_z : Int) (r : Int) (x_o_x : Int) (x_o_y : Int) (x_o_z : Int) (x_d_x : Int) (x_d_y : Int) (x_d_z : Int) (x_f : Int) : Tr AV := Tr.node (!bMay c_x c_y c_z r x_o_x x_o_y x_o_z x_d_x x_d_y x_d_z) (Tr.leaf (AV.tuple [AV.agg [AV.int IntKind.i64 false 0, AV.int IntKind.i64 false 0], AV.bool false false])) (Tr.node (!decide (0 ≤ whi (wv (c_skylightref12_Hit_1 c_x c_y c_z x_o_x x_o_y x_o_z x_d_x x_d_y x_d_z) (c_skylightref12_Hit_2 c_x c_y c_z x_o_x x_o_y x_o_z x_d_x x_d_y x_d_z) - wv (c_skylightref12_Hit_3 c_x c_y c_z r x_o_x x_o_y x_o_z x_d_x x_d_y x_d_z) (c_skylightref12_Hit_4 c_x c_y c_z r x_o_x x_o_y x_o_z x_d_x x_d_y x_d_z)))) (Tr.leaf (AV.tuple [AV.agg [AV.int IntKind.i64 false 0, AV.int IntKind.i64 false 0], AV.bool false false])) (Tr.node (decide (IntKind.i64.wrap (dotN (sat (x_o_x + sat (c_x * -1))) (sat (x_o_y + sat (c_y * -1))) (sat (x_o_z + sat (c_z * -1))) (sat (x_o_x + sat (c_x * -1))) (sat (x_o_y + sat (c_y * -1))) (sat (x_o_z + sat (c_z * -1))) - IntKind.i64.wrap (r * r)) > 0)) (Tr.node (decide (dotN (sat (x_o_x + sat (c_x * -1))) (sat (x_o_y + sat (c_y * -1))) (sat (x_o_z + sat (c_z * -1))) x_d_x x_d_y x_d_z < 0)) (Tr.leaf (AV.tuple [AV.agg [AV.int IntKind.i64 false (IntKind.i64.wrap (IntKind.i64.wrap (0 - dotN (sat (x_o_x + sat (c_x * -1))) (sat (x_o_y + sat (c_y * -1))) (sat (x_o_z + sat (c_z * -1))) x_d_x x_d_y x_d_z) - IntKind.i64.wrap (rootN (c_skylightref12_Hit_5 c_x c_y c_z r x_o_x x_o_y x_o_z x_d_x x_d_y x_d_z) (c_skylightref12_Hit_6 c_x c_y c_z r x_o_x x_o_y x_o_z x_d_x x_d_y x_d_z)))), AV.int IntKind.i64 false (dotN x_d_x x_d_y x_d_z x_d_x x_d_y x_d_z)], AV.bool false true])) (Tr.node (decide (IntKind.i64.wrap (dotN (sat (x_o_x + sat (c_x * -1))) (sat (x_o_y + sat (c_y * -1))) (sat (x_o_z + sat (c_z * -1))) (sat (x_o_x + sat (c_x * -1))) (sat (x_o_y + sat (c_y * -1))) (sat (x_o_z + sat (c_z * -1))) - IntKind.i64.wrap (r * r)) ≤ 0)) (Tr.node (decide (IntKind.i64.wrap (IntKind.i64.wrap (rootN (c_skylightref12_Hit_5 c_x c_y c_z r x_o_x x_o_y x_o_z x_d_x x_d_y x_d_z) (c_skylightref12_Hit_6 c_x c_y c_z r x_o_x x_o_y x_o_z x_d_x x_d_y x_d_z)) - dotN (sat (x_o_x + sat (c_x * -1))) (sat (x_o_y + sat (c_y * -1))) (sat (x_o_z + sat (c_z * -1))) x_d_x x_d_y x_d_z) > 0)) (Tr.leaf (AV.tuple [AV.agg [AV.int IntKind.i64 false (c_skylightref12_Hit_7 c_x c_y c_z r x_o_x x_o_y x_o_z x_d_x x_d_y x_d_z), AV.int IntKind.i64 false (dotN x_d_x x_d_y x_d_z x_d_x x_d_y x_d_z)], AV.bool false true])) (Tr.leaf (AV.tuple [AV.agg [AV.int IntKind.i64 false 0, AV.int IntKind.i64 false 0], AV.bool false false]))) (Tr.leaf (AV.tuple [AV.agg [AV.int IntKind.i64 false 0, AV.int IntKind.i64 false 0], AV.bool false false])))) (Tr.node (decide (IntKind.i64.wrap (dotN (sat (x_o_x + sat (c_x * -1))) (sat (x_o_y + sat (c_y * -1))) (sat (x_o_z + sat (c_z * -1))) (sat (x_o_x + sat (c_x * -1))) (sat (x_o_y + sat (c_y * -1))) (sat (x_o_z + sat (c_z * -1))) - IntKind.i64.wrap (r * r)) ≤ 0)) (Tr.node (decide (IntKind.i64.wrap (IntKind.i64.wrap (rootN (c_skylightref12_Hit_5 c_x c_y c_z r x_o_x x_o_y x_o_z x_d_x x_d_y x_d_z) (c_skylightref12_Hit_6 c_x c_y c_z r x_o_x x_o_y x_o_z x_d_x x_d_y x_d_z)) - dotN (sat (x_o_x + sat (c_x * -1))) (sat (x_o_y + sat (c_y * -1))) (sat (x_o_z + sat (c_z * -1))) x_d_x x_d_y x_d_z) > 0)) (Tr.leaf (AV.tuple [AV.agg [AV.int IntKind.i64 false (c_skylightref12_Hit_7 c_x c_y c_z r x_o_x x_o_y x_o_z x_d_x x_d_y x_d_z), AV.int IntKind.i64 false (dotN x_d_x x_d_y x_d_z x_d_x x_d_y x_d_z)], AV.bool false true])) (Tr.leaf (AV.tuple [AV.agg [AV.int IntKind.i64 false 0, AV.int IntKind.i64 false 0], AV.bool false false]))) (Tr.leaf (AV.tuple [AV.agg [AV.int IntKind.i64 false 0, AV.int IntKind.i64 false 0], AV.bool false false])))))
theorem run_skylightref12_Hit (c_x : Int) (c_y : Int) (c_z : Int) (r : Int) (x_o_x : Int) (x_o_y : Int) (x_o_z : Int) (x_d_x : Int) (x_d_y : Int) (x_d_z : Int) (x_f : Int) (h_c_x : InR .i64 c_x) (h_c_y : InR .i64 c_y) (h_c_z : InR .i64 c_z) (h_r : InR .i64 r) (h_x_o_x : InR .i64 x_o_x) (h_x_o_y : InR .i64 x_o_y) (h_x_o_z : InR .i64 x_o_z) (h_x_d_x : InR .i64 x_d_x) (h_x_d_y : InR .i64 x_d_y) (h_x_d_z : InR .i64 x_d_z) (h_x_f : InR .i64 x_f) : (tr_skylightref12_Hit c_x c_y c_z r x_o_x x_o_y x_o_z x_d_x x_d_y x_d_z x_f).run = some (.tuple [frA (hitN c_x c_y c_z r x_o_x x_o_y x_o_z x_d_x x_d_y x_d_z) (hitD c_x c_y c_z r x_o_x x_o_y x_o_z x_d_x x_d_y x_d_z), bb (hitOk c_x c_y c_z r x_o_x x_o_y x_o_z x_d_x x_d_y x_d_z)]) := by
  unfold tr_skylightref12_Hit
  cases hm : mayE c_x c_y c_z r x_o_x x_o_y x_o_z x_d_x x_d_y x_d_z
  · have ok : hitOk c_x c_y c_z r x_o_x x_o_y x_o_z x_d_x x_d_y x_d_z = false := by unfold hitOk; rw [bMay_iff, hm]; rfl
    have may : bMay c_x c_y c_z r x_o_x x_o_y x_o_z x_d_x x_d_y x_d_z = false := by rw [bMay_iff, hm]; rfl
    unfold hitN hitD
    rw [ok, may]
    rfl
  
  obtain ⟨⟨s1, s2, s3⟩, f1, f2, f3, r1, r2, r3, r4⟩ := ball_facts hm
  
  unfold c_skylightref12_Hit_7 c_skylightref12_Hit_5 c_skylightref12_Hit_6 c_skylightref12_Hit_1 c_skylightref12_Hit_2 c_skylightref12_Hit_3 c_skylightref12_Hit_4
  rw [s1, s2, s3, f1, f2, f3]
  simp only [wv_sg, whi_sgm, wlo_sgm]
  
  obtain ⟨d1, d2, d3, d4⟩ := disc_r r1 r2 r3
  obtain ⟨w1, w2, w3⟩ := root_w ⟨d1, d2⟩
  by_cases hd0 : x_d_x = 0 ∧ x_d_y = 0 ∧ x_d_z = 0
  · have ok : hitOk c_x c_y c_z r x_o_x x_o_y x_o_z x_d_x x_d_y x_d_z = false := by unfold hitOk; rw [bMay_iff, hm]; simp [hd0]
    unfold hitN hitD
    rw [ok]
    have may : bMay c_x c_y c_z r x_o_x x_o_y x_o_z x_d_x x_d_y x_d_z = false := by rw [bMay_iff, hm]; simp [hd0]
    rw [may]; rfl
  have ha : 0 < bA x_d_x x_d_y x_d_z := by
    have : bA x_d_x x_d_y x_d_z ≠ 0 := fun h => hd0 (r4.1 h)
    omega
  have may : bMay c_x c_y c_z r x_o_x x_o_y x_o_z x_d_x x_d_y x_d_z = true := by rw [bMay_iff, hm]; simp; omega
  have ok : hitOk c_x c_y c_z r x_o_x x_o_y x_o_z x_d_x x_d_y x_d_z = decide (0 ≤ bDisc c_x c_y c_z r x_o_x x_o_y x_o_z x_d_x x_d_y x_d_z ∧ ((bQ c_x c_y c_z r x_o_x x_o_y x_o_z > 0 ∧ bB c_x c_y c_z x_o_x x_o_y x_o_z x_d_x x_d_y x_d_z < 0) ∨ (bQ c_x c_y c_z r x_o_x x_o_y x_o_z ≤ 0 ∧ bS c_x c_y c_z r x_o_x x_o_y x_o_z x_d_x x_d_y x_d_z - bB c_x c_y c_z x_o_x x_o_y x_o_z x_d_x x_d_y x_d_z > 0))) := by
    unfold hitOk; rw [may, Bool.true_and, Bool.eq_iff_iff]; simp
  unfold hitN hitD
  rw [ok, may]
  clear ok may
  refine (run_f rfl).trans ?_
  unfold bS bDisc
  
  generalize bA x_d_x x_d_y x_d_z = a at *
  generalize bB c_x c_y c_z x_o_x x_o_y x_o_z x_d_x x_d_y x_d_z = b at *
  generalize bQ c_x c_y c_z r x_o_x x_o_y x_o_z = q at *
  by_cases hD : 0 ≤ b * b - a * q
  rotate_left
  · have e : rootN (whi (b * b - a * q)) (wlo (b * b - a * q)) = 0 := w3 (by omega)
    rw [decide_eq_false (show ¬ (0 ≤ b * b - a * q ∧ _) from fun h => hD h.1)]
    exact run_t (by rw [decide_eq_false (fun h => hD (w1.1 h))]; rfl)
  obtain ⟨g1, g2, g3, g4, g5⟩ := w2 hD
  rw [g1]
  have hp := hit_pos (a := a) (b := b) (q := q) (s := isq (b * b - a * q)) ha g2 g4
  have hw : 0 ≤ whi (b * b - a * q) := w1.2 hD
  generalize whi (b * b - a * q) = H at *
  generalize isq (b * b - a * q) = s at *
  have x1 : IntKind.i64.wrap s = s := wrap_i64_id (by omega)
  have x2 : IntKind.i64.wrap (s - b) = s - b := wrap_i64_id (by omega)
  have x3 : IntKind.i64.wrap (0 - b) = -b := by rw [wrap_i64_id (by omega)]; omega
  have x4 : IntKind.i64.wrap (-b - s) = -b - s := wrap_i64_id (by omega)
  simp only [x1, x2, x3, x4]
  by_cases C1 : q > 0 ∧ b < 0
  · rw [decide_eq_true (show 0 ≤ b * b - a * q ∧ _ from ⟨hD, .inl C1⟩), if_pos rfl, if_pos rfl, if_pos C1.1]
    have := hp C1.1 C1.2
    repeat (first | refine (run_t (by first | rfl | (simp only [decide_eq_true_eq, decide_eq_false_iff_not, Bool.not_eq_true', Bool.not_eq_false', beq_iff_eq, beq_eq_false_iff_ne, min_r, ne_eq]; omega))).trans ?_ | refine (run_f (by first | rfl | (simp only [decide_eq_true_eq, decide_eq_false_iff_not, Bool.not_eq_true', Bool.not_eq_false', beq_iff_eq, beq_eq_false_iff_ne, min_r, ne_eq]; omega))).trans ?_)
    rfl
  by_cases C2 : q ≤ 0 ∧ s - b > 0
  · rw [decide_eq_true (show 0 ≤ b * b - a * q ∧ _ from ⟨hD, .inr C2⟩), if_pos rfl, if_pos rfl, if_neg (by omega)]
    repeat (first | refine (run_t (by first | rfl | (simp only [decide_eq_true_eq, decide_eq_false_iff_not, Bool.not_eq_true', Bool.not_eq_false', beq_iff_eq, beq_eq_false_iff_ne, min_r, ne_eq]; omega))).trans ?_ | refine (run_f (by first | rfl | (simp only [decide_eq_true_eq, decide_eq_false_iff_not, Bool.not_eq_true', Bool.not_eq_false', beq_iff_eq, beq_eq_false_iff_ne, min_r, ne_eq]; omega))).trans ?_)
    rfl
  · rw [decide_eq_false (show ¬ (0 ≤ b * b - a * q ∧ _) from fun h => h.2.elim C1 C2), if_neg (by decide), if_neg (by decide)]
    by_cases hq : q > 0
    · repeat (first | refine (run_t (by first | rfl | (simp only [decide_eq_true_eq, decide_eq_false_iff_not, Bool.not_eq_true', Bool.not_eq_false', beq_iff_eq, beq_eq_false_iff_ne, min_r, ne_eq]; omega))).trans ?_ | refine (run_f (by first | rfl | (simp only [decide_eq_true_eq, decide_eq_false_iff_not, Bool.not_eq_true', Bool.not_eq_false', beq_iff_eq, beq_eq_false_iff_ne, min_r, ne_eq]; omega))).trans ?_)
      rfl
    · repeat (first | refine (run_t (by first | rfl | (simp only [decide_eq_true_eq, decide_eq_false_iff_not, Bool.not_eq_true', Bool.not_eq_false', beq_iff_eq, beq_eq_false_iff_ne, min_r, ne_eq]; omega))).trans ?_ | refine (run_f (by first | rfl | (simp only [decide_eq_true_eq, decide_eq_false_iff_not, Bool.not_eq_true', Bool.not_eq_false', beq_iff_eq, beq_eq_false_iff_ne, min_r, ne_eq]; omega))).trans ?_)
      rfl

/-! ball.Through -/
def tr_ball_Through (c_x : Int) (c_y : Int) (c_z : Int) (r : Int) (x_o_x : Int) (x_o_y : Int) (x_o_z : Int) (x_d_x : Int) (x_d_y : Int) (x_d_z : Int) (x_f : Int) : Tr AV := Tr.node (eA c_x c_y c_z r x_o_x x_o_y x_o_z x_d_x x_d_y x_d_z == 0) (Tr.leaf (AV.tuple [AV.agg [AV.int IntKind.i64 false 0, AV.int IntKind.i64 false 0], AV.bool false false])) (Tr.node (decide (IntKind.i64.wrap (-2 * eB c_x c_y c_z r x_o_x x_o_y x_o_z x_d_x x_d_y x_d_z) ≤ 0)) (Tr.leaf (AV.tuple [AV.agg [AV.int IntKind.i64 false 0, AV.int IntKind.i64 false 0], AV.bool false false])) (Tr.node (eA c_x c_y c_z r x_o_x x_o_y x_o_z x_d_x x_d_y x_d_z == 0) (Tr.leaf (AV.tuple [AV.agg [AV.int IntKind.i64 false 0, AV.int IntKind.i64 false 0], AV.bool false false])) (Tr.node (mm false (IntKind.i64.wrap (-2 * eB c_x c_y c_z r x_o_x x_o_y x_o_z x_d_x x_d_y x_d_z)) (eA c_x c_y c_z r x_o_x x_o_y x_o_z x_d_x x_d_y x_d_z) == -9223372036854775808) (Tr.leaf (AV.tuple [AV.agg [AV.int IntKind.i64 false 0, AV.int IntKind.i64 false 0], AV.bool false false])) (Tr.node (decide (eA c_x c_y c_z r x_o_x x_o_y x_o_z x_d_x x_d_y x_d_z < 0)) (Tr.leaf (AV.tuple [AV.agg [AV.int IntKind.i64 false (IntKind.i64.wrap (0 - IntKind.i64.wrap (-2 * eB c_x c_y c_z r x_o_x x_o_y x_o_z x_d_x x_d_y x_d_z))), AV.int IntKind.i64 false (IntKind.i64.wrap (0 - eA c_x c_y c_z r x_o_x x_o_y x_o_z x_d_x x_d_y x_d_z))], AV.bool false true])) (Tr.leaf (AV.tuple [AV.agg [AV.int IntKind.i64 false (IntKind.i64.wrap (-2 * eB c_x c_y c_z r x_o_x x_o_y x_o_z x_d_x x_d_y x_d_z)), AV.int IntKind.i64 false (eA c_x c_y c_z r x_o_x x_o_y x_o_z x_d_x x_d_y x_d_z)], AV.bool false true]))))))
theorem run_ball_Through (c_x : Int) (c_y : Int) (c_z : Int) (r : Int) (x_o_x : Int) (x_o_y : Int) (x_o_z : Int) (x_d_x : Int) (x_d_y : Int) (x_d_z : Int) (x_f : Int) (h_c_x : InR .i64 c_x) (h_c_y : InR .i64 c_y) (h_c_z : InR .i64 c_z) (h_r : InR .i64 r) (h_x_o_x : InR .i64 x_o_x) (h_x_o_y : InR .i64 x_o_y) (h_x_o_z : InR .i64 x_o_z) (h_x_d_x : InR .i64 x_d_x) (h_x_d_y : InR .i64 x_d_y) (h_x_d_z : InR .i64 x_d_z) (h_x_f : InR .i64 x_f) : (tr_ball_Through c_x c_y c_z r x_o_x x_o_y x_o_z x_d_x x_d_y x_d_z x_f).run = some (.tuple [frA (thrN c_x c_y c_z r x_o_x x_o_y x_o_z x_d_x x_d_y x_d_z) (thrD c_x c_y c_z r x_o_x x_o_y x_o_z x_d_x x_d_y x_d_z), bb (thrOk c_x c_y c_z r x_o_x x_o_y x_o_z x_d_x x_d_y x_d_z)]) := by
  unfold tr_ball_Through
  have thr : thrOk c_x c_y c_z r x_o_x x_o_y x_o_z x_d_x x_d_y x_d_z = (mayE c_x c_y c_z r x_o_x x_o_y x_o_z x_d_x x_d_y x_d_z && !decide (x_d_x = 0 ∧ x_d_y = 0 ∧ x_d_z = 0) && decide (bB c_x c_y c_z x_o_x x_o_y x_o_z x_d_x x_d_y x_d_z < 0)) := by unfold thrOk; rw [bMay_iff]
  unfold thrN thrD
  rw [thr]
  
  cases hm : mayE c_x c_y c_z r x_o_x x_o_y x_o_z x_d_x x_d_y x_d_z
  · have z : eA c_x c_y c_z r x_o_x x_o_y x_o_z x_d_x x_d_y x_d_z = 0 ∧ eB c_x c_y c_z r x_o_x x_o_y x_o_z x_d_x x_d_y x_d_z = 0 ∧ eQ c_x c_y c_z r x_o_x x_o_y x_o_z x_d_x x_d_y x_d_z = 0 := by unfold eA eB eQ; rw [hm]; simp
    rw [z.1, z.2.1]
    rfl
  obtain ⟨_, _, _, _, r1, r2, r3, r4⟩ := ball_facts hm
  have z1 : eA c_x c_y c_z r x_o_x x_o_y x_o_z x_d_x x_d_y x_d_z = bA x_d_x x_d_y x_d_z := by unfold eA; rw [hm]; rfl
  have z2 : eB c_x c_y c_z r x_o_x x_o_y x_o_z x_d_x x_d_y x_d_z = bB c_x c_y c_z x_o_x x_o_y x_o_z x_d_x x_d_y x_d_z := by unfold eB; rw [hm]; rfl
  rw [z1, z2]
  by_cases hd0 : x_d_x = 0 ∧ x_d_y = 0 ∧ x_d_z = 0
  · rw [decide_eq_true hd0, r4.2 hd0]; rfl
  have ha : bA x_d_x x_d_y x_d_z ≠ 0 := fun h => hd0 (r4.1 h)
  rw [decide_eq_false hd0]
  generalize bA x_d_x x_d_y x_d_z = a at *
  generalize bB c_x c_y c_z x_o_x x_o_y x_o_z x_d_x x_d_y x_d_z = b at *
  have x1 : IntKind.i64.wrap (-2 * b) = -2 * b := wrap_i64_id (by omega)
  rw [x1]
  by_cases hb : b < 0
  · rw [decide_eq_true hb]
    repeat (first | refine (run_t (by first | rfl | (simp only [decide_eq_true_eq, decide_eq_false_iff_not, Bool.not_eq_true', Bool.not_eq_false', beq_iff_eq, beq_eq_false_iff_ne, min_r, ne_eq]; omega))).trans ?_ | refine (run_f (by first | rfl | (simp only [decide_eq_true_eq, decide_eq_false_iff_not, Bool.not_eq_true', Bool.not_eq_false', beq_iff_eq, beq_eq_false_iff_ne, min_r, ne_eq]; omega))).trans ?_)
    rfl
  · rw [decide_eq_false hb]
    repeat (first | refine (run_t (by first | rfl | (simp only [decide_eq_true_eq, decide_eq_false_iff_not, Bool.not_eq_true', Bool.not_eq_false', beq_iff_eq, beq_eq_false_iff_ne, min_r, ne_eq]; omega))).trans ?_ | refine (run_f (by first | rfl | (simp only [decide_eq_true_eq, decide_eq_false_iff_not, Bool.not_eq_true', Bool.not_eq_false', beq_iff_eq, beq_eq_false_iff_ne, min_r, ne_eq]; omega))).trans ?_)
    rfl

/-! skylightref12.Through -/
def tr_skylightref12_Through (c_x : Int) (c_y : Int) (c_z : Int) (r : Int) (x_o_x : Int) (x_o_y : Int) (x_o_z : Int) (x_d_x : Int) (x_d_y : Int) (x_d_z : Int) (x_f : Int) : Tr AV := Tr.node (!bMay c_x c_y c_z r x_o_x x_o_y x_o_z x_d_x x_d_y x_d_z) (Tr.leaf (AV.tuple [AV.agg [AV.int IntKind.i64 false 0, AV.int IntKind.i64 false 0], AV.bool false false])) (Tr.node (decide (dotN (sat (x_o_x + sat (c_x * -1))) (sat (x_o_y + sat (c_y * -1))) (sat (x_o_z + sat (c_z * -1))) x_d_x x_d_y x_d_z ≥ 0)) (Tr.leaf (AV.tuple [AV.agg [AV.int IntKind.i64 false 0, AV.int IntKind.i64 false 0], AV.bool false false])) (Tr.leaf (AV.tuple [AV.agg [AV.int IntKind.i64 false (IntKind.i64.wrap (-2 * dotN (sat (x_o_x + sat (c_x * -1))) (sat (x_o_y + sat (c_y * -1))) (sat (x_o_z + sat (c_z * -1))) x_d_x x_d_y x_d_z)), AV.int IntKind.i64 false (dotN x_d_x x_d_y x_d_z x_d_x x_d_y x_d_z)], AV.bool false true])))
theorem run_skylightref12_Through (c_x : Int) (c_y : Int) (c_z : Int) (r : Int) (x_o_x : Int) (x_o_y : Int) (x_o_z : Int) (x_d_x : Int) (x_d_y : Int) (x_d_z : Int) (x_f : Int) (h_c_x : InR .i64 c_x) (h_c_y : InR .i64 c_y) (h_c_z : InR .i64 c_z) (h_r : InR .i64 r) (h_x_o_x : InR .i64 x_o_x) (h_x_o_y : InR .i64 x_o_y) (h_x_o_z : InR .i64 x_o_z) (h_x_d_x : InR .i64 x_d_x) (h_x_d_y : InR .i64 x_d_y) (h_x_d_z : InR .i64 x_d_z) (h_x_f : InR .i64 x_f) : (tr_skylightref12_Through c_x c_y c_z r x_o_x x_o_y x_o_z x_d_x x_d_y x_d_z x_f).run = some (.tuple [frA (thrN c_x c_y c_z r x_o_x x_o_y x_o_z x_d_x x_d_y x_d_z) (thrD c_x c_y c_z r x_o_x x_o_y x_o_z x_d_x x_d_y x_d_z), bb (thrOk c_x c_y c_z r x_o_x x_o_y x_o_z x_d_x x_d_y x_d_z)]) := by
  unfold tr_skylightref12_Through
  have thr : thrOk c_x c_y c_z r x_o_x x_o_y x_o_z x_d_x x_d_y x_d_z = (mayE c_x c_y c_z r x_o_x x_o_y x_o_z x_d_x x_d_y x_d_z && !decide (x_d_x = 0 ∧ x_d_y = 0 ∧ x_d_z = 0) && decide (bB c_x c_y c_z x_o_x x_o_y x_o_z x_d_x x_d_y x_d_z < 0)) := by unfold thrOk; rw [bMay_iff]
  unfold thrN thrD
  rw [thr]
  
  cases hm : mayE c_x c_y c_z r x_o_x x_o_y x_o_z x_d_x x_d_y x_d_z
  · have may : bMay c_x c_y c_z r x_o_x x_o_y x_o_z x_d_x x_d_y x_d_z = false := by rw [bMay_iff, hm]; rfl
    rw [may]; rfl
  obtain ⟨⟨s1, s2, s3⟩, f1, f2, f3, r1, r2, r3, r4⟩ := ball_facts hm
  rw [s1, s2, s3, f1, f2]
  rw [bMay_iff, hm]
  by_cases hd0 : x_d_x = 0 ∧ x_d_y = 0 ∧ x_d_z = 0
  · rw [decide_eq_true hd0]; rfl
  rw [decide_eq_false hd0]
  refine (run_f rfl).trans ?_
  generalize bA x_d_x x_d_y x_d_z = a at *
  generalize bB c_x c_y c_z x_o_x x_o_y x_o_z x_d_x x_d_y x_d_z = b at *
  have x1 : IntKind.i64.wrap (-2 * b) = -2 * b := wrap_i64_id (by omega)
  rw [x1]
  by_cases hb : b < 0
  · rw [decide_eq_true hb]
    repeat (first | refine (run_t (by first | rfl | (simp only [decide_eq_true_eq, decide_eq_false_iff_not, Bool.not_eq_true', Bool.not_eq_false', beq_iff_eq, beq_eq_false_iff_ne, min_r, ne_eq]; omega))).trans ?_ | refine (run_f (by first | rfl | (simp only [decide_eq_true_eq, decide_eq_false_iff_not, Bool.not_eq_true', Bool.not_eq_false', beq_iff_eq, beq_eq_false_iff_ne, min_r, ne_eq]; omega))).trans ?_)
    rfl
  · rw [decide_eq_false hb]
    repeat (first | refine (run_t (by first | rfl | (simp only [decide_eq_true_eq, decide_eq_false_iff_not, Bool.not_eq_true', Bool.not_eq_false', beq_iff_eq, beq_eq_false_iff_ne, min_r, ne_eq]; omega))).trans ?_ | refine (run_f (by first | rfl | (simp only [decide_eq_true_eq, decide_eq_false_iff_not, Bool.not_eq_true', Bool.not_eq_false', beq_iff_eq, beq_eq_false_iff_ne, min_r, ne_eq]; omega))).trans ?_)
    rfl

/-! ball.Normal -/
def tr_ball_Normal (c_x : Int) (c_y : Int) (c_z : Int) (p_x : Int) (p_y : Int) (p_z : Int) : Tr AV := Tr.node (placeB c_x c_y c_z) (Tr.node (placeB p_x p_y p_z) (Tr.node (okU (sat (p_x + sat (c_x * -1))) (sat (p_y + sat (c_y * -1))) (sat (p_z + sat (c_z * -1)))) (Tr.leaf (AV.agg [AV.int IntKind.i64 false (unitC (sat (p_x + sat (c_x * -1))) (sat (p_y + sat (c_y * -1))) (sat (p_z + sat (c_z * -1))) (sat (p_x + sat (c_x * -1)))), AV.int IntKind.i64 false (unitC (sat (p_x + sat (c_x * -1))) (sat (p_y + sat (c_y * -1))) (sat (p_z + sat (c_z * -1))) (sat (p_y + sat (c_y * -1)))), AV.int IntKind.i64 false (unitC (sat (p_x + sat (c_x * -1))) (sat (p_y + sat (c_y * -1))) (sat (p_z + sat (c_z * -1))) (sat (p_z + sat (c_z * -1))))])) (Tr.leaf (AV.agg [AV.int IntKind.i64 false 0, AV.int IntKind.i64 false 0, AV.int IntKind.i64 false 16384]))) (Tr.leaf (AV.agg [AV.int IntKind.i64 false 0, AV.int IntKind.i64 false 0, AV.int IntKind.i64 false 16384]))) (Tr.leaf (AV.agg [AV.int IntKind.i64 false 0, AV.int IntKind.i64 false 0, AV.int IntKind.i64 false 16384]))
theorem run_ball_Normal (c_x : Int) (c_y : Int) (c_z : Int) (p_x : Int) (p_y : Int) (p_z : Int) (h_c_x : InR .i64 c_x) (h_c_y : InR .i64 c_y) (h_c_z : InR .i64 c_z) (h_p_x : InR .i64 p_x) (h_p_y : InR .i64 p_y) (h_p_z : InR .i64 p_z) : (tr_ball_Normal c_x c_y c_z p_x p_y p_z).run = some (v3 (norC (p_x - c_x) 0 c_x c_y c_z p_x p_y p_z) (norC (p_y - c_y) 0 c_x c_y c_z p_x p_y p_z) (norC (p_z - c_z) 16384 c_x c_y c_z p_x p_y p_z)) := by
  unfold tr_ball_Normal
  unfold norC
  cases h1 : placeB c_x c_y c_z
  · simp [Tr.run, v3, i6]
  cases h2 : placeB p_x p_y p_z
  · simp [Tr.run, v3, i6]
  have rc := place_r h1
  have rp := place_r h2
  rw [way1 (o := p_x) (c := c_x) (by omega) (by omega), way1 (o := p_y) (c := c_y) (by omega) (by omega), way1 (o := p_z) (c := c_z) (by omega) (by omega)]
  cases h3 : okU (p_x - c_x) (p_y - c_y) (p_z - c_z)
  · simp [Tr.run, v3, i6]
  · simp [Tr.run, v3, i6]

/-! skylightref12.Normal -/
def tr_skylightref12_Normal (c_x : Int) (c_y : Int) (c_z : Int) (p_x : Int) (p_y : Int) (p_z : Int) : Tr AV := Tr.node (!okU (sat (p_x + sat (c_x * -1))) (sat (p_y + sat (c_y * -1))) (sat (p_z + sat (c_z * -1)))) (Tr.leaf (AV.agg [AV.int IntKind.i64 false 0, AV.int IntKind.i64 false 0, AV.int IntKind.i64 false 16384])) (Tr.node (!placeB c_x c_y c_z) (Tr.leaf (AV.agg [AV.int IntKind.i64 false 0, AV.int IntKind.i64 false 0, AV.int IntKind.i64 false 16384])) (Tr.node (!placeB p_x p_y p_z) (Tr.leaf (AV.agg [AV.int IntKind.i64 false 0, AV.int IntKind.i64 false 0, AV.int IntKind.i64 false 16384])) (Tr.leaf (AV.agg [AV.int IntKind.i64 false (unitC (sat (p_x + sat (c_x * -1))) (sat (p_y + sat (c_y * -1))) (sat (p_z + sat (c_z * -1))) (sat (p_x + sat (c_x * -1)))), AV.int IntKind.i64 false (unitC (sat (p_x + sat (c_x * -1))) (sat (p_y + sat (c_y * -1))) (sat (p_z + sat (c_z * -1))) (sat (p_y + sat (c_y * -1)))), AV.int IntKind.i64 false (unitC (sat (p_x + sat (c_x * -1))) (sat (p_y + sat (c_y * -1))) (sat (p_z + sat (c_z * -1))) (sat (p_z + sat (c_z * -1))))]))))
theorem run_skylightref12_Normal (c_x : Int) (c_y : Int) (c_z : Int) (p_x : Int) (p_y : Int) (p_z : Int) (h_c_x : InR .i64 c_x) (h_c_y : InR .i64 c_y) (h_c_z : InR .i64 c_z) (h_p_x : InR .i64 p_x) (h_p_y : InR .i64 p_y) (h_p_z : InR .i64 p_z) : (tr_skylightref12_Normal c_x c_y c_z p_x p_y p_z).run = some (v3 (norC (p_x - c_x) 0 c_x c_y c_z p_x p_y p_z) (norC (p_y - c_y) 0 c_x c_y c_z p_x p_y p_z) (norC (p_z - c_z) 16384 c_x c_y c_z p_x p_y p_z)) := by
  unfold tr_skylightref12_Normal
  unfold norC
  cases h1 : placeB c_x c_y c_z
  · simp [Tr.run, v3, i6]
  cases h2 : placeB p_x p_y p_z
  · simp [Tr.run, v3, i6]
  have rc := place_r h1
  have rp := place_r h2
  rw [way1 (o := p_x) (c := c_x) (by omega) (by omega), way1 (o := p_y) (c := c_y) (by omega) (by omega), way1 (o := p_z) (c := c_z) (by omega) (by omega)]
  cases h3 : okU (p_x - c_x) (p_y - c_y) (p_z - c_z)
  · simp [Tr.run, v3, i6]
  · simp [Tr.run, v3, i6]

/-! ball.Inside -/
def tr_ball_Inside (c_x : Int) (c_y : Int) (c_z : Int) (r : Int) (p_x : Int) (p_y : Int) (p_z : Int) : Tr AV := Tr.node (!bRight c_x c_y c_z r) (Tr.leaf (AV.bool false false)) (Tr.node (!placeB p_x p_y p_z) (Tr.leaf (AV.bool false false)) (Tr.leaf (AV.bool false (decide (dotN (sat (p_x + sat (c_x * -1))) (sat (p_y + sat (c_y * -1))) (sat (p_z + sat (c_z * -1))) (sat (p_x + sat (c_x * -1))) (sat (p_y + sat (c_y * -1))) (sat (p_z + sat (c_z * -1))) ≤ IntKind.i64.wrap (r * r))))))
theorem run_ball_Inside (c_x : Int) (c_y : Int) (c_z : Int) (r : Int) (p_x : Int) (p_y : Int) (p_z : Int) (h_c_x : InR .i64 c_x) (h_c_y : InR .i64 c_y) (h_c_z : InR .i64 c_z) (h_r : InR .i64 r) (h_p_x : InR .i64 p_x) (h_p_y : InR .i64 p_y) (h_p_z : InR .i64 p_z) : (tr_ball_Inside c_x c_y c_z r p_x p_y p_z).run = some (bb (insB c_x c_y c_z r p_x p_y p_z)) := by
  unfold tr_ball_Inside
  unfold insB
  cases h1 : bRight c_x c_y c_z r
  · rfl
  cases h2 : placeB p_x p_y p_z
  · rfl
  obtain ⟨hc, hr⟩ := bRight_r h1
  have rc := place_r hc
  have rp := place_r h2
  have rr := mul_mono (a := r) (b := 262144) (c := r) (d := 262144) (by omega) hr.2 (by omega) hr.2
  have nw := way_near hc h2
  rw [way1 (o := p_x) (c := c_x) (by omega) (by omega), way1 (o := p_y) (c := c_y) (by omega) (by omega), way1 (o := p_z) (c := c_z) (by omega) (by omega), wrap_i64_id (by omega)]
  have e : dotN (p_x - c_x) (p_y - c_y) (p_z - c_z) (p_x - c_x) (p_y - c_y) (p_z - c_z) = bQ c_x c_y c_z r p_x p_y p_z + r * r := by
    unfold dotN; rw [if_pos ⟨nw, nw⟩]; unfold bQ; omega
  rw [e]
  simp only [Tr.run, bb, Bool.not_true, Bool.true_and, if_true, Bool.false_eq_true, if_false]
  congr 2
  rw [decide_eq_decide]
  omega

/-! skylightref12.Inside -/
def tr_skylightref12_Inside (c_x : Int) (c_y : Int) (c_z : Int) (r : Int) (p_x : Int) (p_y : Int) (p_z : Int) : Tr AV := Tr.node (bRight c_x c_y c_z r) (Tr.node (placeB p_x p_y p_z) (Tr.leaf (AV.bool false (decide (dotN (sat (p_x + sat (c_x * -1))) (sat (p_y + sat (c_y * -1))) (sat (p_z + sat (c_z * -1))) (sat (p_x + sat (c_x * -1))) (sat (p_y + sat (c_y * -1))) (sat (p_z + sat (c_z * -1))) ≤ IntKind.i64.wrap (r * r))))) (Tr.leaf (AV.bool false false))) (Tr.leaf (AV.bool false false))
theorem run_skylightref12_Inside (c_x : Int) (c_y : Int) (c_z : Int) (r : Int) (p_x : Int) (p_y : Int) (p_z : Int) (h_c_x : InR .i64 c_x) (h_c_y : InR .i64 c_y) (h_c_z : InR .i64 c_z) (h_r : InR .i64 r) (h_p_x : InR .i64 p_x) (h_p_y : InR .i64 p_y) (h_p_z : InR .i64 p_z) : (tr_skylightref12_Inside c_x c_y c_z r p_x p_y p_z).run = some (bb (insB c_x c_y c_z r p_x p_y p_z)) := by
  unfold tr_skylightref12_Inside
  unfold insB
  cases h1 : bRight c_x c_y c_z r
  · rfl
  cases h2 : placeB p_x p_y p_z
  · rfl
  obtain ⟨hc, hr⟩ := bRight_r h1
  have rc := place_r hc
  have rp := place_r h2
  have rr := mul_mono (a := r) (b := 262144) (c := r) (d := 262144) (by omega) hr.2 (by omega) hr.2
  have nw := way_near hc h2
  rw [way1 (o := p_x) (c := c_x) (by omega) (by omega), way1 (o := p_y) (c := c_y) (by omega) (by omega), way1 (o := p_z) (c := c_z) (by omega) (by omega), wrap_i64_id (by omega)]
  have e : dotN (p_x - c_x) (p_y - c_y) (p_z - c_z) (p_x - c_x) (p_y - c_y) (p_z - c_z) = bQ c_x c_y c_z r p_x p_y p_z + r * r := by
    unfold dotN; rw [if_pos ⟨nw, nw⟩]; unfold bQ; omega
  rw [e]
  simp only [Tr.run, bb, Bool.not_true, Bool.true_and, if_true, Bool.false_eq_true, if_false]
  congr 2
  rw [decide_eq_decide]
  omega

end Go.Sky

/- Triangles: what is reckoned. -/
set_option linter.unusedSimpArgs false
set_option linter.unusedVariables false
namespace Go.Sky

theorem run_split {α : Type} {p : Prop} [Decidable p] {t e : Tr α} {x : Option α} (ht : p → t.run = x) (he : ¬ p → e.run = x) : (Tr.node (decide p) t e).run = x :=
  run_guard (fun h => ht (of_decide_eq_true h)) (fun h => he (of_decide_eq_false h))
theorem run_split_eq {α : Type} {a b : Int} {t e : Tr α} {x : Option α} (ht : a = b → t.run = x) (he : a ≠ b → e.run = x) : (Tr.node (a == b) t e).run = x :=
  run_guard (fun h => ht (by simpa using h)) (fun h => he (by simpa using h))

def placesB (ax ay az bx b_y bz cx cy cz : Int) : Bool := placeB ax ay az && placeB bx b_y bz && placeB cx cy cz
/-- A coordinate of what stands upon a triangle, by the other two of its corners. -/
def upC (a a' b b' c c' : Int) : Int := (b - a) * (c' - a') - (b' - a') * (c - a)
def flatB (ax ay az bx b_y bz cx cy cz : Int) : Bool :=
  !placesB ax ay az bx b_y bz cx cy cz || decide (upC ay az b_y bz cy cz = 0 ∧ upC az ax bz bx cz cx = 0 ∧ upC ax ay bx b_y cx cy = 0)
def triOk (ax ay az bx b_y bz cx cy cz : Int) : Bool := placesB ax ay az bx b_y bz cx cy cz && okU (upC ay az b_y bz cy cz) (upC az ax bz bx cz cx) (upC ax ay bx b_y cx cy)
def triU (k ax ay az bx b_y bz cx cy cz : Int) : Int := if placesB ax ay az bx b_y bz cx cy cz = true then unitC (upC ay az b_y bz cy cz) (upC az ax bz bx cz cx) (upC ax ay bx b_y cx cy) k else 0
def up2 (ax ay az bx b_y bz cx cy cz : Int) : Int := dotI (upC ay az b_y bz cy cz) (upC az ax bz bx cz cx) (upC ax ay bx b_y cx cy) (upC ay az b_y bz cy cz) (upC az ax bz bx cz cx) (upC ax ay bx b_y cx cy)
def areaN (ax ay az bx b_y bz cx cy cz : Int) : Int := if placesB ax ay az bx b_y bz cx cy cz = true then isq (up2 ax ay az bx b_y bz cx cy cz) else 0
def vol3 (ax ay az bx b_y bz cx cy cz : Int) : Int := dotI ax ay az (b_y * cz - bz * cy) (bz * cx - bx * cz) (bx * cy - b_y * cx)
def tX (ax ay az bx b_y bz cx cy cz ox oy oz dx dy dz : Int) : Int := vol3 dx dy dz (bx - ox) (b_y - oy) (bz - oz) (cx - ox) (cy - oy) (cz - oz)
def tY (ax ay az bx b_y bz cx cy cz ox oy oz dx dy dz : Int) : Int := vol3 dx dy dz (cx - ox) (cy - oy) (cz - oz) (ax - ox) (ay - oy) (az - oz)
def tZ (ax ay az bx b_y bz cx cy cz ox oy oz dx dy dz : Int) : Int := vol3 dx dy dz (ax - ox) (ay - oy) (az - oz) (bx - ox) (b_y - oy) (bz - oz)
def tN (ax ay az bx b_y bz cx cy cz ox oy oz : Int) : Int := vol3 (ax - ox) (ay - oy) (az - oz) (bx - ox) (b_y - oy) (bz - oz) (cx - ox) (cy - oy) (cz - oz)
def tMay (ax ay az bx b_y bz cx cy cz ox oy oz dx dy dz : Int) : Bool := placesB ax ay az bx b_y bz cx cy cz && placeB ox oy oz && nearB dx dy dz
/-- Do three volumes, and a fourth, bear one sign? -/
def oneSign (x y z n : Int) : Prop := (0 ≤ x ∧ 0 ≤ y ∧ 0 ≤ z ∧ 0 < x + y + z ∧ 0 < n) ∨ (x ≤ 0 ∧ y ≤ 0 ∧ z ≤ 0 ∧ x + y + z < 0 ∧ n < 0)
instance (x y z n : Int) : Decidable (oneSign x y z n) := inferInstanceAs (Decidable (_ ∨ _))
def tOk (ax ay az bx b_y bz cx cy cz ox oy oz dx dy dz : Int) : Bool :=
  tMay ax ay az bx b_y bz cx cy cz ox oy oz dx dy dz && decide (oneSign (tX ax ay az bx b_y bz cx cy cz ox oy oz dx dy dz) (tY ax ay az bx b_y bz cx cy cz ox oy oz dx dy dz) (tZ ax ay az bx b_y bz cx cy cz ox oy oz dx dy dz) (tN ax ay az bx b_y bz cx cy cz ox oy oz))
def tNum (ax ay az bx b_y bz cx cy cz ox oy oz dx dy dz : Int) : Int := if tOk ax ay az bx b_y bz cx cy cz ox oy oz dx dy dz = true then sz (tN ax ay az bx b_y bz cx cy cz ox oy oz) else 0
def tDen (ax ay az bx b_y bz cx cy cz ox oy oz dx dy dz : Int) : Int :=
  if tOk ax ay az bx b_y bz cx cy cz ox oy oz dx dy dz = true then sz (tX ax ay az bx b_y bz cx cy cz ox oy oz dx dy dz + tY ax ay az bx b_y bz cx cy cz ox oy oz dx dy dz + tZ ax ay az bx b_y bz cx cy cz ox oy oz dx dy dz) else 0
def ptOk (ax ay az bx b_y bz cx cy cz u v : Int) : Bool := placesB ax ay az bx b_y bz cx cy cz && decide ((0 ≤ u ∧ u ≤ 65536) ∧ (0 ≤ v ∧ v ≤ 65536))
def ptS (a b c u v : Int) : Int := if u + v > 65536 then a + ((b - a) * (65536 - u) + (c - a) * (65536 - v)) / 65536 else a + ((b - a) * u + (c - a) * v) / 65536
def ptC (a b c ax ay az bx b_y bz cx cy cz u v : Int) : Int := if ptOk ax ay az bx b_y bz cx cy cz u v = true then ptS a b c u v else 0

theorem places_r {ax ay az bx b_y bz cx cy cz : Int} (h : placesB ax ay az bx b_y bz cx cy cz = true) : placeB ax ay az = true ∧ placeB bx b_y bz = true ∧ placeB cx cy cz = true := by
  unfold placesB at h; simp only [Bool.and_eq_true] at h; exact ⟨h.1.1, h.1.2, h.2⟩
theorem places_no {ax ay az bx b_y bz cx cy cz : Int} (h : ¬ (placeB ax ay az = true ∧ placeB bx b_y bz = true ∧ placeB cx cy cz = true)) : placesB ax ay az bx b_y bz cx cy cz = false := by
  rw [← Bool.not_eq_true]; intro h2; exact h (places_r h2)

/-- A way from one place to another one. -/
theorem way3 {ax ay az bx b_y bz : Int} (ha : placeB ax ay az = true) (hb : placeB bx b_y bz = true) :
    (sat (bx + sat (ax * -1)) = bx - ax ∧ sat (b_y + sat (ay * -1)) = b_y - ay ∧ sat (bz + sat (az * -1)) = bz - az) ∧ nearB (bx - ax) (b_y - ay) (bz - az) = true := by
  have ra := place_r ha; have rb := place_r hb
  exact ⟨⟨way1 (by omega) (by omega), way1 (by omega) (by omega), way1 (by omega) (by omega)⟩, way_near ha hb⟩

theorem crN_up {a b c d e f : Int} (ha : nearB e a b = true) (hb : nearB f c d = true) : crN a b c d e f = a * d - b * c ∧ -2199023255552 ≤ crN a b c d e f ∧ crN a b c d e f ≤ 2199023255552 := by
  have h1 := near_r ha; have h2 := near_r hb
  rw [crN_eq ha hb]
  have m1 := mul_near (x := a) (y := d) (by omega) (by omega)
  have m2 := mul_near (x := b) (y := c) (by omega) (by omega)
  omega

/-- What stands upon a triangle. -/
theorem tri_up {ax ay az bx b_y bz cx cy cz : Int} (ha : placeB ax ay az = true) (hb : placeB bx b_y bz = true) (hc : placeB cx cy cz = true) :
    (crN (b_y - ay) (bz - az) (cy - ay) (cz - az) (bx - ax) (cx - ax) = upC ay az b_y bz cy cz ∧ crN (bz - az) (bx - ax) (cz - az) (cx - ax) (b_y - ay) (cy - ay) = upC az ax bz bx cz cx ∧ crN (bx - ax) (b_y - ay) (cx - ax) (cy - ay) (bz - az) (cz - az) = upC ax ay bx b_y cx cy) ∧
    (-2199023255552 ≤ upC ay az b_y bz cy cz ∧ upC ay az b_y bz cy cz ≤ 2199023255552) ∧ (-2199023255552 ≤ upC az ax bz bx cz cx ∧ upC az ax bz bx cz cx ≤ 2199023255552) ∧ (-2199023255552 ≤ upC ax ay bx b_y cx cy ∧ upC ax ay bx b_y cx cy ≤ 2199023255552) := by
  have ne := (way3 ha hb).2; have nf := (way3 ha hc).2
  have r1 : nearB (b_y - ay) (bz - az) (bx - ax) = true := by rw [← near_rot2]; exact ne
  have r2 : nearB (cy - ay) (cz - az) (cx - ax) = true := by rw [← near_rot2]; exact nf
  have r3 : nearB (bz - az) (bx - ax) (b_y - ay) = true := by rw [← near_rot2]; exact r1
  have r4 : nearB (cz - az) (cx - ax) (cy - ay) = true := by rw [← near_rot2]; exact r2
  obtain ⟨a1, a2⟩ := crN_up ne nf
  obtain ⟨b1, b2⟩ := crN_up r1 r2
  obtain ⟨c1, c2⟩ := crN_up r3 r4
  rw [a1] at a2; rw [b1] at b2; rw [c1] at c2
  exact ⟨⟨a1, b1, c1⟩, a2, b2, c2⟩

theorem sq_bound {x : Int} (h : -2199023255552 ≤ x ∧ x ≤ 2199023255552) : 0 ≤ x * x ∧ x * x ≤ 4835703278458516698824704 := by
  have := mul_abs h h
  have := sq_nonneg x
  omega

theorem area_root {x y z : Int} (hx : -2199023255552 ≤ x ∧ x ≤ 2199023255552) (hy : -2199023255552 ≤ y ∧ y ≤ 2199023255552) (hz : -2199023255552 ≤ z ∧ z ≤ 2199023255552) {V : Int} (hV : V % 340282366920938463463374607431768211456 = (x * x + y * y + z * z) % 340282366920938463463374607431768211456) :
    IntKind.i64.wrap (rootN (whi V) (wlo V)) = isq (x * x + y * y + z * z) := by
  have a := sq_bound hx; have b := sq_bound hy; have c := sq_bound hz
  rw [whi_congr hV, wlo_congr hV]
  generalize x * x = X at *
  generalize y * y = Y at *
  generalize z * z = Z at *
  obtain ⟨w1, w2, _⟩ := root_w (D := X + Y + Z) ⟨by omega, by omega⟩
  obtain ⟨g1, g2, g3, _⟩ := w2 (by omega)
  rw [g1, wrap_i64_id (by omega)]

theorem vol_N {ax ay az bx b_y bz cx cy cz : Int} (ha : nearB ax ay az = true) (hb : nearB bx b_y bz = true) (hc : nearB cx cy cz = true) : volN ax ay az bx b_y bz cx cy cz = vol3 ax ay az bx b_y bz cx cy cz ∧
    -6917529027641081856 ≤ vol3 ax ay az bx b_y bz cx cy cz ∧ vol3 ax ay az bx b_y bz cx cy cz ≤ 6917529027641081856 := by
  have h1 := near_r ha; have h2 := near_r hb; have h3 := near_r hc
  have e : volN ax ay az bx b_y bz cx cy cz = vol3 ax ay az bx b_y bz cx cy cz := by unfold volN; rw [if_pos ⟨ha, hb, hc⟩]; rfl
  have m1 := mul_near2 (x := ax) (y := b_y * cz) (z := bz * cy) (by omega) (mul_near (by omega) (by omega)) (mul_near (by omega) (by omega))
  have m2 := mul_near2 (x := ay) (y := bz * cx) (z := bx * cz) (by omega) (mul_near (by omega) (by omega)) (mul_near (by omega) (by omega))
  have m3 := mul_near2 (x := az) (y := bx * cy) (z := b_y * cx) (by omega) (mul_near (by omega) (by omega)) (mul_near (by omega) (by omega))
  refine ⟨e, ?_⟩
  unfold vol3 dotI
  omega

section
variable {ax ay az bx b_y bz cx cy cz ox oy oz dx dy dz : Int}

theorem tMay_r (h : tMay ax ay az bx b_y bz cx cy cz ox oy oz dx dy dz = true) : (placeB ax ay az = true ∧ placeB bx b_y bz = true ∧ placeB cx cy cz = true) ∧ placeB ox oy oz = true ∧ nearB dx dy dz = true := by
  unfold tMay at h; simp only [Bool.and_eq_true] at h; exact ⟨places_r h.1.1, h.1.2, h.2⟩

/-- The program's volumes are sums of the document's. -/
theorem vol_all : vol3 (bx - ax) (b_y - ay) (bz - az) (cx - ax) (cy - ay) (cz - az) dx dy dz = tX ax ay az bx b_y bz cx cy cz ox oy oz dx dy dz + tY ax ay az bx b_y bz cx cy cz ox oy oz dx dy dz + tZ ax ay az bx b_y bz cx cy cz ox oy oz dx dy dz := by
  unfold tX tY tZ vol3 dotI; grind
theorem vol_u : vol3 (ox - ax) (oy - ay) (oz - az) (cx - ax) (cy - ay) (cz - az) dx dy dz = tY ax ay az bx b_y bz cx cy cz ox oy oz dx dy dz := by
  unfold tY vol3 dotI; grind
theorem vol_v : vol3 (bx - ax) (b_y - ay) (bz - az) (ox - ax) (oy - ay) (oz - az) dx dy dz = tZ ax ay az bx b_y bz cx cy cz ox oy oz dx dy dz := by
  unfold tZ vol3 dotI; grind
theorem vol_n : vol3 (bx - ax) (b_y - ay) (bz - az) (cx - ax) (cy - ay) (cz - az) (ox - ax) (oy - ay) (oz - az) = -tN ax ay az bx b_y bz cx cy cz ox oy oz := by
  unfold tN vol3 dotI; grind

/-- What is reckoned of a triangle and a ray that may be. -/
theorem tri_facts (h : tMay ax ay az bx b_y bz cx cy cz ox oy oz dx dy dz = true) :
    (volN (bx - ax) (b_y - ay) (bz - az) (cx - ax) (cy - ay) (cz - az) dx dy dz = tX ax ay az bx b_y bz cx cy cz ox oy oz dx dy dz + tY ax ay az bx b_y bz cx cy cz ox oy oz dx dy dz + tZ ax ay az bx b_y bz cx cy cz ox oy oz dx dy dz ∧
     volN (ox - ax) (oy - ay) (oz - az) (cx - ax) (cy - ay) (cz - az) dx dy dz = tY ax ay az bx b_y bz cx cy cz ox oy oz dx dy dz ∧
     volN (bx - ax) (b_y - ay) (bz - az) (ox - ax) (oy - ay) (oz - az) dx dy dz = tZ ax ay az bx b_y bz cx cy cz ox oy oz dx dy dz ∧
     volN (bx - ax) (b_y - ay) (bz - az) (cx - ax) (cy - ay) (cz - az) (ox - ax) (oy - ay) (oz - az) = -tN ax ay az bx b_y bz cx cy cz ox oy oz) ∧
    (volN dx dy dz (bx - ox) (b_y - oy) (bz - oz) (cx - ox) (cy - oy) (cz - oz) = tX ax ay az bx b_y bz cx cy cz ox oy oz dx dy dz ∧
     volN dx dy dz (cx - ox) (cy - oy) (cz - oz) (ax - ox) (ay - oy) (az - oz) = tY ax ay az bx b_y bz cx cy cz ox oy oz dx dy dz ∧
     volN dx dy dz (ax - ox) (ay - oy) (az - oz) (bx - ox) (b_y - oy) (bz - oz) = tZ ax ay az bx b_y bz cx cy cz ox oy oz dx dy dz ∧
     volN (ax - ox) (ay - oy) (az - oz) (bx - ox) (b_y - oy) (bz - oz) (cx - ox) (cy - oy) (cz - oz) = tN ax ay az bx b_y bz cx cy cz ox oy oz) ∧
    (-6917529027641081856 ≤ tX ax ay az bx b_y bz cx cy cz ox oy oz dx dy dz ∧ tX ax ay az bx b_y bz cx cy cz ox oy oz dx dy dz ≤ 6917529027641081856) ∧
    (-6917529027641081856 ≤ tY ax ay az bx b_y bz cx cy cz ox oy oz dx dy dz ∧ tY ax ay az bx b_y bz cx cy cz ox oy oz dx dy dz ≤ 6917529027641081856) ∧
    (-6917529027641081856 ≤ tZ ax ay az bx b_y bz cx cy cz ox oy oz dx dy dz ∧ tZ ax ay az bx b_y bz cx cy cz ox oy oz dx dy dz ≤ 6917529027641081856) ∧
    (-6917529027641081856 ≤ tN ax ay az bx b_y bz cx cy cz ox oy oz ∧ tN ax ay az bx b_y bz cx cy cz ox oy oz ≤ 6917529027641081856) ∧
    (-6917529027641081856 ≤ tX ax ay az bx b_y bz cx cy cz ox oy oz dx dy dz + tY ax ay az bx b_y bz cx cy cz ox oy oz dx dy dz + tZ ax ay az bx b_y bz cx cy cz ox oy oz dx dy dz ∧
      tX ax ay az bx b_y bz cx cy cz ox oy oz dx dy dz + tY ax ay az bx b_y bz cx cy cz ox oy oz dx dy dz + tZ ax ay az bx b_y bz cx cy cz ox oy oz dx dy dz ≤ 6917529027641081856) := by
  obtain ⟨⟨ha, hb, hc⟩, ho, hd⟩ := tMay_r h
  have ne := (way3 ha hb).2; have nf := (way3 ha hc).2; have ns := (way3 ha ho).2
  have np := (way3 ho ha).2; have nq := (way3 ho hb).2; have nr := (way3 ho hc).2
  obtain ⟨a1, a2⟩ := vol_N ne nf hd
  obtain ⟨b1, b2⟩ := vol_N ns nf hd
  obtain ⟨c1, c2⟩ := vol_N ne ns hd
  obtain ⟨d1, d2⟩ := vol_N ne nf ns
  obtain ⟨e1, e2⟩ := vol_N hd nq nr
  obtain ⟨f1, f2⟩ := vol_N hd nr np
  obtain ⟨g1, g2⟩ := vol_N hd np nq
  obtain ⟨h1, h2⟩ := vol_N np nq nr
  rw [@vol_all ax ay az bx b_y bz cx cy cz ox oy oz dx dy dz] at a1 a2
  rw [@vol_u ax ay az bx b_y bz cx cy cz ox oy oz dx dy dz] at b1
  rw [@vol_v ax ay az bx b_y bz cx cy cz ox oy oz dx dy dz] at c1
  rw [vol_n] at d1
  exact ⟨⟨a1, b1, c1, d1⟩, ⟨e1, f1, g1, h1⟩, e2, f2, g2, h2, a2⟩

end

theorem mm2_lt (x y k : Int) : (mm false x y < k) ↔ (x < k ∨ y < k) := by simp only [min_r]; omega
theorem mm2_gt (x y k : Int) : (mm true x y > k) ↔ (x > k ∨ y > k) := by simp only [max_r]; omega

theorem share_r {a b c u v : Int} (ha : -524288 ≤ a ∧ a ≤ 524288) (hb : -524288 ≤ b ∧ b ≤ 524288) (hc : -524288 ≤ c ∧ c ≤ 524288) (hu : 0 ≤ u ∧ u ≤ 65536) (hv : 0 ≤ v ∧ v ≤ 65536) :
    (-68719476736 ≤ (b - a) * u ∧ (b - a) * u ≤ 68719476736) ∧ (-68719476736 ≤ (c - a) * v ∧ (c - a) * v ≤ 68719476736) := by
  have h1 := mul_abs (x := b - a) (y := u) (m := 1048576) (k := 65536) (by omega) (by omega)
  have h2 := mul_abs (x := c - a) (y := v) (m := 1048576) (k := 65536) (by omega) (by omega)
  omega

theorem share_prog {a b c u v : Int} (ha : -524288 ≤ a ∧ a ≤ 524288) (hb : -524288 ≤ b ∧ b ≤ 524288) (hc : -524288 ≤ c ∧ c ≤ 524288) (hu : 0 ≤ u ∧ u ≤ 65536) (hv : 0 ≤ v ∧ v ≤ 65536) :
    sat (a + (IntKind.i64.wrap (IntKind.i64.wrap (sat (b + sat (a * -1)) * u) + IntKind.i64.wrap (sat (c + sat (a * -1)) * v))).fdiv 65536) = a + ((b - a) * u + (c - a) * v) / 65536 := by
  obtain ⟨h1, h2⟩ := share_r ha hb hc hu hv
  rw [way1 (by omega) (by omega), way1 (by omega) (by omega), wrap_i64_id (n := (b - a) * u) (by omega), wrap_i64_id (n := (c - a) * v) (by omega), wrap_i64_id (n := (b - a) * u + (c - a) * v) (by omega), Int.fdiv_eq_ediv_of_nonneg _ (by decide)]
  unfold sat; omega

theorem share_ref {a b c u v : Int} (ha : -524288 ≤ a ∧ a ≤ 524288) (hb : -524288 ≤ b ∧ b ≤ 524288) (hc : -524288 ≤ c ∧ c ≤ 524288) (hu : 0 ≤ u ∧ u ≤ 65536) (hv : 0 ≤ v ∧ v ≤ 65536) :
    IntKind.i64.wrap (a + if (1 : Int) ≤ 65536 then IntKind.i64.wrap (IntKind.i64.wrap (IntKind.i64.wrap (b - a) * u) + IntKind.i64.wrap (IntKind.i64.wrap (c - a) * v)) / 65536 else 0) = a + ((b - a) * u + (c - a) * v) / 65536 := by
  obtain ⟨h1, h2⟩ := share_r ha hb hc hu hv
  rw [if_pos (by decide), wrap_i64_id (n := b - a) (by omega), wrap_i64_id (n := c - a) (by omega), wrap_i64_id (n := (b - a) * u) (by omega), wrap_i64_id (n := (c - a) * v) (by omega), wrap_i64_id (n := (b - a) * u + (c - a) * v) (by omega), wrap_i64_id (by omega)]

end Go.Sky
