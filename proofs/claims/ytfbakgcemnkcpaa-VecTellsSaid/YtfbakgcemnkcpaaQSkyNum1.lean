/- Trees of functions, and what they come to. -/
import Derived.Test.YtfbakgcemnkcpaaQSkyO
import Derived.Test.YtfbakgcemnkcpaaQSkyX
set_option linter.unusedSimpArgs false
set_option linter.unusedVariables false
namespace Go.Sky
set_option maxRecDepth 100000

/-! num.size -/
def tr_num_size (n : Int) : Tr AV := Tr.node (decide (n < 0)) (Tr.leaf (AV.int IntKind.u64 false (IntKind.u64.wrap (0 - IntKind.u64.wrap n)))) (Tr.leaf (AV.int IntKind.u64 false (IntKind.u64.wrap n)))
theorem run_num_size (n : Int) (h_n : InR .i64 n) : (tr_num_size n).run = some (u6 (sz n)) := by
  unfold tr_num_size
  have h := inR_i64.1 h_n
  simp only [Tr.run, sz, u6, wrap_u64, decide_eq_true_eq]
  split
  · congr 2; omega
  · congr 2; omega

/-! num.Times -/
def tr_num_Times (a : Int) (b : Int) : Tr AV := Tr.node (sz a * sz b / (18446744073709551616 : Int) == 0) (Tr.node (decide (sz a * sz b % (18446744073709551616 : Int) ≤ 9223372036854775807)) (Tr.node (decide (bits BinOp.xor IntKind.i64 a b < 0)) (Tr.leaf (AV.int IntKind.i64 false (IntKind.i64.wrap (0 - IntKind.i64.wrap (sz a * sz b % 18446744073709551616))))) (Tr.node (sz a * sz b / (18446744073709551616 : Int) == 0) (Tr.node (decide (sz a * sz b % (18446744073709551616 : Int) ≤ 9223372036854775807)) (Tr.leaf (AV.int IntKind.i64 false (IntKind.i64.wrap (sz a * sz b % 18446744073709551616)))) (Tr.node (decide (bits BinOp.xor IntKind.i64 a b < 0)) (Tr.leaf (AV.int IntKind.i64 false (-9223372036854775808))) (Tr.leaf (AV.int IntKind.i64 false 9223372036854775807)))) (Tr.node (decide (bits BinOp.xor IntKind.i64 a b < 0)) (Tr.leaf (AV.int IntKind.i64 false (-9223372036854775808))) (Tr.leaf (AV.int IntKind.i64 false 9223372036854775807))))) (Tr.node (sz a * sz b / (18446744073709551616 : Int) == 0) (Tr.node (decide (sz a * sz b % (18446744073709551616 : Int) ≤ 9223372036854775807)) (Tr.leaf (AV.int IntKind.i64 false (IntKind.i64.wrap (sz a * sz b % 18446744073709551616)))) (Tr.node (decide (bits BinOp.xor IntKind.i64 a b < 0)) (Tr.leaf (AV.int IntKind.i64 false (-9223372036854775808))) (Tr.leaf (AV.int IntKind.i64 false 9223372036854775807)))) (Tr.node (decide (bits BinOp.xor IntKind.i64 a b < 0)) (Tr.leaf (AV.int IntKind.i64 false (-9223372036854775808))) (Tr.leaf (AV.int IntKind.i64 false 9223372036854775807))))) (Tr.node (sz a * sz b / (18446744073709551616 : Int) == 0) (Tr.node (decide (sz a * sz b % (18446744073709551616 : Int) ≤ 9223372036854775807)) (Tr.leaf (AV.int IntKind.i64 false (IntKind.i64.wrap (sz a * sz b % 18446744073709551616)))) (Tr.node (decide (bits BinOp.xor IntKind.i64 a b < 0)) (Tr.leaf (AV.int IntKind.i64 false (-9223372036854775808))) (Tr.leaf (AV.int IntKind.i64 false 9223372036854775807)))) (Tr.node (decide (bits BinOp.xor IntKind.i64 a b < 0)) (Tr.leaf (AV.int IntKind.i64 false (-9223372036854775808))) (Tr.leaf (AV.int IntKind.i64 false 9223372036854775807))))
theorem run_num_Times (a : Int) (b : Int) (h_a : InR .i64 a) (h_b : InR .i64 b) : (tr_num_Times a b).run = some (i6 (sat (a * b))) := by
  unfold tr_num_Times
  obtain ⟨h1, h2⟩ := times_law (sz a * sz b) rfl (Go.bits BinOp.xor IntKind.i64 a b < 0) (xor_neg h_a h_b)
  generalize sz a * sz b = P at h1 h2 ⊢
  generalize a * b = p at h1 h2 ⊢
  by_cases hs : Go.bits BinOp.xor IntKind.i64 a b < 0
  · obtain ⟨h3, h4⟩ := h1 hs
    simp only [Tr.run, i6, decide_eq_true_eq, beq_iff_eq, hs, if_true, wrap_i64, sat]
    by_cases g1 : P / 18446744073709551616 = 0 <;> by_cases g2 : P % 18446744073709551616 ≤ 9223372036854775807 <;> simp only [g1, g2, if_true, if_false] <;> congr 2 <;> omega
  · obtain ⟨h3, h4⟩ := h2 hs
    simp only [Tr.run, i6, decide_eq_true_eq, beq_iff_eq, hs, if_false, wrap_i64, sat]
    by_cases g1 : P / 18446744073709551616 = 0 <;> by_cases g2 : P % 18446744073709551616 ≤ 9223372036854775807 <;> simp only [g1, g2, if_true, if_false] <;> congr 2 <;> omega

/-! num.Plus -/
def tr_num_Plus (a : Int) (b : Int) : Tr AV := Tr.node (decide (bits BinOp.and IntKind.i64 (bits BinOp.xor IntKind.i64 a (IntKind.i64.wrap (a + b))) (bits BinOp.xor IntKind.i64 b (IntKind.i64.wrap (a + b))) ≥ 0)) (Tr.leaf (AV.int IntKind.i64 false (IntKind.i64.wrap (a + b)))) (Tr.node (decide (a < 0)) (Tr.leaf (AV.int IntKind.i64 false (-9223372036854775808))) (Tr.leaf (AV.int IntKind.i64 false 9223372036854775807)))
theorem run_num_Plus (a : Int) (b : Int) (h_a : InR .i64 a) (h_b : InR .i64 b) : (tr_num_Plus a b).run = some (i6 (sat (a + b))) := by
  unfold tr_num_Plus
  have ha := inR_i64.1 h_a
  have hb := inR_i64.1 h_b
  have hw : InR .i64 (IntKind.i64.wrap (a + b)) := by rw [inR_i64, wrap_i64]; omega
  have h1 := xor_neg h_a hw
  have h2 := xor_neg h_b hw
  have h3 := and_neg (xor_r a (IntKind.i64.wrap (a + b))) (xor_r b (IntKind.i64.wrap (a + b)))
  rw [h1, h2] at h3
  clear h1 h2 hw
  generalize Go.bits BinOp.and IntKind.i64 (Go.bits BinOp.xor IntKind.i64 a (IntKind.i64.wrap (a + b))) (Go.bits BinOp.xor IntKind.i64 b (IntKind.i64.wrap (a + b))) = c at h3 ⊢
  simp only [Tr.run, i6, decide_eq_true_eq, wrap_i64, sat] at h3 ⊢
  split
  · congr 2; omega
  · split
    · congr 2; omega
    · congr 2; omega

end Go.Sky
