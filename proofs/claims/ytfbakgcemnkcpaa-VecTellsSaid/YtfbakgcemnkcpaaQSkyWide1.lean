/- Trees of functions, and what they come to. -/
import Derived.Test.YtfbakgcemnkcpaaQSkyO
import Derived.Test.YtfbakgcemnkcpaaQSkyWide
set_option linter.unusedSimpArgs false
set_option linter.unusedVariables false
namespace Go.Sky
set_option maxRecDepth 100000

/-! wide.Mul -/
def tr_wide_Mul (a : Int) (b : Int) : Tr AV := Tr.node (decide (a < 0)) (Tr.node (decide (b < 0)) (Tr.leaf (AV.agg [AV.int IntKind.i64 false (IntKind.i64.wrap (IntKind.u64.wrap (IntKind.u64.wrap (IntKind.u64.wrap a * IntKind.u64.wrap b / 18446744073709551616 - IntKind.u64.wrap b) - IntKind.u64.wrap a))), AV.int IntKind.u64 false (IntKind.u64.wrap a * IntKind.u64.wrap b % 18446744073709551616)])) (Tr.leaf (AV.agg [AV.int IntKind.i64 false (IntKind.i64.wrap (IntKind.u64.wrap (IntKind.u64.wrap a * IntKind.u64.wrap b / 18446744073709551616 - IntKind.u64.wrap b))), AV.int IntKind.u64 false (IntKind.u64.wrap a * IntKind.u64.wrap b % 18446744073709551616)]))) (Tr.node (decide (b < 0)) (Tr.leaf (AV.agg [AV.int IntKind.i64 false (IntKind.i64.wrap (IntKind.u64.wrap (IntKind.u64.wrap a * IntKind.u64.wrap b / 18446744073709551616 - IntKind.u64.wrap a))), AV.int IntKind.u64 false (IntKind.u64.wrap a * IntKind.u64.wrap b % 18446744073709551616)])) (Tr.leaf (AV.agg [AV.int IntKind.i64 false (IntKind.i64.wrap (IntKind.u64.wrap a * IntKind.u64.wrap b / 18446744073709551616)), AV.int IntKind.u64 false (IntKind.u64.wrap a * IntKind.u64.wrap b % 18446744073709551616)])))
theorem run_wide_Mul (a : Int) (b : Int) (h_a : InR .i64 a) (h_b : InR .i64 b) : (tr_wide_Mul a b).run = some (w2 (a * b / 18446744073709551616) (a * b % 18446744073709551616)) := by
  unfold tr_wide_Mul
  have ha := inR_i64.1 h_a
  have hb := inR_i64.1 h_b
  have hP := mul_r ha hb
  have ea : IntKind.u64.wrap a = if a < 0 then a + 18446744073709551616 else a := by rw [wrap_u64]; split <;> omega
  have eb : IntKind.u64.wrap b = if b < 0 then b + 18446744073709551616 else b := by rw [wrap_u64]; split <;> omega
  simp only [Tr.run, w2, i6, u6, decide_eq_true_eq, ea, eb]
  by_cases c1 : a < 0 <;> by_cases c2 : b < 0 <;> simp only [c1, c2, if_true, if_false, Int.add_mul, Int.mul_add] <;>
    (generalize a * b = P at *; congr 4 <;> (try congr 1) <;> (try simp only [wrap_u64, wrap_i64]) <;> omega)

/-! wide.Over -/
def tr_wide_Over (a_hi : Int) (a_lo : Int) (d : Int) : Tr AV := Tr.node (decide (d < 1)) (Tr.leaf (AV.tuple [AV.int IntKind.i64 false 0, AV.bool false false])) (Tr.node (decide (a_hi < 0)) (Tr.node (decide (bits BinOp.xor IntKind.u64 18446744073709551615 (IntKind.u64.wrap a_hi) ≥ IntKind.u64.wrap d)) (Tr.leaf (AV.tuple [AV.int IntKind.i64 false 0, AV.bool false false])) (Tr.node (decide (bits BinOp.xor IntKind.u64 18446744073709551615 (IntKind.u64.wrap a_hi) < IntKind.u64.wrap d)) (Tr.node (decide ((bits BinOp.xor IntKind.u64 18446744073709551615 (IntKind.u64.wrap a_hi) * 18446744073709551616 + bits BinOp.xor IntKind.u64 18446744073709551615 a_lo) / IntKind.u64.wrap d > 9223372036854775807)) (Tr.leaf (AV.tuple [AV.int IntKind.i64 false 0, AV.bool false false])) (Tr.node (decide (a_hi < 0)) (Tr.leaf (AV.tuple [AV.int IntKind.i64 false (bits BinOp.xor IntKind.i64 (-1) (IntKind.i64.wrap ((bits BinOp.xor IntKind.u64 18446744073709551615 (IntKind.u64.wrap a_hi) * 18446744073709551616 + bits BinOp.xor IntKind.u64 18446744073709551615 a_lo) / IntKind.u64.wrap d))), AV.bool false true])) (Tr.leaf (AV.tuple [AV.int IntKind.i64 false (IntKind.i64.wrap ((bits BinOp.xor IntKind.u64 18446744073709551615 (IntKind.u64.wrap a_hi) * 18446744073709551616 + bits BinOp.xor IntKind.u64 18446744073709551615 a_lo) / IntKind.u64.wrap d)), AV.bool false true])))) Tr.bad)) (Tr.node (decide (IntKind.u64.wrap a_hi ≥ IntKind.u64.wrap d)) (Tr.leaf (AV.tuple [AV.int IntKind.i64 false 0, AV.bool false false])) (Tr.node (decide (IntKind.u64.wrap a_hi < IntKind.u64.wrap d)) (Tr.node (decide ((IntKind.u64.wrap a_hi * 18446744073709551616 + a_lo) / IntKind.u64.wrap d > 9223372036854775807)) (Tr.leaf (AV.tuple [AV.int IntKind.i64 false 0, AV.bool false false])) (Tr.node (decide (a_hi < 0)) (Tr.leaf (AV.tuple [AV.int IntKind.i64 false (bits BinOp.xor IntKind.i64 (-1) (IntKind.i64.wrap ((IntKind.u64.wrap a_hi * 18446744073709551616 + a_lo) / IntKind.u64.wrap d))), AV.bool false true])) (Tr.leaf (AV.tuple [AV.int IntKind.i64 false (IntKind.i64.wrap ((IntKind.u64.wrap a_hi * 18446744073709551616 + a_lo) / IntKind.u64.wrap d)), AV.bool false true])))) Tr.bad)))
theorem run_wide_Over (a_hi : Int) (a_lo : Int) (d : Int) (h_a_hi : InR .i64 a_hi) (h_a_lo : InR .u64 a_lo) (h_d : InR .i64 d) : (tr_wide_Over a_hi a_lo d).run = some (.tuple [i6 (ovQ (a_hi * 18446744073709551616 + a_lo) d), bb (ovOk (a_hi * 18446744073709551616 + a_lo) d)]) := by
  unfold tr_wide_Over
  have hh := inR_i64.1 h_a_hi
  have hl := inR_u64.1 h_a_lo
  have hd := inR_i64.1 h_d
  by_cases c0 : d < 1
  · have ok : ovOk (a_hi * 18446744073709551616 + a_lo) d = false := by unfold ovOk; exact decide_eq_false (by omega)
    unfold ovQ
    rw [ok]
    exact run_t (decide_eq_true c0)
  · refine (run_f (decide_eq_false c0)).trans ?_
    have ed : IntKind.u64.wrap d = d := wrap_u64_id (by omega)
    by_cases c1 : a_hi < 0
    · refine (run_t (decide_eq_true c1)).trans ?_
      have eh : IntKind.u64.wrap a_hi = a_hi + 18446744073709551616 := by rw [wrap_u64]; omega
      rw [ed, eh, not_u64 (x := a_hi + 18446744073709551616) (by omega), not_u64 (x := a_lo) (by omega)]
      have en : (18446744073709551615 - (a_hi + 18446744073709551616)) * 18446744073709551616 + (18446744073709551615 - a_lo) = -(a_hi * 18446744073709551616 + a_lo) - 1 := by omega
      rw [en]
      have hV : a_hi * 18446744073709551616 + a_lo < 0 := by omega
      have hV2 : 18446744073709551615 - (a_hi + 18446744073709551616) ≥ d → a_hi * 18446744073709551616 + a_lo < -9223372036854775808 * d := by omega
      generalize a_hi * 18446744073709551616 + a_lo = V at *
      have eq := ediv_not V (show 0 < d by omega)
      have q1 : V / d < 0 := Int.ediv_neg_of_neg_of_pos hV (by omega)
      rw [eq]
      by_cases c2 : 18446744073709551615 - (a_hi + 18446744073709551616) ≥ d
      · have q2 := Int.ediv_lt_of_lt_mul (show 0 < d by omega) (hV2 c2)
        have ok : ovOk V d = false := by unfold ovOk; exact decide_eq_false (by omega)
        unfold ovQ
        rw [ok]
        exact run_t (decide_eq_true c2)
      · refine (run_f (decide_eq_false c2)).trans ((run_t (decide_eq_true (by omega))).trans ?_)
        by_cases c3 : -(V / d) - 1 > 9223372036854775807
        · have ok : ovOk V d = false := by unfold ovOk; exact decide_eq_false (by omega)
          unfold ovQ
          rw [ok]
          exact run_t (decide_eq_true c3)
        · have ok : ovOk V d = true := by unfold ovOk; exact decide_eq_true (by omega)
          unfold ovQ
          rw [ok, if_pos rfl, wrap_i64_id (n := -(V / d) - 1) (by omega), not_i64 (by omega), show -1 - (-(V / d) - 1) = V / d by omega]
          exact (run_f (decide_eq_false c3)).trans (run_t (decide_eq_true c1))
    · refine (run_f (decide_eq_false c1)).trans ?_
      have eh : IntKind.u64.wrap a_hi = a_hi := wrap_u64_id (by omega)
      rw [ed, eh]
      have hV : 0 ≤ a_hi * 18446744073709551616 + a_lo := by omega
      have hV2 : a_hi ≥ d → 18446744073709551616 * d ≤ a_hi * 18446744073709551616 + a_lo := by omega
      generalize a_hi * 18446744073709551616 + a_lo = V at *
      have q1 : 0 ≤ V / d := Int.ediv_nonneg hV (by omega)
      by_cases c2 : a_hi ≥ d
      · have q2 := Int.le_ediv_of_mul_le (show 0 < d by omega) (hV2 c2)
        have ok : ovOk V d = false := by unfold ovOk; exact decide_eq_false (by omega)
        unfold ovQ
        rw [ok]
        exact run_t (decide_eq_true c2)
      · refine (run_f (decide_eq_false c2)).trans ((run_t (decide_eq_true (by omega))).trans ?_)
        by_cases c3 : V / d > 9223372036854775807
        · have ok : ovOk V d = false := by unfold ovOk; exact decide_eq_false (by omega)
          unfold ovQ
          rw [ok]
          exact run_t (decide_eq_true c3)
        · have ok : ovOk V d = true := by unfold ovOk; exact decide_eq_true (by omega)
          unfold ovQ
          rw [ok, if_pos rfl, wrap_i64_id (n := V / d) (by omega)]
          exact (run_f (decide_eq_false c3)).trans (run_f (decide_eq_false c1))

/-! frac.Right -/
def tr_frac_Right (f_n : Int) (f_d : Int) : Tr AV := Tr.leaf (AV.bool false (decide (f_d > 0)))
theorem run_frac_Right (f_n : Int) (f_d : Int) (h_f_n : InR .i64 f_n) (h_f_d : InR .i64 f_d) : (tr_frac_Right f_n f_d).run = some (bb (decide (0 < f_d))) := by
  unfold tr_frac_Right
  rfl

/-! frac.At -/
def tr_frac_At (v : Int) (f_n : Int) (f_d : Int) : Tr AV := Tr.node (!decide (0 < f_d)) (Tr.leaf (AV.int IntKind.i64 false 0)) (Tr.node (ovOk (v * f_n / 18446744073709551616 * 18446744073709551616 + v * f_n % 18446744073709551616) f_d) (Tr.leaf (AV.int IntKind.i64 false (ovQ (v * f_n / 18446744073709551616 * 18446744073709551616 + v * f_n % 18446744073709551616) f_d))) (Tr.node (decide (v * f_n / (18446744073709551616 : Int) < 0)) (Tr.leaf (AV.int IntKind.i64 false (-9223372036854775808))) (Tr.leaf (AV.int IntKind.i64 false 9223372036854775807))))
theorem run_frac_At (v : Int) (f_n : Int) (f_d : Int) (h_v : InR .i64 v) (h_f_n : InR .i64 f_n) (h_f_d : InR .i64 f_d) : (tr_frac_At v f_n f_d).run = some (i6 (atF v f_n f_d)) := by
  unfold tr_frac_At
  have hv := inR_i64.1 h_v
  have hn := inR_i64.1 h_f_n
  have hP := mul_r hv hn
  rw [show v * f_n / 18446744073709551616 * 18446744073709551616 + v * f_n % 18446744073709551616 = v * f_n by omega]
  unfold atF
  generalize v * f_n = P at *
  by_cases c0 : 0 < f_d
  · refine (run_f (by simpa using c0)).trans ?_
    rw [if_pos (by omega)]
    have q1 : P < 0 → P / f_d < 0 := fun h => Int.ediv_neg_of_neg_of_pos h c0
    have q2 : 0 ≤ P → 0 ≤ P / f_d := fun h => Int.ediv_nonneg h (by omega)
    unfold ovQ
    cases c1 : ovOk P f_d
    · refine (run_f rfl).trans ?_
      have c1 := of_decide_eq_false c1
      by_cases c2 : P < 0
      · refine (run_t (decide_eq_true (by omega))).trans ?_
        have := q1 c2
        rw [show sat (P / f_d) = -9223372036854775808 by unfold sat; omega]; rfl
      · refine (run_f (decide_eq_false (by omega))).trans ?_
        have := q2 (by omega)
        rw [show sat (P / f_d) = 9223372036854775807 by unfold sat; omega]; rfl
    · refine (run_t rfl).trans ?_
      have c1 := of_decide_eq_true c1
      rw [if_pos rfl, sat_id (by omega)]; rfl
  · refine (run_t (by simpa using c0)).trans ?_
    rw [if_neg (by omega)]; rfl

end Go.Sky
