/- Trees of functions, and what they come to. -/
import Derived.Laws.Externs
import Derived.Test.YtfbakgcemnkcpaaQ17ad8e43
set_option linter.unusedSimpArgs false
set_option linter.unusedVariables false
namespace Go.Sky
set_option maxRecDepth 100000

/-! num.Div -/
def tr_num_Div (a : Int) (b : Int) : Tr AV := Tr.node (decide (b < 1)) (Tr.leaf (AV.int IntKind.i64 false 0)) (Tr.node (decide (a ≥ 0)) (Tr.node (decide (b = 0)) Tr.bad (Tr.leaf (AV.int IntKind.i64 false (IntKind.i64.wrap (a.tdiv b))))) (Tr.node (decide (b = 0)) Tr.bad (Tr.leaf (AV.int IntKind.i64 false (bits BinOp.xor IntKind.i64 (-1) (IntKind.i64.wrap ((bits BinOp.xor IntKind.i64 (-1) a).tdiv b)))))))
theorem run_num_Div (a : Int) (b : Int) (h_a : InR .i64 a) (h_b : InR .i64 b) : (tr_num_Div a b).run = some (i6 (dv a b)) := by
  unfold tr_num_Div
  have ha := inR_i64.1 h_a
  have hb := inR_i64.1 h_b
  
  unfold dv
  by_cases c0 : b < 1
  · rw [if_neg (by omega)]; exact run_t (decide_eq_true c0)
  refine (run_f (decide_eq_false c0)).trans ?_
  rw [if_pos (by omega)]
  by_cases c1 : a ≥ 0
  · refine (run_t (decide_eq_true c1)).trans ((run_f (decide_eq_false (by omega))).trans ?_)
    have d0 : 0 ≤ a / b := Int.ediv_nonneg c1 (by omega)
    have d1 : a / b ≤ a := Int.ediv_le_self _ (by omega)
    rw [Int.tdiv_eq_ediv_of_nonneg c1, wrap_i64_id (by omega)]; rfl
  · refine (run_f (decide_eq_false c1)).trans ((run_f (decide_eq_false (by omega))).trans ?_)
    have e := ediv_not a (d := b) (by omega)
    have d0 : 0 ≤ (-a - 1) / b := Int.ediv_nonneg (by omega) (by omega)
    have d1 : (-a - 1) / b ≤ -a - 1 := Int.ediv_le_self _ (by omega)
    rw [not_i64 (x := a) (by omega), show -1 - a = -a - 1 by omega, Int.tdiv_eq_ediv_of_nonneg (by omega), wrap_i64_id (by omega), not_i64 (by omega), e, show -1 - (-(a / b) - 1) = a / b by omega]; rfl

/-! num.Hold -/
def tr_num_Hold (n : Int) (low : Int) (high : Int) : Tr AV := Tr.node (decide (n < low)) (Tr.leaf (AV.int IntKind.i64 false low)) (Tr.node (decide (n > high)) (Tr.leaf (AV.int IntKind.i64 false high)) (Tr.leaf (AV.int IntKind.i64 false n)))
theorem run_num_Hold (n : Int) (low : Int) (high : Int) (h_n : InR .i64 n) (h_low : InR .i64 low) (h_high : InR .i64 high) : (tr_num_Hold n low high).run = some (i6 (hold n low high)) := by
  unfold tr_num_Hold
  simp only [Tr.run, decide_eq_true_eq, hold, i6]
  (repeat' split) <;> rfl

/-! skylightref01.Hold -/
def tr_skylightref01_Hold (n : Int) (low : Int) (high : Int) : Tr AV := Tr.node (decide (n < low)) (Tr.leaf (AV.int IntKind.i64 false low)) (Tr.node (decide (n > high)) (Tr.leaf (AV.int IntKind.i64 false high)) (Tr.leaf (AV.int IntKind.i64 false n)))
theorem run_skylightref01_Hold (n : Int) (low : Int) (high : Int) (h_n : InR .i64 n) (h_low : InR .i64 low) (h_high : InR .i64 high) : (tr_skylightref01_Hold n low high).run = some (i6 (hold n low high)) := by
  unfold tr_skylightref01_Hold
  simp only [Tr.run, decide_eq_true_eq, hold, i6]
  (repeat' split) <;> rfl

/-! basis.Facing -/
def tr_basis_Facing (n_x : Int) (n_y : Int) (n_z : Int) (d_x : Int) (d_y : Int) (d_z : Int) : Tr AV := Tr.node (!nearB d_x d_y d_z) (Tr.leaf (AV.agg [AV.int IntKind.i64 false 0, AV.int IntKind.i64 false 0, AV.int IntKind.i64 false 0])) (Tr.node (!nearB n_x n_y n_z) (Tr.leaf (AV.agg [AV.int IntKind.i64 false 0, AV.int IntKind.i64 false 0, AV.int IntKind.i64 false 0])) (Tr.node (decide (dotN n_x n_y n_z d_x d_y d_z > 0)) (Tr.leaf (AV.agg [AV.int IntKind.i64 false (IntKind.i64.wrap (n_x * -1)), AV.int IntKind.i64 false (IntKind.i64.wrap (n_y * -1)), AV.int IntKind.i64 false (IntKind.i64.wrap (n_z * -1))])) (Tr.leaf (AV.agg [AV.int IntKind.i64 false n_x, AV.int IntKind.i64 false n_y, AV.int IntKind.i64 false n_z]))))
theorem run_basis_Facing (n_x : Int) (n_y : Int) (n_z : Int) (d_x : Int) (d_y : Int) (d_z : Int) (h_n_x : InR .i64 n_x) (h_n_y : InR .i64 n_y) (h_n_z : InR .i64 n_z) (h_d_x : InR .i64 d_x) (h_d_y : InR .i64 d_y) (h_d_z : InR .i64 d_z) : (tr_basis_Facing n_x n_y n_z d_x d_y d_z).run = some (v3 (facC n_x n_x n_y n_z d_x d_y d_z) (facC n_y n_x n_y n_z d_x d_y d_z) (facC n_z n_x n_y n_z d_x d_y d_z)) := by
  unfold tr_basis_Facing
  have hn_x := inR_i64.1 h_n_x
  have hn_y := inR_i64.1 h_n_y
  have hn_z := inR_i64.1 h_n_z
  
  simp only [Tr.run, v3, i6, Bool.not_eq_true', decide_eq_true_eq]
  cases hd : nearB d_x d_y d_z
  · simp [facC, hd]
  cases hn : nearB n_x n_y n_z
  · simp [facC, hd, hn]
  have r := near_r hn
  simp only [facC_eq hn hd, Bool.true_eq_false, if_false]
  rw [show dotN n_x n_y n_z d_x d_y d_z = dotI n_x n_y n_z d_x d_y d_z by unfold dotN; rw [if_pos ⟨hn, hd⟩]]
  by_cases c : dotI n_x n_y n_z d_x d_y d_z > 0
  · simp only [if_pos c]
    rw [wrap_i64_id (n := n_x * -1) (by omega), wrap_i64_id (n := n_y * -1) (by omega), wrap_i64_id (n := n_z * -1) (by omega)]
    congr 4 <;> (try congr 1) <;> (try congr 1) <;> omega
  · simp only [if_neg c]

/-! skylightref07.Facing -/
def tr_skylightref07_Facing (n_x : Int) (n_y : Int) (n_z : Int) (d_x : Int) (d_y : Int) (d_z : Int) : Tr AV := Tr.node (!nearB d_x d_y d_z) (Tr.leaf (AV.agg [AV.int IntKind.i64 false 0, AV.int IntKind.i64 false 0, AV.int IntKind.i64 false 0])) (Tr.node (!nearB n_x n_y n_z) (Tr.leaf (AV.agg [AV.int IntKind.i64 false 0, AV.int IntKind.i64 false 0, AV.int IntKind.i64 false 0])) (Tr.node (decide (dotN n_x n_y n_z d_x d_y d_z > 0)) (Tr.leaf (AV.agg [AV.int IntKind.i64 false (IntKind.i64.wrap (0 - n_x)), AV.int IntKind.i64 false (IntKind.i64.wrap (0 - n_y)), AV.int IntKind.i64 false (IntKind.i64.wrap (0 - n_z))])) (Tr.leaf (AV.agg [AV.int IntKind.i64 false n_x, AV.int IntKind.i64 false n_y, AV.int IntKind.i64 false n_z]))))
theorem run_skylightref07_Facing (n_x : Int) (n_y : Int) (n_z : Int) (d_x : Int) (d_y : Int) (d_z : Int) (h_n_x : InR .i64 n_x) (h_n_y : InR .i64 n_y) (h_n_z : InR .i64 n_z) (h_d_x : InR .i64 d_x) (h_d_y : InR .i64 d_y) (h_d_z : InR .i64 d_z) : (tr_skylightref07_Facing n_x n_y n_z d_x d_y d_z).run = some (v3 (facC n_x n_x n_y n_z d_x d_y d_z) (facC n_y n_x n_y n_z d_x d_y d_z) (facC n_z n_x n_y n_z d_x d_y d_z)) := by
  unfold tr_skylightref07_Facing
  have hn_x := inR_i64.1 h_n_x
  have hn_y := inR_i64.1 h_n_y
  have hn_z := inR_i64.1 h_n_z
  
  simp only [Tr.run, v3, i6, Bool.not_eq_true', decide_eq_true_eq]
  cases hd : nearB d_x d_y d_z
  · simp [facC, hd]
  cases hn : nearB n_x n_y n_z
  · simp [facC, hd, hn]
  have r := near_r hn
  simp only [facC_eq hn hd, Bool.true_eq_false, if_false]
  rw [show dotN n_x n_y n_z d_x d_y d_z = dotI n_x n_y n_z d_x d_y d_z by unfold dotN; rw [if_pos ⟨hn, hd⟩]]
  by_cases c : dotI n_x n_y n_z d_x d_y d_z > 0
  · simp only [if_pos c]
    rw [wrap_i64_id (n := 0 - n_x) (by omega), wrap_i64_id (n := 0 - n_y) (by omega), wrap_i64_id (n := 0 - n_z) (by omega)]
    congr 4 <;> (try congr 1) <;> (try congr 1) <;> omega
  · simp only [if_neg c]

/-! bend.Back -/
def tr_bend_Back (c : Int) (n : Int) : Tr AV := Tr.node (decide (0 ≤ c)) (Tr.node (!decide (c ≤ 16384)) (Tr.leaf (AV.int IntKind.i64 false 0)) (Tr.node (decide (n < 16384)) (Tr.leaf (AV.int IntKind.i64 false 0)) (Tr.node (decide (n > 65536)) (Tr.leaf (AV.int IntKind.i64 false 0)) (Tr.node (decide (IntKind.i64.wrap (IntKind.i64.wrap (n + 16384) * IntKind.i64.wrap (n + 16384)) = 0)) Tr.bad (Tr.leaf (AV.int IntKind.i64 false (IntKind.i64.wrap (IntKind.i64.wrap ((IntKind.i64.wrap (IntKind.i64.wrap (IntKind.i64.wrap (n - 16384) * IntKind.i64.wrap (n - 16384)) * 65536)).tdiv (IntKind.i64.wrap (IntKind.i64.wrap (n + 16384) * IntKind.i64.wrap (n + 16384)))) + dv (IntKind.i64.wrap (IntKind.i64.wrap (65536 - IntKind.i64.wrap ((IntKind.i64.wrap (IntKind.i64.wrap (IntKind.i64.wrap (n - 16384) * IntKind.i64.wrap (n - 16384)) * 65536)).tdiv (IntKind.i64.wrap (IntKind.i64.wrap (n + 16384) * IntKind.i64.wrap (n + 16384))))) * dv (IntKind.i64.wrap (dv (IntKind.i64.wrap (dv (IntKind.i64.wrap (IntKind.i64.wrap (16384 - c) * IntKind.i64.wrap (16384 - c))) 16384 * dv (IntKind.i64.wrap (IntKind.i64.wrap (16384 - c) * IntKind.i64.wrap (16384 - c))) 16384)) 16384 * IntKind.i64.wrap (16384 - c))) 16384)) 16384)))))))) (Tr.leaf (AV.int IntKind.i64 false 0))
theorem run_bend_Back (c : Int) (n : Int) (h_c : InR .i64 c) (h_n : InR .i64 n) : (tr_bend_Back c n).run = some (i6 (backN c n)) := by
  unfold tr_bend_Back
  by_cases h : (0 ≤ c ∧ c ≤ 16384) ∧ (16384 ≤ n ∧ n ≤ 65536)
  · obtain ⟨hc, hn⟩ := h
  
    obtain ⟨a1, a2, a3, a4⟩ := backA_r hn
    obtain ⟨m1, m2, m3, m4, m5⟩ := backM_r hc
    have p := backP_r hc hn
    have eA : IntKind.i64.wrap (IntKind.i64.wrap (IntKind.i64.wrap (n - 16384) * IntKind.i64.wrap (n - 16384)) * 65536) = (n - 16384) * (n - 16384) * 65536 := by
      rw [wrap_i64_id (n := n - 16384) (by omega), wrap_i64_id (n := (n - 16384) * (n - 16384)) (by omega), wrap_i64_id (by omega)]
    have eB : IntKind.i64.wrap (IntKind.i64.wrap (n + 16384) * IntKind.i64.wrap (n + 16384)) = (n + 16384) * (n + 16384) := by
      rw [wrap_i64_id (n := n + 16384) (by omega), wrap_i64_id (by omega)]
    have e0 : IntKind.i64.wrap (16384 - c) = 16384 - c := wrap_i64_id (by omega)
    have e1 : IntKind.i64.wrap ((16384 - c) * (16384 - c)) = (16384 - c) * (16384 - c) := wrap_i64_id (by omega)
    have e2 : IntKind.i64.wrap ((16384 - c) * (16384 - c) / 16384 * ((16384 - c) * (16384 - c) / 16384)) = (16384 - c) * (16384 - c) / 16384 * ((16384 - c) * (16384 - c) / 16384) := wrap_i64_id (by omega)
    have e3 : IntKind.i64.wrap ((16384 - c) * (16384 - c) / 16384 * ((16384 - c) * (16384 - c) / 16384) / 16384 * (16384 - c)) = (16384 - c) * (16384 - c) / 16384 * ((16384 - c) * (16384 - c) / 16384) / 16384 * (16384 - c) := wrap_i64_id (by omega)
  
    simp only [eA, eB, e0, e1, dv_16384, e2, e3]
    refine (run_t (decide_eq_true (by omega))).trans ((run_f (by rw [decide_eq_true (by omega)]; rfl)).trans ((run_f (decide_eq_false (by omega))).trans ((run_f (decide_eq_false (by omega))).trans ((run_f (decide_eq_false (by omega))).trans (?_)))))
    rw [Int.tdiv_eq_ediv_of_nonneg (by omega), show (n - 16384) * (n - 16384) * 65536 / ((n + 16384) * (n + 16384)) = backA n from rfl, wrap_i64_id (n := backA n) (by omega), wrap_i64_id (n := 65536 - backA n) (by omega),
      show (16384 - c) * (16384 - c) / 16384 * ((16384 - c) * (16384 - c) / 16384) / 16384 * (16384 - c) / 16384 = backM c from rfl, wrap_i64_id (n := (65536 - backA n) * backM c) (by omega), wrap_i64_id (by omega), backN_eq hc hn]
    rfl
  · rw [show backN c n = 0 by unfold backN cosB idxB; rw [if_neg]; simp only [decide_eq_true_eq]; exact h]
    repeat (first | (refine run_guard (fun _ => rfl) (fun _ => ?_)) | (refine run_guard (fun _ => ?_) (fun _ => rfl)))
    exfalso
    simp only [decide_eq_true_eq, decide_eq_false_iff_not, Bool.not_eq_true', Bool.not_eq_false', mx_gt, mx_le, mn_lt, mn_ge] at *
    omega

/-! skylightref24.Back -/
def tr_skylightref24_Back (c : Int) (n : Int) : Tr AV := Tr.node (decide (c < 0)) (Tr.leaf (AV.int IntKind.i64 false 0)) (Tr.node (decide (c > 16384)) (Tr.leaf (AV.int IntKind.i64 false 0)) (Tr.node (decide (n ≥ 16384)) (Tr.node (!decide (n ≤ 65536)) (Tr.leaf (AV.int IntKind.i64 false 0)) (Tr.leaf (AV.int IntKind.i64 false (IntKind.i64.wrap ((if 1 ≤ IntKind.i64.wrap (IntKind.i64.wrap (n + 16384) * IntKind.i64.wrap (n + 16384)) then IntKind.i64.wrap (IntKind.i64.wrap (IntKind.i64.wrap (n - 16384) * IntKind.i64.wrap (n - 16384)) * 65536) / IntKind.i64.wrap (IntKind.i64.wrap (n + 16384) * IntKind.i64.wrap (n + 16384)) else 0) + if (1 : Int) ≤ 16384 then IntKind.i64.wrap (IntKind.i64.wrap (65536 - if 1 ≤ IntKind.i64.wrap (IntKind.i64.wrap (n + 16384) * IntKind.i64.wrap (n + 16384)) then IntKind.i64.wrap (IntKind.i64.wrap (IntKind.i64.wrap (n - 16384) * IntKind.i64.wrap (n - 16384)) * 65536) / IntKind.i64.wrap (IntKind.i64.wrap (n + 16384) * IntKind.i64.wrap (n + 16384)) else 0) * if (1 : Int) ≤ 16384 then IntKind.i64.wrap ((if (1 : Int) ≤ 16384 then IntKind.i64.wrap ((if (1 : Int) ≤ 16384 then IntKind.i64.wrap (IntKind.i64.wrap (16384 - c) * IntKind.i64.wrap (16384 - c)) / 16384 else 0) * if (1 : Int) ≤ 16384 then IntKind.i64.wrap (IntKind.i64.wrap (16384 - c) * IntKind.i64.wrap (16384 - c)) / 16384 else 0) / 16384 else 0) * IntKind.i64.wrap (16384 - c)) / 16384 else 0) / 16384 else 0))))) (Tr.leaf (AV.int IntKind.i64 false 0))))
theorem run_skylightref24_Back (c : Int) (n : Int) (h_c : InR .i64 c) (h_n : InR .i64 n) : (tr_skylightref24_Back c n).run = some (i6 (backN c n)) := by
  unfold tr_skylightref24_Back
  by_cases h : (0 ≤ c ∧ c ≤ 16384) ∧ (16384 ≤ n ∧ n ≤ 65536)
  · obtain ⟨hc, hn⟩ := h
  
    obtain ⟨a1, a2, a3, a4⟩ := backA_r hn
    obtain ⟨m1, m2, m3, m4, m5⟩ := backM_r hc
    have p := backP_r hc hn
    have eA : IntKind.i64.wrap (IntKind.i64.wrap (IntKind.i64.wrap (n - 16384) * IntKind.i64.wrap (n - 16384)) * 65536) = (n - 16384) * (n - 16384) * 65536 := by
      rw [wrap_i64_id (n := n - 16384) (by omega), wrap_i64_id (n := (n - 16384) * (n - 16384)) (by omega), wrap_i64_id (by omega)]
    have eB : IntKind.i64.wrap (IntKind.i64.wrap (n + 16384) * IntKind.i64.wrap (n + 16384)) = (n + 16384) * (n + 16384) := by
      rw [wrap_i64_id (n := n + 16384) (by omega), wrap_i64_id (by omega)]
    have e0 : IntKind.i64.wrap (16384 - c) = 16384 - c := wrap_i64_id (by omega)
    have e1 : IntKind.i64.wrap ((16384 - c) * (16384 - c)) = (16384 - c) * (16384 - c) := wrap_i64_id (by omega)
    have e2 : IntKind.i64.wrap ((16384 - c) * (16384 - c) / 16384 * ((16384 - c) * (16384 - c) / 16384)) = (16384 - c) * (16384 - c) / 16384 * ((16384 - c) * (16384 - c) / 16384) := wrap_i64_id (by omega)
    have e3 : IntKind.i64.wrap ((16384 - c) * (16384 - c) / 16384 * ((16384 - c) * (16384 - c) / 16384) / 16384 * (16384 - c)) = (16384 - c) * (16384 - c) / 16384 * ((16384 - c) * (16384 - c) / 16384) / 16384 * (16384 - c) := wrap_i64_id (by omega)
  
    have t1 : (1 : Int) ≤ 16384 := by decide
    have t2 : 1 ≤ (n + 16384) * (n + 16384) := by omega
    simp only [eA, eB, if_pos t1, if_pos t2, e0, e1, e2, e3]
    refine (run_f (decide_eq_false (by omega))).trans ((run_f (decide_eq_false (by omega))).trans ((run_t (decide_eq_true (by omega))).trans ((run_f (by rw [decide_eq_true (by omega)]; rfl)).trans (?_))))
    rw [show (n - 16384) * (n - 16384) * 65536 / ((n + 16384) * (n + 16384)) = backA n from rfl, wrap_i64_id (n := 65536 - backA n) (by omega),
      show (16384 - c) * (16384 - c) / 16384 * ((16384 - c) * (16384 - c) / 16384) / 16384 * (16384 - c) / 16384 = backM c from rfl, wrap_i64_id (n := (65536 - backA n) * backM c) (by omega), wrap_i64_id (by omega), backN_eq hc hn]
    rfl
  · rw [show backN c n = 0 by unfold backN cosB idxB; rw [if_neg]; simp only [decide_eq_true_eq]; exact h]
    repeat (first | (refine run_guard (fun _ => rfl) (fun _ => ?_)) | (refine run_guard (fun _ => ?_) (fun _ => rfl)))
    exfalso
    simp only [decide_eq_true_eq, decide_eq_false_iff_not, Bool.not_eq_true', Bool.not_eq_false', mx_gt, mx_le, mn_lt, mn_ge] at *
    omega

/-! bend.Cos -/
def tr_bend_Cos (n_x : Int) (n_y : Int) (n_z : Int) (d_x : Int) (d_y : Int) (d_z : Int) : Tr AV := Tr.node (decide (mm true (mm true n_x n_y) n_z > 16385)) (Tr.leaf (AV.int IntKind.i64 false 0)) (Tr.node (decide (mm false (mm false n_x n_y) n_z < -16385)) (Tr.leaf (AV.int IntKind.i64 false 0)) (Tr.node (decide (mm true (mm true d_x d_y) d_z > 16385)) (Tr.leaf (AV.int IntKind.i64 false 0)) (Tr.node (decide (mm false (mm false d_x d_y) d_z < -16385)) (Tr.leaf (AV.int IntKind.i64 false 0)) (Tr.leaf (AV.int IntKind.i64 false (hold (dv (IntKind.i64.wrap (0 - dotN (facC n_x n_x n_y n_z d_x d_y d_z) (facC n_y n_x n_y n_z d_x d_y d_z) (facC n_z n_x n_y n_z d_x d_y d_z) d_x d_y d_z)) 16384) 0 16384))))))
theorem run_bend_Cos (n_x : Int) (n_y : Int) (n_z : Int) (d_x : Int) (d_y : Int) (d_z : Int) (h_n_x : InR .i64 n_x) (h_n_y : InR .i64 n_y) (h_n_z : InR .i64 n_z) (h_d_x : InR .i64 d_x) (h_d_y : InR .i64 d_y) (h_d_z : InR .i64 d_z) : (tr_bend_Cos n_x n_y n_z d_x d_y d_z).run = some (i6 (cosN n_x n_y n_z d_x d_y d_z)) := by
  unfold tr_bend_Cos
  by_cases h : ((-16385 ≤ n_x ∧ n_x ≤ 16385) ∧ (-16385 ≤ n_y ∧ n_y ≤ 16385) ∧ (-16385 ≤ n_z ∧ n_z ≤ 16385)) ∧ ((-16385 ≤ d_x ∧ d_x ≤ 16385) ∧ (-16385 ≤ d_y ∧ d_y ≤ 16385) ∧ (-16385 ≤ d_z ∧ d_z ≤ 16385))
  · obtain ⟨hn, hd⟩ := h
    have sd : shortB d_x d_y d_z = true := decide_eq_true hd
    have sn : shortB n_x n_y n_z = true := decide_eq_true hn
    rw [cos_all (short_near sn) (short_near sd), cosN_eq sn sd]
    refine (run_f (decide_eq_false (by simp only [mx_gt, mx_le, mn_lt, mn_ge]; omega))).trans ((run_f (decide_eq_false (by simp only [mx_gt, mx_le, mn_lt, mn_ge]; omega))).trans ((run_f (decide_eq_false (by simp only [mx_gt, mx_le, mn_lt, mn_ge]; omega))).trans ((run_f (decide_eq_false (by simp only [mx_gt, mx_le, mn_lt, mn_ge]; omega))).trans (?_))))
    rfl
  · rw [show cosN n_x n_y n_z d_x d_y d_z = 0 by unfold cosN shortB; rw [if_neg]; simp only [decide_eq_true_eq]; exact h]
    repeat (first | (refine run_guard (fun _ => rfl) (fun _ => ?_)) | (refine run_guard (fun _ => ?_) (fun _ => rfl)))
    exfalso
    simp only [decide_eq_true_eq, decide_eq_false_iff_not, Bool.not_eq_true', Bool.not_eq_false', mx_gt, mx_le, mn_lt, mn_ge] at *
    omega

/-! skylightref24.Cos -/
def tr_skylightref24_Cos (n_x : Int) (n_y : Int) (n_z : Int) (d_x : Int) (d_y : Int) (d_z : Int) : Tr AV := Tr.node (decide (mm true (mm true n_x n_y) n_z ≤ 16385)) (Tr.node (!decide (mm false (mm false n_x n_y) n_z ≥ -16385)) (Tr.leaf (AV.int IntKind.i64 false 0)) (Tr.node (decide (mm true (mm true d_x d_y) d_z ≤ 16385)) (Tr.node (!decide (mm false (mm false d_x d_y) d_z ≥ -16385)) (Tr.leaf (AV.int IntKind.i64 false 0)) (Tr.leaf (AV.int IntKind.i64 false (hold (if (1 : Int) ≤ 16384 then IntKind.i64.wrap (0 - dotN (facC n_x n_x n_y n_z d_x d_y d_z) (facC n_y n_x n_y n_z d_x d_y d_z) (facC n_z n_x n_y n_z d_x d_y d_z) d_x d_y d_z) / 16384 else 0) 0 16384)))) (Tr.leaf (AV.int IntKind.i64 false 0)))) (Tr.leaf (AV.int IntKind.i64 false 0))
theorem run_skylightref24_Cos (n_x : Int) (n_y : Int) (n_z : Int) (d_x : Int) (d_y : Int) (d_z : Int) (h_n_x : InR .i64 n_x) (h_n_y : InR .i64 n_y) (h_n_z : InR .i64 n_z) (h_d_x : InR .i64 d_x) (h_d_y : InR .i64 d_y) (h_d_z : InR .i64 d_z) : (tr_skylightref24_Cos n_x n_y n_z d_x d_y d_z).run = some (i6 (cosN n_x n_y n_z d_x d_y d_z)) := by
  unfold tr_skylightref24_Cos
  by_cases h : ((-16385 ≤ n_x ∧ n_x ≤ 16385) ∧ (-16385 ≤ n_y ∧ n_y ≤ 16385) ∧ (-16385 ≤ n_z ∧ n_z ≤ 16385)) ∧ ((-16385 ≤ d_x ∧ d_x ≤ 16385) ∧ (-16385 ≤ d_y ∧ d_y ≤ 16385) ∧ (-16385 ≤ d_z ∧ d_z ≤ 16385))
  · obtain ⟨hn, hd⟩ := h
    have sd : shortB d_x d_y d_z = true := decide_eq_true hd
    have sn : shortB n_x n_y n_z = true := decide_eq_true hn
    have e := cos_all (short_near sn) (short_near sd)
    unfold dv at e
    rw [e, cosN_eq sn sd]
    refine (run_t (decide_eq_true (by simp only [mx_gt, mx_le, mn_lt, mn_ge]; omega))).trans ((run_f (by rw [decide_eq_true (by simp only [mx_gt, mx_le, mn_lt, mn_ge]; omega)]; rfl)).trans ((run_t (decide_eq_true (by simp only [mx_gt, mx_le, mn_lt, mn_ge]; omega))).trans ((run_f (by rw [decide_eq_true (by simp only [mx_gt, mx_le, mn_lt, mn_ge]; omega)]; rfl)).trans (?_))))
    rfl
  · rw [show cosN n_x n_y n_z d_x d_y d_z = 0 by unfold cosN shortB; rw [if_neg]; simp only [decide_eq_true_eq]; exact h]
    repeat (first | (refine run_guard (fun _ => rfl) (fun _ => ?_)) | (refine run_guard (fun _ => ?_) (fun _ => rfl)))
    exfalso
    simp only [decide_eq_true_eq, decide_eq_false_iff_not, Bool.not_eq_true', Bool.not_eq_false', mx_gt, mx_le, mn_lt, mn_ge] at *
    omega

/-! bend.Sine -/
def tr_bend_Sine (c : Int) (a : Int) (b : Int) : Tr AV := Tr.node (decide (0 ≤ c)) (Tr.node (!decide (c ≤ 16384)) (Tr.leaf (AV.int IntKind.i64 false 0)) (Tr.node (decide (a < 16384)) (Tr.leaf (AV.int IntKind.i64 false 0)) (Tr.node (decide (a > 65536)) (Tr.leaf (AV.int IntKind.i64 false 0)) (Tr.node (decide (b < 16384)) (Tr.leaf (AV.int IntKind.i64 false 0)) (Tr.node (decide (b > 65536)) (Tr.leaf (AV.int IntKind.i64 false 0)) (Tr.node (decide (IntKind.i64.wrap (b * b) = 0)) Tr.bad (Tr.leaf (AV.int IntKind.i64 false (IntKind.i64.wrap ((IntKind.i64.wrap (IntKind.i64.wrap (IntKind.i64.wrap (268435456 - IntKind.i64.wrap (c * c)) * a) * a)).tdiv (IntKind.i64.wrap (b * b)))))))))))) (Tr.leaf (AV.int IntKind.i64 false 0))
theorem run_bend_Sine (c : Int) (a : Int) (b : Int) (h_c : InR .i64 c) (h_a : InR .i64 a) (h_b : InR .i64 b) : (tr_bend_Sine c a b).run = some (i6 (sineN c a b)) := by
  unfold tr_bend_Sine
  by_cases h : (0 ≤ c ∧ c ≤ 16384) ∧ (16384 ≤ a ∧ a ≤ 65536) ∧ (16384 ≤ b ∧ b ≤ 65536)
  · obtain ⟨hc, ha, hb⟩ := h
    obtain ⟨s1, s2, s3, s4, s5⟩ := sine_r hc ha hb
    have s6 : (268435456 - c * c) * a * a / (b * b) ≤ (268435456 - c * c) * a * a := Int.ediv_le_self _ (by omega)
    rw [wrap_i64_id (n := b * b) (by omega), wrap_i64_id (n := c * c) (by omega), wrap_i64_id (n := 268435456 - c * c) (by omega), wrap_i64_id (n := (268435456 - c * c) * a) (by omega), wrap_i64_id (n := (268435456 - c * c) * a * a) (by omega),
      Int.tdiv_eq_ediv_of_nonneg (by omega), wrap_i64_id (by omega), sineN_eq hc ha hb]
    refine (run_t (decide_eq_true (by omega))).trans ((run_f (by rw [decide_eq_true (by omega)]; rfl)).trans ((run_f (decide_eq_false (by omega))).trans ((run_f (decide_eq_false (by omega))).trans ((run_f (decide_eq_false (by omega))).trans ((run_f (decide_eq_false (by omega))).trans ((run_f (decide_eq_false (by omega))).trans (?_)))))))
    rfl
  · rw [show sineN c a b = 0 by unfold sineN cosB idxB; rw [if_neg]; simp only [decide_eq_true_eq]; exact h]
    repeat (first | (refine run_guard (fun _ => rfl) (fun _ => ?_)) | (refine run_guard (fun _ => ?_) (fun _ => rfl)))
    exfalso
    simp only [decide_eq_true_eq, decide_eq_false_iff_not, Bool.not_eq_true', Bool.not_eq_false', mx_gt, mx_le, mn_lt, mn_ge] at *
    omega

/-! skylightref24.Sine -/
def tr_skylightref24_Sine (c : Int) (a : Int) (b : Int) : Tr AV := Tr.node (decide (c < 0)) (Tr.leaf (AV.int IntKind.i64 false 0)) (Tr.node (decide (c > 16384)) (Tr.leaf (AV.int IntKind.i64 false 0)) (Tr.node (decide (a ≥ 16384)) (Tr.node (!decide (a ≤ 65536)) (Tr.leaf (AV.int IntKind.i64 false 0)) (Tr.node (decide (b ≥ 16384)) (Tr.node (!decide (b ≤ 65536)) (Tr.leaf (AV.int IntKind.i64 false 0)) (Tr.leaf (AV.int IntKind.i64 false (if 1 ≤ IntKind.i64.wrap (b * b) then IntKind.i64.wrap (IntKind.i64.wrap (IntKind.i64.wrap (268435456 - IntKind.i64.wrap (c * c)) * a) * a) / IntKind.i64.wrap (b * b) else 0)))) (Tr.leaf (AV.int IntKind.i64 false 0)))) (Tr.leaf (AV.int IntKind.i64 false 0))))
theorem run_skylightref24_Sine (c : Int) (a : Int) (b : Int) (h_c : InR .i64 c) (h_a : InR .i64 a) (h_b : InR .i64 b) : (tr_skylightref24_Sine c a b).run = some (i6 (sineN c a b)) := by
  unfold tr_skylightref24_Sine
  by_cases h : (0 ≤ c ∧ c ≤ 16384) ∧ (16384 ≤ a ∧ a ≤ 65536) ∧ (16384 ≤ b ∧ b ≤ 65536)
  · obtain ⟨hc, ha, hb⟩ := h
    obtain ⟨s1, s2, s3, s4, s5⟩ := sine_r hc ha hb
    rw [wrap_i64_id (n := b * b) (by omega), wrap_i64_id (n := c * c) (by omega), wrap_i64_id (n := 268435456 - c * c) (by omega), wrap_i64_id (n := (268435456 - c * c) * a) (by omega), wrap_i64_id (n := (268435456 - c * c) * a * a) (by omega),
      if_pos (by omega), sineN_eq hc ha hb]
    refine (run_f (decide_eq_false (by omega))).trans ((run_f (decide_eq_false (by omega))).trans ((run_t (decide_eq_true (by omega))).trans ((run_f (by rw [decide_eq_true (by omega)]; rfl)).trans ((run_t (decide_eq_true (by omega))).trans ((run_f (by rw [decide_eq_true (by omega)]; rfl)).trans (?_))))))
    rfl
  · rw [show sineN c a b = 0 by unfold sineN cosB idxB; rw [if_neg]; simp only [decide_eq_true_eq]; exact h]
    repeat (first | (refine run_guard (fun _ => rfl) (fun _ => ?_)) | (refine run_guard (fun _ => ?_) (fun _ => rfl)))
    exfalso
    simp only [decide_eq_true_eq, decide_eq_false_iff_not, Bool.not_eq_true', Bool.not_eq_false', mx_gt, mx_le, mn_lt, mn_ge] at *
    omega

/-! bend.Bend -/
def tr_bend_Bend (d_x : Int) (d_y : Int) (d_z : Int) (n_x : Int) (n_y : Int) (n_z : Int) (a : Int) (b : Int) : Tr AV := Tr.node (decide (mm true (mm true d_x d_y) d_z > 16385)) (Tr.leaf (AV.tuple [AV.agg [AV.int IntKind.i64 false 0, AV.int IntKind.i64 false 0, AV.int IntKind.i64 false 0], AV.bool false false])) (Tr.node (decide (mm false (mm false d_x d_y) d_z < -16385)) (Tr.leaf (AV.tuple [AV.agg [AV.int IntKind.i64 false 0, AV.int IntKind.i64 false 0, AV.int IntKind.i64 false 0], AV.bool false false])) (Tr.node (decide (mm true (mm true n_x n_y) n_z > 16385)) (Tr.leaf (AV.tuple [AV.agg [AV.int IntKind.i64 false 0, AV.int IntKind.i64 false 0, AV.int IntKind.i64 false 0], AV.bool false false])) (Tr.node (decide (mm false (mm false n_x n_y) n_z < -16385)) (Tr.leaf (AV.tuple [AV.agg [AV.int IntKind.i64 false 0, AV.int IntKind.i64 false 0, AV.int IntKind.i64 false 0], AV.bool false false])) (Tr.node (decide (a < 16384)) (Tr.leaf (AV.tuple [AV.agg [AV.int IntKind.i64 false 0, AV.int IntKind.i64 false 0, AV.int IntKind.i64 false 0], AV.bool false false])) (Tr.node (decide (a > 65536)) (Tr.leaf (AV.tuple [AV.agg [AV.int IntKind.i64 false 0, AV.int IntKind.i64 false 0, AV.int IntKind.i64 false 0], AV.bool false false])) (Tr.node (decide (b < 16384)) (Tr.leaf (AV.tuple [AV.agg [AV.int IntKind.i64 false 0, AV.int IntKind.i64 false 0, AV.int IntKind.i64 false 0], AV.bool false false])) (Tr.node (decide (b > 65536)) (Tr.leaf (AV.tuple [AV.agg [AV.int IntKind.i64 false 0, AV.int IntKind.i64 false 0, AV.int IntKind.i64 false 0], AV.bool false false])) (Tr.node (decide (sineN (hold (dv (IntKind.i64.wrap (0 - dotN (facC n_x n_x n_y n_z d_x d_y d_z) (facC n_y n_x n_y n_z d_x d_y d_z) (facC n_z n_x n_y n_z d_x d_y d_z) d_x d_y d_z)) 16384) 0 16384) a b > 268435456)) (Tr.leaf (AV.tuple [AV.agg [AV.int IntKind.i64 false 0, AV.int IntKind.i64 false 0, AV.int IntKind.i64 false 0], AV.bool false false])) (Tr.node (decide (b = 0)) Tr.bad (Tr.leaf (AV.tuple [AV.agg [AV.int IntKind.i64 false (unitC (sat (atF d_x a b + atF (facC n_x n_x n_y n_z d_x d_y d_z) (IntKind.i64.wrap (IntKind.i64.wrap ((IntKind.i64.wrap (hold (dv (IntKind.i64.wrap (0 - dotN (facC n_x n_x n_y n_z d_x d_y d_z) (facC n_y n_x n_y n_z d_x d_y d_z) (facC n_z n_x n_y n_z d_x d_y d_z) d_x d_y d_z)) 16384) 0 16384 * a)).tdiv b) - isq (IntKind.u64.wrap (IntKind.i64.wrap (268435456 - sineN (hold (dv (IntKind.i64.wrap (0 - dotN (facC n_x n_x n_y n_z d_x d_y d_z) (facC n_y n_x n_y n_z d_x d_y d_z) (facC n_z n_x n_y n_z d_x d_y d_z) d_x d_y d_z)) 16384) 0 16384) a b))))) 16384)) (sat (atF d_y a b + atF (facC n_y n_x n_y n_z d_x d_y d_z) (IntKind.i64.wrap (IntKind.i64.wrap ((IntKind.i64.wrap (hold (dv (IntKind.i64.wrap (0 - dotN (facC n_x n_x n_y n_z d_x d_y d_z) (facC n_y n_x n_y n_z d_x d_y d_z) (facC n_z n_x n_y n_z d_x d_y d_z) d_x d_y d_z)) 16384) 0 16384 * a)).tdiv b) - isq (IntKind.u64.wrap (IntKind.i64.wrap (268435456 - sineN (hold (dv (IntKind.i64.wrap (0 - dotN (facC n_x n_x n_y n_z d_x d_y d_z) (facC n_y n_x n_y n_z d_x d_y d_z) (facC n_z n_x n_y n_z d_x d_y d_z) d_x d_y d_z)) 16384) 0 16384) a b))))) 16384)) (sat (atF d_z a b + atF (facC n_z n_x n_y n_z d_x d_y d_z) (IntKind.i64.wrap (IntKind.i64.wrap ((IntKind.i64.wrap (hold (dv (IntKind.i64.wrap (0 - dotN (facC n_x n_x n_y n_z d_x d_y d_z) (facC n_y n_x n_y n_z d_x d_y d_z) (facC n_z n_x n_y n_z d_x d_y d_z) d_x d_y d_z)) 16384) 0 16384 * a)).tdiv b) - isq (IntKind.u64.wrap (IntKind.i64.wrap (268435456 - sineN (hold (dv (IntKind.i64.wrap (0 - dotN (facC n_x n_x n_y n_z d_x d_y d_z) (facC n_y n_x n_y n_z d_x d_y d_z) (facC n_z n_x n_y n_z d_x d_y d_z) d_x d_y d_z)) 16384) 0 16384) a b))))) 16384)) (sat (atF d_x a b + atF (facC n_x n_x n_y n_z d_x d_y d_z) (IntKind.i64.wrap (IntKind.i64.wrap ((IntKind.i64.wrap (hold (dv (IntKind.i64.wrap (0 - dotN (facC n_x n_x n_y n_z d_x d_y d_z) (facC n_y n_x n_y n_z d_x d_y d_z) (facC n_z n_x n_y n_z d_x d_y d_z) d_x d_y d_z)) 16384) 0 16384 * a)).tdiv b) - isq (IntKind.u64.wrap (IntKind.i64.wrap (268435456 - sineN (hold (dv (IntKind.i64.wrap (0 - dotN (facC n_x n_x n_y n_z d_x d_y d_z) (facC n_y n_x n_y n_z d_x d_y d_z) (facC n_z n_x n_y n_z d_x d_y d_z) d_x d_y d_z)) 16384) 0 16384) a b))))) 16384))), AV.int IntKind.i64 false (unitC (sat (atF d_x a b + atF (facC n_x n_x n_y n_z d_x d_y d_z) (IntKind.i64.wrap (IntKind.i64.wrap ((IntKind.i64.wrap (hold (dv (IntKind.i64.wrap (0 - dotN (facC n_x n_x n_y n_z d_x d_y d_z) (facC n_y n_x n_y n_z d_x d_y d_z) (facC n_z n_x n_y n_z d_x d_y d_z) d_x d_y d_z)) 16384) 0 16384 * a)).tdiv b) - isq (IntKind.u64.wrap (IntKind.i64.wrap (268435456 - sineN (hold (dv (IntKind.i64.wrap (0 - dotN (facC n_x n_x n_y n_z d_x d_y d_z) (facC n_y n_x n_y n_z d_x d_y d_z) (facC n_z n_x n_y n_z d_x d_y d_z) d_x d_y d_z)) 16384) 0 16384) a b))))) 16384)) (sat (atF d_y a b + atF (facC n_y n_x n_y n_z d_x d_y d_z) (IntKind.i64.wrap (IntKind.i64.wrap ((IntKind.i64.wrap (hold (dv (IntKind.i64.wrap (0 - dotN (facC n_x n_x n_y n_z d_x d_y d_z) (facC n_y n_x n_y n_z d_x d_y d_z) (facC n_z n_x n_y n_z d_x d_y d_z) d_x d_y d_z)) 16384) 0 16384 * a)).tdiv b) - isq (IntKind.u64.wrap (IntKind.i64.wrap (268435456 - sineN (hold (dv (IntKind.i64.wrap (0 - dotN (facC n_x n_x n_y n_z d_x d_y d_z) (facC n_y n_x n_y n_z d_x d_y d_z) (facC n_z n_x n_y n_z d_x d_y d_z) d_x d_y d_z)) 16384) 0 16384) a b))))) 16384)) (sat (atF d_z a b + atF (facC n_z n_x n_y n_z d_x d_y d_z) (IntKind.i64.wrap (IntKind.i64.wrap ((IntKind.i64.wrap (hold (dv (IntKind.i64.wrap (0 - dotN (facC n_x n_x n_y n_z d_x d_y d_z) (facC n_y n_x n_y n_z d_x d_y d_z) (facC n_z n_x n_y n_z d_x d_y d_z) d_x d_y d_z)) 16384) 0 16384 * a)).tdiv b) - isq (IntKind.u64.wrap (IntKind.i64.wrap (268435456 - sineN (hold (dv (IntKind.i64.wrap (0 - dotN (facC n_x n_x n_y n_z d_x d_y d_z) (facC n_y n_x n_y n_z d_x d_y d_z) (facC n_z n_x n_y n_z d_x d_y d_z) d_x d_y d_z)) 16384) 0 16384) a b))))) 16384)) (sat (atF d_y a b + atF (facC n_y n_x n_y n_z d_x d_y d_z) (IntKind.i64.wrap (IntKind.i64.wrap ((IntKind.i64.wrap (hold (dv (IntKind.i64.wrap (0 - dotN (facC n_x n_x n_y n_z d_x d_y d_z) (facC n_y n_x n_y n_z d_x d_y d_z) (facC n_z n_x n_y n_z d_x d_y d_z) d_x d_y d_z)) 16384) 0 16384 * a)).tdiv b) - isq (IntKind.u64.wrap (IntKind.i64.wrap (268435456 - sineN (hold (dv (IntKind.i64.wrap (0 - dotN (facC n_x n_x n_y n_z d_x d_y d_z) (facC n_y n_x n_y n_z d_x d_y d_z) (facC n_z n_x n_y n_z d_x d_y d_z) d_x d_y d_z)) 16384) 0 16384) a b))))) 16384))), AV.int IntKind.i64 false (unitC (sat (atF d_x a b + atF (facC n_x n_x n_y n_z d_x d_y d_z) (IntKind.i64.wrap (IntKind.i64.wrap ((IntKind.i64.wrap (hold (dv (IntKind.i64.wrap (0 - dotN (facC n_x n_x n_y n_z d_x d_y d_z) (facC n_y n_x n_y n_z d_x d_y d_z) (facC n_z n_x n_y n_z d_x d_y d_z) d_x d_y d_z)) 16384) 0 16384 * a)).tdiv b) - isq (IntKind.u64.wrap (IntKind.i64.wrap (268435456 - sineN (hold (dv (IntKind.i64.wrap (0 - dotN (facC n_x n_x n_y n_z d_x d_y d_z) (facC n_y n_x n_y n_z d_x d_y d_z) (facC n_z n_x n_y n_z d_x d_y d_z) d_x d_y d_z)) 16384) 0 16384) a b))))) 16384)) (sat (atF d_y a b + atF (facC n_y n_x n_y n_z d_x d_y d_z) (IntKind.i64.wrap (IntKind.i64.wrap ((IntKind.i64.wrap (hold (dv (IntKind.i64.wrap (0 - dotN (facC n_x n_x n_y n_z d_x d_y d_z) (facC n_y n_x n_y n_z d_x d_y d_z) (facC n_z n_x n_y n_z d_x d_y d_z) d_x d_y d_z)) 16384) 0 16384 * a)).tdiv b) - isq (IntKind.u64.wrap (IntKind.i64.wrap (268435456 - sineN (hold (dv (IntKind.i64.wrap (0 - dotN (facC n_x n_x n_y n_z d_x d_y d_z) (facC n_y n_x n_y n_z d_x d_y d_z) (facC n_z n_x n_y n_z d_x d_y d_z) d_x d_y d_z)) 16384) 0 16384) a b))))) 16384)) (sat (atF d_z a b + atF (facC n_z n_x n_y n_z d_x d_y d_z) (IntKind.i64.wrap (IntKind.i64.wrap ((IntKind.i64.wrap (hold (dv (IntKind.i64.wrap (0 - dotN (facC n_x n_x n_y n_z d_x d_y d_z) (facC n_y n_x n_y n_z d_x d_y d_z) (facC n_z n_x n_y n_z d_x d_y d_z) d_x d_y d_z)) 16384) 0 16384 * a)).tdiv b) - isq (IntKind.u64.wrap (IntKind.i64.wrap (268435456 - sineN (hold (dv (IntKind.i64.wrap (0 - dotN (facC n_x n_x n_y n_z d_x d_y d_z) (facC n_y n_x n_y n_z d_x d_y d_z) (facC n_z n_x n_y n_z d_x d_y d_z) d_x d_y d_z)) 16384) 0 16384) a b))))) 16384)) (sat (atF d_z a b + atF (facC n_z n_x n_y n_z d_x d_y d_z) (IntKind.i64.wrap (IntKind.i64.wrap ((IntKind.i64.wrap (hold (dv (IntKind.i64.wrap (0 - dotN (facC n_x n_x n_y n_z d_x d_y d_z) (facC n_y n_x n_y n_z d_x d_y d_z) (facC n_z n_x n_y n_z d_x d_y d_z) d_x d_y d_z)) 16384) 0 16384 * a)).tdiv b) - isq (IntKind.u64.wrap (IntKind.i64.wrap (268435456 - sineN (hold (dv (IntKind.i64.wrap (0 - dotN (facC n_x n_x n_y n_z d_x d_y d_z) (facC n_y n_x n_y n_z d_x d_y d_z) (facC n_z n_x n_y n_z d_x d_y d_z) d_x d_y d_z)) 16384) 0 16384) a b))))) 16384)))], AV.bool false (okU (sat (atF d_x a b + atF (facC n_x n_x n_y n_z d_x d_y d_z) (IntKind.i64.wrap (IntKind.i64.wrap ((IntKind.i64.wrap (hold (dv (IntKind.i64.wrap (0 - dotN (facC n_x n_x n_y n_z d_x d_y d_z) (facC n_y n_x n_y n_z d_x d_y d_z) (facC n_z n_x n_y n_z d_x d_y d_z) d_x d_y d_z)) 16384) 0 16384 * a)).tdiv b) - isq (IntKind.u64.wrap (IntKind.i64.wrap (268435456 - sineN (hold (dv (IntKind.i64.wrap (0 - dotN (facC n_x n_x n_y n_z d_x d_y d_z) (facC n_y n_x n_y n_z d_x d_y d_z) (facC n_z n_x n_y n_z d_x d_y d_z) d_x d_y d_z)) 16384) 0 16384) a b))))) 16384)) (sat (atF d_y a b + atF (facC n_y n_x n_y n_z d_x d_y d_z) (IntKind.i64.wrap (IntKind.i64.wrap ((IntKind.i64.wrap (hold (dv (IntKind.i64.wrap (0 - dotN (facC n_x n_x n_y n_z d_x d_y d_z) (facC n_y n_x n_y n_z d_x d_y d_z) (facC n_z n_x n_y n_z d_x d_y d_z) d_x d_y d_z)) 16384) 0 16384 * a)).tdiv b) - isq (IntKind.u64.wrap (IntKind.i64.wrap (268435456 - sineN (hold (dv (IntKind.i64.wrap (0 - dotN (facC n_x n_x n_y n_z d_x d_y d_z) (facC n_y n_x n_y n_z d_x d_y d_z) (facC n_z n_x n_y n_z d_x d_y d_z) d_x d_y d_z)) 16384) 0 16384) a b))))) 16384)) (sat (atF d_z a b + atF (facC n_z n_x n_y n_z d_x d_y d_z) (IntKind.i64.wrap (IntKind.i64.wrap ((IntKind.i64.wrap (hold (dv (IntKind.i64.wrap (0 - dotN (facC n_x n_x n_y n_z d_x d_y d_z) (facC n_y n_x n_y n_z d_x d_y d_z) (facC n_z n_x n_y n_z d_x d_y d_z) d_x d_y d_z)) 16384) 0 16384 * a)).tdiv b) - isq (IntKind.u64.wrap (IntKind.i64.wrap (268435456 - sineN (hold (dv (IntKind.i64.wrap (0 - dotN (facC n_x n_x n_y n_z d_x d_y d_z) (facC n_y n_x n_y n_z d_x d_y d_z) (facC n_z n_x n_y n_z d_x d_y d_z) d_x d_y d_z)) 16384) 0 16384) a b))))) 16384)))])))))))))))
theorem run_bend_Bend (d_x : Int) (d_y : Int) (d_z : Int) (n_x : Int) (n_y : Int) (n_z : Int) (a : Int) (b : Int) (h_d_x : InR .i64 d_x) (h_d_y : InR .i64 d_y) (h_d_z : InR .i64 d_z) (h_n_x : InR .i64 n_x) (h_n_y : InR .i64 n_y) (h_n_z : InR .i64 n_z) (h_a : InR .i64 a) (h_b : InR .i64 b) : (tr_bend_Bend d_x d_y d_z n_x n_y n_z a b).run = some (.tuple [v3 (bendU (bndC d_x n_x d_x d_y d_z n_x n_y n_z a b) d_x d_y d_z n_x n_y n_z a b) (bendU (bndC d_y n_y d_x d_y d_z n_x n_y n_z a b) d_x d_y d_z n_x n_y n_z a b) (bendU (bndC d_z n_z d_x d_y d_z n_x n_y n_z a b) d_x d_y d_z n_x n_y n_z a b), bb (bendIs d_x d_y d_z n_x n_y n_z a b)]) := by
  unfold tr_bend_Bend
  by_cases h : (((-16385 ≤ d_x ∧ d_x ≤ 16385) ∧ (-16385 ≤ d_y ∧ d_y ≤ 16385) ∧ (-16385 ≤ d_z ∧ d_z ≤ 16385)) ∧ ((-16385 ≤ n_x ∧ n_x ≤ 16385) ∧ (-16385 ≤ n_y ∧ n_y ≤ 16385) ∧ (-16385 ≤ n_z ∧ n_z ≤ 16385))) ∧ (16384 ≤ a ∧ a ≤ 65536) ∧ (16384 ≤ b ∧ b ≤ 65536)
  rotate_left
  · have ok : bendOk d_x d_y d_z n_x n_y n_z a b = false := by
      unfold bendOk shortB idxB
      simp only [Bool.and_eq_false_iff, decide_eq_false_iff_not]
      omega
    unfold bendIs bendU
    simp only [ok, Bool.false_and, Bool.false_eq_true, if_false]
    repeat (first | (refine run_guard (fun _ => rfl) (fun _ => ?_)) | (refine run_guard (fun _ => ?_) (fun _ => rfl)))
    exfalso
    simp only [decide_eq_true_eq, decide_eq_false_iff_not, Bool.not_eq_true', Bool.not_eq_false', mx_gt, mx_le, mn_lt, mn_ge] at *
    omega
  obtain ⟨⟨hd, hn⟩, ha, hb⟩ := h
  have sd : shortB d_x d_y d_z = true := decide_eq_true hd
  have sn : shortB n_x n_y n_z = true := decide_eq_true hn
  have hc := @cosN_r n_x n_y n_z d_x d_y d_z
  have hcos := cos_all (short_near sn) (short_near sd)
  rw [← cosN_eq sn sd] at hcos
  refine (run_f (decide_eq_false (by simp only [mx_gt, mx_le, mn_lt, mn_ge]; omega))).trans ((run_f (decide_eq_false (by simp only [mx_gt, mx_le, mn_lt, mn_ge]; omega))).trans ((run_f (decide_eq_false (by simp only [mx_gt, mx_le, mn_lt, mn_ge]; omega))).trans ((run_f (decide_eq_false (by simp only [mx_gt, mx_le, mn_lt, mn_ge]; omega))).trans ((run_f (decide_eq_false (by omega))).trans ((run_f (decide_eq_false (by omega))).trans ((run_f (decide_eq_false (by omega))).trans ((run_f (decide_eq_false (by omega))).trans (?_))))))))
  simp only [hcos]
  obtain ⟨_, _, _, _, s0⟩ := sine_r hc ha hb
  rw [← sineN_eq hc ha hb] at s0
  by_cases hs : sineN (cosN n_x n_y n_z d_x d_y d_z) a b > 268435456
  · have ok : bendOk d_x d_y d_z n_x n_y n_z a b = false := by
      unfold bendOk; simp only [Bool.and_eq_false_iff]; exact .inr (decide_eq_false (by omega))
    unfold bendIs bendU
    simp only [ok, Bool.false_and, Bool.false_eq_true, if_false]
    exact run_t (decide_eq_true hs)
  refine (run_f (decide_eq_false hs)).trans ?_
  have ok : bendOk d_x d_y d_z n_x n_y n_z a b = true := by
    unfold bendOk idxB; simp only [Bool.and_eq_true]; exact ⟨⟨⟨⟨sd, sn⟩, decide_eq_true ha⟩, decide_eq_true hb⟩, decide_eq_true (by omega)⟩
  unfold bendIs bendU
  simp only [ok, Bool.true_and, if_true]
  have ex := bnd_prog hc ha hb ⟨s0, by omega⟩ hd.1 (facC_r (nx := n_x) (ny := n_y) (nz := n_z) (dx := d_x) (dy := d_y) (dz := d_z) hn.1)
  have ey := bnd_prog hc ha hb ⟨s0, by omega⟩ hd.2.1 (facC_r (nx := n_x) (ny := n_y) (nz := n_z) (dx := d_x) (dy := d_y) (dz := d_z) hn.2.1)
  have ez := bnd_prog hc ha hb ⟨s0, by omega⟩ hd.2.2 (facC_r (nx := n_x) (ny := n_y) (nz := n_z) (dx := d_x) (dy := d_y) (dz := d_z) hn.2.2)
  rw [ex, ey, ez]
  exact run_f (decide_eq_false (by omega))

/-! skylightref24.Bend -/
def tr_skylightref24_Bend (d_x : Int) (d_y : Int) (d_z : Int) (n_x : Int) (n_y : Int) (n_z : Int) (a : Int) (b : Int) : Tr AV := Tr.node (decide (mm true (mm true d_x d_y) d_z ≤ 16385)) (Tr.node (!decide (mm false (mm false d_x d_y) d_z ≥ -16385)) (Tr.leaf (AV.tuple [AV.agg [AV.int IntKind.i64 false 0, AV.int IntKind.i64 false 0, AV.int IntKind.i64 false 0], AV.bool false false])) (Tr.node (decide (mm true (mm true n_x n_y) n_z ≤ 16385)) (Tr.node (!decide (mm false (mm false n_x n_y) n_z ≥ -16385)) (Tr.leaf (AV.tuple [AV.agg [AV.int IntKind.i64 false 0, AV.int IntKind.i64 false 0, AV.int IntKind.i64 false 0], AV.bool false false])) (Tr.node (decide (a ≥ 16384)) (Tr.node (!decide (a ≤ 65536)) (Tr.leaf (AV.tuple [AV.agg [AV.int IntKind.i64 false 0, AV.int IntKind.i64 false 0, AV.int IntKind.i64 false 0], AV.bool false false])) (Tr.node (decide (b ≥ 16384)) (Tr.node (!decide (b ≤ 65536)) (Tr.leaf (AV.tuple [AV.agg [AV.int IntKind.i64 false 0, AV.int IntKind.i64 false 0, AV.int IntKind.i64 false 0], AV.bool false false])) (Tr.node (decide (sineN (cosN n_x n_y n_z d_x d_y d_z) a b > 268435456)) (Tr.leaf (AV.tuple [AV.agg [AV.int IntKind.i64 false 0, AV.int IntKind.i64 false 0, AV.int IntKind.i64 false 0], AV.bool false false])) (Tr.leaf (AV.tuple [AV.agg [AV.int IntKind.i64 false (unitC (IntKind.i64.wrap ((if 1 ≤ b then IntKind.i64.wrap (d_x * a) / b else 0) + if (1 : Int) ≤ 16384 then IntKind.i64.wrap (facC n_x n_x n_y n_z d_x d_y d_z * IntKind.i64.wrap ((if 1 ≤ b then IntKind.i64.wrap (cosN n_x n_y n_z d_x d_y d_z * a) / b else 0) - isq (IntKind.u64.wrap (IntKind.i64.wrap (268435456 - sineN (cosN n_x n_y n_z d_x d_y d_z) a b))))) / 16384 else 0)) (IntKind.i64.wrap ((if 1 ≤ b then IntKind.i64.wrap (d_y * a) / b else 0) + if (1 : Int) ≤ 16384 then IntKind.i64.wrap (facC n_y n_x n_y n_z d_x d_y d_z * IntKind.i64.wrap ((if 1 ≤ b then IntKind.i64.wrap (cosN n_x n_y n_z d_x d_y d_z * a) / b else 0) - isq (IntKind.u64.wrap (IntKind.i64.wrap (268435456 - sineN (cosN n_x n_y n_z d_x d_y d_z) a b))))) / 16384 else 0)) (IntKind.i64.wrap ((if 1 ≤ b then IntKind.i64.wrap (d_z * a) / b else 0) + if (1 : Int) ≤ 16384 then IntKind.i64.wrap (facC n_z n_x n_y n_z d_x d_y d_z * IntKind.i64.wrap ((if 1 ≤ b then IntKind.i64.wrap (cosN n_x n_y n_z d_x d_y d_z * a) / b else 0) - isq (IntKind.u64.wrap (IntKind.i64.wrap (268435456 - sineN (cosN n_x n_y n_z d_x d_y d_z) a b))))) / 16384 else 0)) (IntKind.i64.wrap ((if 1 ≤ b then IntKind.i64.wrap (d_x * a) / b else 0) + if (1 : Int) ≤ 16384 then IntKind.i64.wrap (facC n_x n_x n_y n_z d_x d_y d_z * IntKind.i64.wrap ((if 1 ≤ b then IntKind.i64.wrap (cosN n_x n_y n_z d_x d_y d_z * a) / b else 0) - isq (IntKind.u64.wrap (IntKind.i64.wrap (268435456 - sineN (cosN n_x n_y n_z d_x d_y d_z) a b))))) / 16384 else 0))), AV.int IntKind.i64 false (unitC (IntKind.i64.wrap ((if 1 ≤ b then IntKind.i64.wrap (d_x * a) / b else 0) + if (1 : Int) ≤ 16384 then IntKind.i64.wrap (facC n_x n_x n_y n_z d_x d_y d_z * IntKind.i64.wrap ((if 1 ≤ b then IntKind.i64.wrap (cosN n_x n_y n_z d_x d_y d_z * a) / b else 0) - isq (IntKind.u64.wrap (IntKind.i64.wrap (268435456 - sineN (cosN n_x n_y n_z d_x d_y d_z) a b))))) / 16384 else 0)) (IntKind.i64.wrap ((if 1 ≤ b then IntKind.i64.wrap (d_y * a) / b else 0) + if (1 : Int) ≤ 16384 then IntKind.i64.wrap (facC n_y n_x n_y n_z d_x d_y d_z * IntKind.i64.wrap ((if 1 ≤ b then IntKind.i64.wrap (cosN n_x n_y n_z d_x d_y d_z * a) / b else 0) - isq (IntKind.u64.wrap (IntKind.i64.wrap (268435456 - sineN (cosN n_x n_y n_z d_x d_y d_z) a b))))) / 16384 else 0)) (IntKind.i64.wrap ((if 1 ≤ b then IntKind.i64.wrap (d_z * a) / b else 0) + if (1 : Int) ≤ 16384 then IntKind.i64.wrap (facC n_z n_x n_y n_z d_x d_y d_z * IntKind.i64.wrap ((if 1 ≤ b then IntKind.i64.wrap (cosN n_x n_y n_z d_x d_y d_z * a) / b else 0) - isq (IntKind.u64.wrap (IntKind.i64.wrap (268435456 - sineN (cosN n_x n_y n_z d_x d_y d_z) a b))))) / 16384 else 0)) (IntKind.i64.wrap ((if 1 ≤ b then IntKind.i64.wrap (d_y * a) / b else 0) + if (1 : Int) ≤ 16384 then IntKind.i64.wrap (facC n_y n_x n_y n_z d_x d_y d_z * IntKind.i64.wrap ((if 1 ≤ b then IntKind.i64.wrap (cosN n_x n_y n_z d_x d_y d_z * a) / b else 0) - isq (IntKind.u64.wrap (IntKind.i64.wrap (268435456 - sineN (cosN n_x n_y n_z d_x d_y d_z) a b))))) / 16384 else 0))), AV.int IntKind.i64 false (unitC (IntKind.i64.wrap ((if 1 ≤ b then IntKind.i64.wrap (d_x * a) / b else 0) + if (1 : Int) ≤ 16384 then IntKind.i64.wrap (facC n_x n_x n_y n_z d_x d_y d_z * IntKind.i64.wrap ((if 1 ≤ b then IntKind.i64.wrap (cosN n_x n_y n_z d_x d_y d_z * a) / b else 0) - isq (IntKind.u64.wrap (IntKind.i64.wrap (268435456 - sineN (cosN n_x n_y n_z d_x d_y d_z) a b))))) / 16384 else 0)) (IntKind.i64.wrap ((if 1 ≤ b then IntKind.i64.wrap (d_y * a) / b else 0) + if (1 : Int) ≤ 16384 then IntKind.i64.wrap (facC n_y n_x n_y n_z d_x d_y d_z * IntKind.i64.wrap ((if 1 ≤ b then IntKind.i64.wrap (cosN n_x n_y n_z d_x d_y d_z * a) / b else 0) - isq (IntKind.u64.wrap (IntKind.i64.wrap (268435456 - sineN (cosN n_x n_y n_z d_x d_y d_z) a b))))) / 16384 else 0)) (IntKind.i64.wrap ((if 1 ≤ b then IntKind.i64.wrap (d_z * a) / b else 0) + if (1 : Int) ≤ 16384 then IntKind.i64.wrap (facC n_z n_x n_y n_z d_x d_y d_z * IntKind.i64.wrap ((if 1 ≤ b then IntKind.i64.wrap (cosN n_x n_y n_z d_x d_y d_z * a) / b else 0) - isq (IntKind.u64.wrap (IntKind.i64.wrap (268435456 - sineN (cosN n_x n_y n_z d_x d_y d_z) a b))))) / 16384 else 0)) (IntKind.i64.wrap ((if 1 ≤ b then IntKind.i64.wrap (d_z * a) / b else 0) + if (1 : Int) ≤ 16384 then IntKind.i64.wrap (facC n_z n_x n_y n_z d_x d_y d_z * IntKind.i64.wrap ((if 1 ≤ b then IntKind.i64.wrap (cosN n_x n_y n_z d_x d_y d_z * a) / b else 0) - isq (IntKind.u64.wrap (IntKind.i64.wrap (268435456 - sineN (cosN n_x n_y n_z d_x d_y d_z) a b))))) / 16384 else 0)))], AV.bool false (okU (IntKind.i64.wrap ((if 1 ≤ b then IntKind.i64.wrap (d_x * a) / b else 0) + if (1 : Int) ≤ 16384 then IntKind.i64.wrap (facC n_x n_x n_y n_z d_x d_y d_z * IntKind.i64.wrap ((if 1 ≤ b then IntKind.i64.wrap (cosN n_x n_y n_z d_x d_y d_z * a) / b else 0) - isq (IntKind.u64.wrap (IntKind.i64.wrap (268435456 - sineN (cosN n_x n_y n_z d_x d_y d_z) a b))))) / 16384 else 0)) (IntKind.i64.wrap ((if 1 ≤ b then IntKind.i64.wrap (d_y * a) / b else 0) + if (1 : Int) ≤ 16384 then IntKind.i64.wrap (facC n_y n_x n_y n_z d_x d_y d_z * IntKind.i64.wrap ((if 1 ≤ b then IntKind.i64.wrap (cosN n_x n_y n_z d_x d_y d_z * a) / b else 0) - isq (IntKind.u64.wrap (IntKind.i64.wrap (268435456 - sineN (cosN n_x n_y n_z d_x d_y d_z) a b))))) / 16384 else 0)) (IntKind.i64.wrap ((if 1 ≤ b then IntKind.i64.wrap (d_z * a) / b else 0) + if (1 : Int) ≤ 16384 then IntKind.i64.wrap (facC n_z n_x n_y n_z d_x d_y d_z * IntKind.i64.wrap ((if 1 ≤ b then IntKind.i64.wrap (cosN n_x n_y n_z d_x d_y d_z * a) / b else 0) - isq (IntKind.u64.wrap (IntKind.i64.wrap (268435456 - sineN (cosN n_x n_y n_z d_x d_y d_z) a b))))) / 16384 else 0)))])))) (Tr.leaf (AV.tuple [AV.agg [AV.int IntKind.i64 false 0, AV.int IntKind.i64 false 0, AV.int IntKind.i64 false 0], AV.bool false false])))) (Tr.leaf (AV.tuple [AV.agg [AV.int IntKind.i64 false 0, AV.int IntKind.i64 false 0, AV.int IntKind.i64 false 0], AV.bool false false])))) (Tr.leaf (AV.tuple [AV.agg [AV.int IntKind.i64 false 0, AV.int IntKind.i64 false 0, AV.int IntKind.i64 false 0], AV.bool false false])))) (Tr.leaf (AV.tuple [AV.agg [AV.int IntKind.i64 false 0, AV.int IntKind.i64 false 0, AV.int IntKind.i64 false 0], AV.bool false false]))
theorem run_skylightref24_Bend (d_x : Int) (d_y : Int) (d_z : Int) (n_x : Int) (n_y : Int) (n_z : Int) (a : Int) (b : Int) (h_d_x : InR .i64 d_x) (h_d_y : InR .i64 d_y) (h_d_z : InR .i64 d_z) (h_n_x : InR .i64 n_x) (h_n_y : InR .i64 n_y) (h_n_z : InR .i64 n_z) (h_a : InR .i64 a) (h_b : InR .i64 b) : (tr_skylightref24_Bend d_x d_y d_z n_x n_y n_z a b).run = some (.tuple [v3 (bendU (bndC d_x n_x d_x d_y d_z n_x n_y n_z a b) d_x d_y d_z n_x n_y n_z a b) (bendU (bndC d_y n_y d_x d_y d_z n_x n_y n_z a b) d_x d_y d_z n_x n_y n_z a b) (bendU (bndC d_z n_z d_x d_y d_z n_x n_y n_z a b) d_x d_y d_z n_x n_y n_z a b), bb (bendIs d_x d_y d_z n_x n_y n_z a b)]) := by
  unfold tr_skylightref24_Bend
  by_cases h : (((-16385 ≤ d_x ∧ d_x ≤ 16385) ∧ (-16385 ≤ d_y ∧ d_y ≤ 16385) ∧ (-16385 ≤ d_z ∧ d_z ≤ 16385)) ∧ ((-16385 ≤ n_x ∧ n_x ≤ 16385) ∧ (-16385 ≤ n_y ∧ n_y ≤ 16385) ∧ (-16385 ≤ n_z ∧ n_z ≤ 16385))) ∧ (16384 ≤ a ∧ a ≤ 65536) ∧ (16384 ≤ b ∧ b ≤ 65536)
  rotate_left
  · have ok : bendOk d_x d_y d_z n_x n_y n_z a b = false := by
      unfold bendOk shortB idxB
      simp only [Bool.and_eq_false_iff, decide_eq_false_iff_not]
      omega
    unfold bendIs bendU
    simp only [ok, Bool.false_and, Bool.false_eq_true, if_false]
    repeat (first | (refine run_guard (fun _ => rfl) (fun _ => ?_)) | (refine run_guard (fun _ => ?_) (fun _ => rfl)))
    exfalso
    simp only [decide_eq_true_eq, decide_eq_false_iff_not, Bool.not_eq_true', Bool.not_eq_false', mx_gt, mx_le, mn_lt, mn_ge] at *
    omega
  obtain ⟨⟨hd, hn⟩, ha, hb⟩ := h
  have sd : shortB d_x d_y d_z = true := decide_eq_true hd
  have sn : shortB n_x n_y n_z = true := decide_eq_true hn
  have hc := @cosN_r n_x n_y n_z d_x d_y d_z
  have hcos := cos_all (short_near sn) (short_near sd)
  rw [← cosN_eq sn sd] at hcos
  refine (run_t (decide_eq_true (by simp only [mx_gt, mx_le, mn_lt, mn_ge]; omega))).trans ((run_f (by rw [decide_eq_true (by simp only [mx_gt, mx_le, mn_lt, mn_ge]; omega)]; rfl)).trans ((run_t (decide_eq_true (by simp only [mx_gt, mx_le, mn_lt, mn_ge]; omega))).trans ((run_f (by rw [decide_eq_true (by simp only [mx_gt, mx_le, mn_lt, mn_ge]; omega)]; rfl)).trans ((run_t (decide_eq_true (by omega))).trans ((run_f (by rw [decide_eq_true (by omega)]; rfl)).trans ((run_t (decide_eq_true (by omega))).trans ((run_f (by rw [decide_eq_true (by omega)]; rfl)).trans (?_))))))))
  obtain ⟨_, _, _, _, s0⟩ := sine_r hc ha hb
  rw [← sineN_eq hc ha hb] at s0
  by_cases hs : sineN (cosN n_x n_y n_z d_x d_y d_z) a b > 268435456
  · have ok : bendOk d_x d_y d_z n_x n_y n_z a b = false := by
      unfold bendOk; simp only [Bool.and_eq_false_iff]; exact .inr (decide_eq_false (by omega))
    unfold bendIs bendU
    simp only [ok, Bool.false_and, Bool.false_eq_true, if_false]
    exact run_t (decide_eq_true hs)
  refine (run_f (decide_eq_false hs)).trans ?_
  have ok : bendOk d_x d_y d_z n_x n_y n_z a b = true := by
    unfold bendOk idxB; simp only [Bool.and_eq_true]; exact ⟨⟨⟨⟨sd, sn⟩, decide_eq_true ha⟩, decide_eq_true hb⟩, decide_eq_true (by omega)⟩
  unfold bendIs bendU
  simp only [ok, Bool.true_and, if_true]
  have ex := bnd_ref hc ha hb ⟨s0, by omega⟩ hd.1 (facC_r (nx := n_x) (ny := n_y) (nz := n_z) (dx := d_x) (dy := d_y) (dz := d_z) hn.1)
  have ey := bnd_ref hc ha hb ⟨s0, by omega⟩ hd.2.1 (facC_r (nx := n_x) (ny := n_y) (nz := n_z) (dx := d_x) (dy := d_y) (dz := d_z) hn.2.1)
  have ez := bnd_ref hc ha hb ⟨s0, by omega⟩ hd.2.2 (facC_r (nx := n_x) (ny := n_y) (nz := n_z) (dx := d_x) (dy := d_y) (dz := d_z) hn.2.2)
  rw [ex, ey, ez]
  rfl

/-! skylightlaw24.BendMore -/
def tr_skylightlaw24_BendMore (c : Int) (d : Int) (n : Int) (m : Int) : Tr AV := Tr.node (decide ((IntKind.i64.wrap c).tmod 16385 ≤ (IntKind.i64.wrap d).tmod 16385)) (Tr.node (decide (backN ((IntKind.i64.wrap c).tmod 16385) (IntKind.i64.wrap (16384 + (IntKind.i64.wrap n).tmod 49153)) < backN ((IntKind.i64.wrap d).tmod 16385) (IntKind.i64.wrap (16384 + (IntKind.i64.wrap n).tmod 49153)))) (Tr.leaf (AV.bool false false)) (Tr.node (decide (backN ((IntKind.i64.wrap c).tmod 16385) (IntKind.i64.wrap (16384 + (IntKind.i64.wrap n).tmod 49153)) < 0)) (Tr.leaf (AV.bool false false)) (Tr.node (decide (backN ((IntKind.i64.wrap c).tmod 16385) (IntKind.i64.wrap (16384 + (IntKind.i64.wrap n).tmod 49153)) > 65536)) (Tr.leaf (AV.bool false false)) (Tr.node (backN 0 (IntKind.i64.wrap (16384 + (IntKind.i64.wrap n).tmod 49153)) != 65536) (Tr.leaf (AV.bool false false)) (Tr.node (decide (IntKind.i64.wrap (16384 + (IntKind.i64.wrap n).tmod 49153) > IntKind.i64.wrap (16384 + (IntKind.i64.wrap m).tmod 49153))) (Tr.node (decide ((IntKind.i64.wrap c).tmod 16385 > (IntKind.i64.wrap d).tmod 16385)) (Tr.leaf (AV.bool false true)) (Tr.node (decide (sineN ((IntKind.i64.wrap c).tmod 16385) (IntKind.i64.wrap (16384 + (IntKind.i64.wrap n).tmod 49153)) (IntKind.i64.wrap (16384 + (IntKind.i64.wrap m).tmod 49153)) ≥ sineN ((IntKind.i64.wrap d).tmod 16385) (IntKind.i64.wrap (16384 + (IntKind.i64.wrap n).tmod 49153)) (IntKind.i64.wrap (16384 + (IntKind.i64.wrap m).tmod 49153)))) (Tr.leaf (AV.bool false true)) (Tr.leaf (AV.bool false false)))) (Tr.node (decide (backN 16384 (IntKind.i64.wrap (16384 + (IntKind.i64.wrap n).tmod 49153)) ≤ backN 16384 (IntKind.i64.wrap (16384 + (IntKind.i64.wrap m).tmod 49153)))) (Tr.node (decide ((IntKind.i64.wrap c).tmod 16385 > (IntKind.i64.wrap d).tmod 16385)) (Tr.leaf (AV.bool false true)) (Tr.node (decide (sineN ((IntKind.i64.wrap c).tmod 16385) (IntKind.i64.wrap (16384 + (IntKind.i64.wrap n).tmod 49153)) (IntKind.i64.wrap (16384 + (IntKind.i64.wrap m).tmod 49153)) ≥ sineN ((IntKind.i64.wrap d).tmod 16385) (IntKind.i64.wrap (16384 + (IntKind.i64.wrap n).tmod 49153)) (IntKind.i64.wrap (16384 + (IntKind.i64.wrap m).tmod 49153)))) (Tr.leaf (AV.bool false true)) (Tr.leaf (AV.bool false false)))) (Tr.leaf (AV.bool false false)))))))) (Tr.node (decide (backN ((IntKind.i64.wrap c).tmod 16385) (IntKind.i64.wrap (16384 + (IntKind.i64.wrap n).tmod 49153)) < 0)) (Tr.leaf (AV.bool false false)) (Tr.node (decide (backN ((IntKind.i64.wrap c).tmod 16385) (IntKind.i64.wrap (16384 + (IntKind.i64.wrap n).tmod 49153)) > 65536)) (Tr.leaf (AV.bool false false)) (Tr.node (backN 0 (IntKind.i64.wrap (16384 + (IntKind.i64.wrap n).tmod 49153)) != 65536) (Tr.leaf (AV.bool false false)) (Tr.node (decide (IntKind.i64.wrap (16384 + (IntKind.i64.wrap n).tmod 49153) > IntKind.i64.wrap (16384 + (IntKind.i64.wrap m).tmod 49153))) (Tr.node (decide ((IntKind.i64.wrap c).tmod 16385 > (IntKind.i64.wrap d).tmod 16385)) (Tr.leaf (AV.bool false true)) (Tr.node (decide (sineN ((IntKind.i64.wrap c).tmod 16385) (IntKind.i64.wrap (16384 + (IntKind.i64.wrap n).tmod 49153)) (IntKind.i64.wrap (16384 + (IntKind.i64.wrap m).tmod 49153)) ≥ sineN ((IntKind.i64.wrap d).tmod 16385) (IntKind.i64.wrap (16384 + (IntKind.i64.wrap n).tmod 49153)) (IntKind.i64.wrap (16384 + (IntKind.i64.wrap m).tmod 49153)))) (Tr.leaf (AV.bool false true)) (Tr.leaf (AV.bool false false)))) (Tr.node (decide (backN 16384 (IntKind.i64.wrap (16384 + (IntKind.i64.wrap n).tmod 49153)) ≤ backN 16384 (IntKind.i64.wrap (16384 + (IntKind.i64.wrap m).tmod 49153)))) (Tr.node (decide ((IntKind.i64.wrap c).tmod 16385 > (IntKind.i64.wrap d).tmod 16385)) (Tr.leaf (AV.bool false true)) (Tr.node (decide (sineN ((IntKind.i64.wrap c).tmod 16385) (IntKind.i64.wrap (16384 + (IntKind.i64.wrap n).tmod 49153)) (IntKind.i64.wrap (16384 + (IntKind.i64.wrap m).tmod 49153)) ≥ sineN ((IntKind.i64.wrap d).tmod 16385) (IntKind.i64.wrap (16384 + (IntKind.i64.wrap n).tmod 49153)) (IntKind.i64.wrap (16384 + (IntKind.i64.wrap m).tmod 49153)))) (Tr.leaf (AV.bool false true)) (Tr.leaf (AV.bool false false)))) (Tr.leaf (AV.bool false false)))))))
theorem run_skylightlaw24_BendMore (c : Int) (d : Int) (n : Int) (m : Int) (h_c : InR .u16 c) (h_d : InR .u16 d) (h_n : InR .u16 n) (h_m : InR .u16 m) : (tr_skylightlaw24_BendMore c d n m).run = some (bb true) := by
  unfold tr_skylightlaw24_BendMore
  have hc : 0 ≤ c ∧ c ≤ 65535 := h_c
  have hd : 0 ≤ d ∧ d ≤ 65535 := h_d
  have hn : 0 ≤ n ∧ n ≤ 65535 := h_n
  have hm : 0 ≤ m ∧ m ≤ 65535 := h_m
  rw [wrap_i64_id (n := c) (by omega), wrap_i64_id (n := d) (by omega), wrap_i64_id (n := n) (by omega), wrap_i64_id (n := m) (by omega),
    Int.tmod_eq_emod_of_nonneg hc.1, Int.tmod_eq_emod_of_nonneg hd.1, Int.tmod_eq_emod_of_nonneg hn.1, Int.tmod_eq_emod_of_nonneg hm.1, wrap_i64_id (n := 16384 + n % 49153) (by omega), wrap_i64_id (n := 16384 + m % 49153) (by omega)]
  have hx : 0 ≤ c % 16385 ∧ c % 16385 ≤ 16384 := by omega
  have hy : 0 ≤ d % 16385 ∧ d % 16385 ≤ 16384 := by omega
  have ha : 16384 ≤ 16384 + n % 49153 ∧ 16384 + n % 49153 ≤ 65536 := by omega
  have hb : 16384 ≤ 16384 + m % 49153 ∧ 16384 + m % 49153 ≤ 65536 := by omega
  generalize c % 16385 = x at *
  generalize d % 16385 = y at *
  generalize 16384 + n % 49153 = a at *
  generalize 16384 + m % 49153 = b at *
  have r := backN_r hx ha
  simp only [backN_0 ha, backN_1 ha, backN_1 hb, Tr.run, bb, decide_eq_true_eq, bne_self_eq_false, Bool.false_eq_true, if_false]
  have s : x ≤ y → sineN y a b ≤ sineN x a b := fun h => sineN_mono hx.1 h hy.2 ha hb
  have q : a ≤ b → backA a ≤ backA b := fun h => backA_mono ha.1 h
  have p : x ≤ y → backN y a ≤ backN x a := fun h => backN_mono hx.1 h hy.2 ha
  (repeat' split) <;> first | rfl | (exfalso; omega)

/-! skylightlaw24.BendTells -/
def tr_skylightlaw24_BendTells (d_x : Int) (d_y : Int) (d_z : Int) (n_x : Int) (n_y : Int) (n_z : Int) (a : Int) (b : Int) (c : Int) : Tr AV := Tr.node (backN c a == backN c a) (Tr.node (cosN n_x n_y n_z d_x d_y d_z == cosN n_x n_y n_z d_x d_y d_z) (Tr.node (sineN c a b == sineN c a b) (Tr.node (bendU (bndC d_x n_x d_x d_y d_z n_x n_y n_z a b) d_x d_y d_z n_x n_y n_z a b == bendU (bndC d_x n_x d_x d_y d_z n_x n_y n_z a b) d_x d_y d_z n_x n_y n_z a b && (bendU (bndC d_y n_y d_x d_y d_z n_x n_y n_z a b) d_x d_y d_z n_x n_y n_z a b == bendU (bndC d_y n_y d_x d_y d_z n_x n_y n_z a b) d_x d_y d_z n_x n_y n_z a b && (bendU (bndC d_z n_z d_x d_y d_z n_x n_y n_z a b) d_x d_y d_z n_x n_y n_z a b == bendU (bndC d_z n_z d_x d_y d_z n_x n_y n_z a b) d_x d_y d_z n_x n_y n_z a b && true))) (Tr.node (bendU (bndC d_x n_x d_x d_y d_z n_x n_y n_z a b) d_x d_y d_z n_x n_y n_z a b == bendU (bndC d_x n_x d_x d_y d_z n_x n_y n_z a b) d_x d_y d_z n_x n_y n_z a b && (bendU (bndC d_y n_y d_x d_y d_z n_x n_y n_z a b) d_x d_y d_z n_x n_y n_z a b == bendU (bndC d_y n_y d_x d_y d_z n_x n_y n_z a b) d_x d_y d_z n_x n_y n_z a b && (bendU (bndC d_z n_z d_x d_y d_z n_x n_y n_z a b) d_x d_y d_z n_x n_y n_z a b == bendU (bndC d_z n_z d_x d_y d_z n_x n_y n_z a b) d_x d_y d_z n_x n_y n_z a b && true))) (Tr.node (bendIs d_x d_y d_z n_x n_y n_z a b == bendIs d_x d_y d_z n_x n_y n_z a b) (Tr.leaf (AV.bool false true)) (Tr.leaf (AV.bool false false))) (Tr.leaf (AV.bool false false))) (Tr.node (bendU (bndC d_x n_x d_x d_y d_z n_x n_y n_z a b) d_x d_y d_z n_x n_y n_z a b == bendU (bndC d_x n_x d_x d_y d_z n_x n_y n_z a b) d_x d_y d_z n_x n_y n_z a b && (bendU (bndC d_y n_y d_x d_y d_z n_x n_y n_z a b) d_x d_y d_z n_x n_y n_z a b == bendU (bndC d_y n_y d_x d_y d_z n_x n_y n_z a b) d_x d_y d_z n_x n_y n_z a b && (bendU (bndC d_z n_z d_x d_y d_z n_x n_y n_z a b) d_x d_y d_z n_x n_y n_z a b == bendU (bndC d_z n_z d_x d_y d_z n_x n_y n_z a b) d_x d_y d_z n_x n_y n_z a b && true))) Tr.bad (Tr.leaf (AV.bool false false)))) (Tr.leaf (AV.bool false false))) (Tr.leaf (AV.bool false false))) (Tr.leaf (AV.bool false false))
theorem run_skylightlaw24_BendTells (d_x : Int) (d_y : Int) (d_z : Int) (n_x : Int) (n_y : Int) (n_z : Int) (a : Int) (b : Int) (c : Int) (h_d_x : InR .i64 d_x) (h_d_y : InR .i64 d_y) (h_d_z : InR .i64 d_z) (h_n_x : InR .i64 n_x) (h_n_y : InR .i64 n_y) (h_n_z : InR .i64 n_z) (h_a : InR .i64 a) (h_b : InR .i64 b) (h_c : InR .i64 c) : (tr_skylightlaw24_BendTells d_x d_y d_z n_x n_y n_z a b c).run = some (bb true) := by
  unfold tr_skylightlaw24_BendTells
  simp [Tr.run, bb]

end Go.Sky

/- Numbers of 128 bits: sums, and how they are held against one another. -/
set_option linter.unusedSimpArgs false
set_option linter.unusedVariables false
namespace Go.Sky

/-- What the library's difference of two halves gives. -/
def sub64Entry : Array Value → Sem Value := fun args => do
  let (x, y, b) ← Extern.MathBitsCarry.three "Sub64" args
  pure (Extern.MathBitsCarry.pair ((x + Extern.MathBitsCarry.m64 - y - b) % Extern.MathBitsCarry.m64) (if x < y + b then 1 else 0))

theorem run_sub64 {P : Program} (x y c : Int) (hx : 0 ≤ x ∧ x ≤ 18446744073709551615) (hy : 0 ≤ y ∧ y ≤ 18446744073709551615) (hc : 0 ≤ c ∧ c ≤ 1) (w : World) :
    (sub64Entry #[.int .u64 x, .int .u64 y, .int .u64 c]).run P w = .ok (.tuple #[.int .u64 ((x - y - c) % 18446744073709551616), .int .u64 (if x < y + c then 1 else 0)]) w := by
  have key : ∀ k : Nat, k ≤ 1 → (sub64Entry #[.int .u64 x, .int .u64 y, .int .u64 (k : Int)]).run P w =
      .ok (Extern.MathBitsCarry.pair ((x.toNat + Extern.MathBitsCarry.m64 - y.toNat - k) % Extern.MathBitsCarry.m64) (if x.toNat < y.toNat + k then 1 else 0)) w := by
    intro k hk
    have : k = 0 ∨ k = 1 := by omega
    rcases this with rfl | rfl <;> rfl
  obtain ⟨k, rfl⟩ := Int.eq_ofNat_of_zero_le hc.1
  rw [key k (by omega)]
  obtain ⟨X, rfl⟩ := Int.eq_ofNat_of_zero_le hx.1
  obtain ⟨Y, rfl⟩ := Int.eq_ofNat_of_zero_le hy.1
  simp only [Extern.MathBitsCarry.pair, Extern.MathBitsCarry.m64, Int.toNat_natCast]
  have e1 : Int.ofNat ((X + 2 ^ 64 - Y - k) % 2 ^ 64) = ((X : Int) - Y - k) % 18446744073709551616 := by
    have p : (2 : Nat) ^ 64 = 18446744073709551616 := by decide
    rw [p, Int.ofNat_eq_natCast]; omega
  have e2 : Int.ofNat (if X < Y + k then 1 else 0) = if (X : Int) < Y + k then 1 else 0 := by
    rw [Int.ofNat_eq_natCast]; split <;> split <;> omega
  rw [e1, e2]

/-- What a difference borrows. -/
def brw (x y : Int) : Int := if x < y then 1 else 0
theorem brw_r (x y : Int) : 0 ≤ brw x y ∧ brw x y ≤ 1 := by unfold brw; split <;> omega
def wv (hi lo : Int) : Int := hi * 18446744073709551616 + lo
/-- The high half of a number, with its sign, and the low one. -/
def whi (V : Int) : Int := IntKind.i64.wrap (V / 18446744073709551616)
def wlo (V : Int) : Int := V % 18446744073709551616
/-- A number as two halves. -/
def wA (V : Int) : AV := w2 (whi V) (wlo V)
def cmpI (x y : Int) : Int := if x < y then -1 else if x > y then 1 else 0
/-- A number that has a root. -/
def rootN (hi lo : Int) : Int := if 0 ≤ hi then isq (wv hi lo) else 0
/-- A number as it is in 128 bits, with its sign. -/
def sg (V : Int) : Int := (V + 170141183460469231731687303715884105728) % 340282366920938463463374607431768211456 - 170141183460469231731687303715884105728

theorem whi_r (V : Int) : -9223372036854775808 ≤ whi V ∧ whi V ≤ 9223372036854775807 := by unfold whi; rw [wrap_i64]; omega
theorem wlo_r (V : Int) : 0 ≤ wlo V ∧ wlo V ≤ 18446744073709551615 := by unfold wlo; omega
theorem wv_sg (V : Int) : wv (whi V) (wlo V) = sg V := by unfold wv whi wlo sg; rw [wrap_i64]; omega
theorem sg_id {V : Int} (h : -170141183460469231731687303715884105728 ≤ V ∧ V < 170141183460469231731687303715884105728) : sg V = V := by unfold sg; omega
theorem wA_congr {V W : Int} (h : V % 340282366920938463463374607431768211456 = W % 340282366920938463463374607431768211456) : wA V = wA W := by
  unfold wA whi wlo; rw [wrap_i64, wrap_i64]; congr 1 <;> omega
theorem wA_sg (V : Int) : wA (sg V) = wA V := wA_congr (by unfold sg; omega)
theorem wv_r {hi lo : Int} (h1 : -9223372036854775808 ≤ hi ∧ hi ≤ 9223372036854775807) (h2 : 0 ≤ lo ∧ lo ≤ 18446744073709551615) :
    -170141183460469231731687303715884105728 ≤ wv hi lo ∧ wv hi lo < 170141183460469231731687303715884105728 := by unfold wv; omega
theorem wA_wv {hi lo : Int} (h1 : -9223372036854775808 ≤ hi ∧ hi ≤ 9223372036854775807) (h2 : 0 ≤ lo ∧ lo ≤ 18446744073709551615) : wA (wv hi lo) = w2 hi lo := by
  unfold wA whi wlo wv; rw [wrap_i64]; congr 1 <;> omega
theorem wA_mul {a b : Int} (ha : -9223372036854775808 ≤ a ∧ a ≤ 9223372036854775807) (hb : -9223372036854775808 ≤ b ∧ b ≤ 9223372036854775807) :
    w2 (a * b / 18446744073709551616) (a * b % 18446744073709551616) = wA (a * b) := by
  have h := mul_r ha hb
  unfold wA whi wlo
  rw [wrap_i64_id (by omega)]

theorem wrap_u64_i {x : Int} (h : -9223372036854775808 ≤ x ∧ x ≤ 9223372036854775807) : IntKind.u64.wrap x = if x < 0 then x + 18446744073709551616 else x := by rw [wrap_u64]; split <;> omega

/-- A sum, half by half. -/
theorem add_halves {ah al bh bl : Int} (h1 : -9223372036854775808 ≤ ah ∧ ah ≤ 9223372036854775807) (h2 : 0 ≤ al ∧ al ≤ 18446744073709551615) (h3 : -9223372036854775808 ≤ bh ∧ bh ≤ 9223372036854775807) (h4 : 0 ≤ bl ∧ bl ≤ 18446744073709551615) :
    IntKind.i64.wrap ((IntKind.u64.wrap ah + IntKind.u64.wrap bh + (al + bl + 0) / 18446744073709551616) % 18446744073709551616) = whi (wv ah al + wv bh bl) ∧ (al + bl + 0) % 18446744073709551616 = wlo (wv ah al + wv bh bl) := by
  unfold whi wlo wv
  simp only [wrap_i64, wrap_u64]
  omega

theorem sub_halves {ah al bh bl : Int} (h1 : -9223372036854775808 ≤ ah ∧ ah ≤ 9223372036854775807) (h2 : 0 ≤ al ∧ al ≤ 18446744073709551615) (h3 : -9223372036854775808 ≤ bh ∧ bh ≤ 9223372036854775807) (h4 : 0 ≤ bl ∧ bl ≤ 18446744073709551615) :
    IntKind.i64.wrap ((IntKind.u64.wrap ah - IntKind.u64.wrap bh - brw al (bl + 0)) % 18446744073709551616) = whi (wv ah al - wv bh bl) ∧ (al - bl - 0) % 18446744073709551616 = wlo (wv ah al - wv bh bl) := by
  unfold whi wlo wv brw
  simp only [wrap_i64, wrap_u64]
  split <;> omega

theorem cmp_halves {ah al bh bl : Int} (h2 : 0 ≤ al ∧ al ≤ 18446744073709551615) (h4 : 0 ≤ bl ∧ bl ≤ 18446744073709551615) :
    cmpI (wv ah al) (wv bh bl) = if ah < bh then -1 else if ah > bh then 1 else if al < bl then -1 else if al > bl then 1 else 0 := by
  unfold cmpI wv
  (repeat' split) <;> omega

/-- One step of Newton's, of 128 bits. -/
theorem bits_or2 {s : Nat} {a b : Int} (ha : 0 ≤ a) (hb : 0 ≤ b ∧ b < 2 ^ s) (h : a * 2 ^ s + b ≤ 18446744073709551615) : Go.bits .or .u64 b (a * 2 ^ s) = a * 2 ^ s + b := by
  have e := bits_or ha hb h
  rw [← e]
  show IntKind.u64.wrap ((BitVec.ofInt 64 b ||| BitVec.ofInt 64 (a * 2 ^ s)).toNat : Int) = IntKind.u64.wrap ((BitVec.ofInt 64 (a * 2 ^ s) ||| BitVec.ofInt 64 b).toNat : Int)
  rw [BitVec.or_comm]

theorem root128 {hi lo r : Int} (h1 : 1 ≤ hi ∧ hi ≤ 9223372036854775807) (h2 : 0 ≤ lo ∧ lo ≤ 18446744073709551615) (hr : isq (wv hi lo) ≤ r ∧ r ≤ 18446744073709551615) :
    hi < r ∧ 0 ≤ wv hi lo / r ∧ wv hi lo / r ≤ 18446744073709551615 ∧ 0 < r ∧ isq (wv hi lo) ≤ (r + wv hi lo / r) / 2 ∧ ((r + wv hi lo / r) / 2 ≥ r → r = isq (wv hi lo)) := by
  have hV : 0 ≤ wv hi lo ∧ wv hi lo < 170141183460469231731687303715884105728 := by unfold wv; omega
  obtain ⟨s0, s1, s2, s3⟩ := isq_spec (n := wv hi lo) hV.1 (by omega)
  have hs : 4294967296 ≤ isq (wv hi lo) := by
    have : ¬ (isq (wv hi lo) + 1 ≤ 4294967296) := by
      intro h
      have := Int.mul_le_mul h h (by omega) (by omega)
      unfold wv at *; omega
    omega
  have hlt : hi < isq (wv hi lo) := by
    rcases Int.lt_or_le hi (isq (wv hi lo)) with h | h
    · exact h
    · exfalso
      -- hi * hi + 2 hi + 1 > V = hi * 2^64 + lo
      have a1 : (isq (wv hi lo) + 1) * (isq (wv hi lo) + 1) ≤ (hi + 1) * (hi + 1) := Int.mul_le_mul (by omega) (by omega) (by omega) (by omega)
      have a2 : (hi + 1) * (hi + 1) ≤ 9223372036854775808 * (hi + 1) := Int.mul_le_mul_of_nonneg_right (by omega) (by omega)
      unfold wv at *
      omega
  have hr0 : 0 < r := by omega
  have n := newton s0 s2 s3 hr0 hr.1
  refine ⟨by omega, Int.ediv_nonneg hV.1 (by omega), ?_, hr0, n.1, n.2⟩
  have : wv hi lo / r < 18446744073709551616 := by
    apply Int.ediv_lt_of_lt_mul hr0
    have : (hi + 1) * 18446744073709551616 ≤ r * 18446744073709551616 := by omega
    unfold wv; omega
  omega

/-- Where Newton's begins. -/
theorem root128_start {hi lo : Int} (h1 : 1 ≤ hi ∧ hi ≤ 9223372036854775807) (h2 : 0 ≤ lo ∧ lo ≤ 18446744073709551615) {k : Nat} (hk : (2 : Int) ^ k > hi) (e : Nat) (he : k + 64 ≤ 2 * e) : isq (wv hi lo) ≤ 2 ^ e := by
  have hV : 0 ≤ wv hi lo ∧ wv hi lo < 170141183460469231731687303715884105728 := by unfold wv; omega
  obtain ⟨s0, s1, s2, s3⟩ := isq_spec (n := wv hi lo) hV.1 (by omega)
  have p1 : wv hi lo < 2 ^ k * 18446744073709551616 := by unfold wv; omega
  have p2 : (2 : Int) ^ k * 18446744073709551616 = 2 ^ (k + 64) := by rw [Int.pow_add]; congr 1
  have p3 : (2 : Int) ^ (k + 64) ≤ 2 ^ (2 * e) := by
    have := Nat.pow_le_pow_right (n := 2) (by decide) he
    exact_mod_cast this
  have p4 : (2 : Int) ^ (2 * e) = 2 ^ e * 2 ^ e := by rw [← Int.pow_add]; congr 1; omega
  have p0 : (0 : Int) < 2 ^ e := Int.pow_pos (by decide)
  have : isq (wv hi lo) < 2 ^ e + 1 := by
    apply sq_lt s0 (by omega)
    have : (2 ^ e : Int) * 2 ^ e < (2 ^ e + 1) * (2 ^ e + 1) := by
      rw [Int.add_mul, Int.mul_add]; omega
    omega
  omega

end Go.Sky

/- Trees of functions, and what they come to. -/
set_option linter.unusedSimpArgs false
set_option linter.unusedVariables false
namespace Go.Sky
set_option maxRecDepth 100000

/-! wide.Add -/
def tr_wide_Add (a_hi : Int) (a_lo : Int) (b_hi : Int) (b_lo : Int) : Tr AV := Tr.node true (Tr.node (decide (0 ≤ (a_lo + b_lo + 0) / 18446744073709551616 ∧ (a_lo + b_lo + 0) / (18446744073709551616 : Int) ≤ 1)) (Tr.leaf (AV.agg [AV.int IntKind.i64 false (IntKind.i64.wrap ((IntKind.u64.wrap a_hi + IntKind.u64.wrap b_hi + (a_lo + b_lo + 0) / 18446744073709551616) % 18446744073709551616)), AV.int IntKind.u64 false ((a_lo + b_lo + 0) % 18446744073709551616)])) Tr.bad) Tr.bad
theorem run_wide_Add (a_hi : Int) (a_lo : Int) (b_hi : Int) (b_lo : Int) (h_a_hi : InR .i64 a_hi) (h_a_lo : InR .u64 a_lo) (h_b_hi : InR .i64 b_hi) (h_b_lo : InR .u64 b_lo) : (tr_wide_Add a_hi a_lo b_hi b_lo).run = some (wA (wv a_hi a_lo + wv b_hi b_lo)) := by
  unfold tr_wide_Add
  have ha_hi := inR_i64.1 h_a_hi
  have hb_hi := inR_i64.1 h_b_hi
  have ha_lo := inR_u64.1 h_a_lo
  have hb_lo := inR_u64.1 h_b_lo
  
  obtain ⟨e1, e2⟩ := add_halves ha_hi ha_lo hb_hi hb_lo
  rw [e1, e2]
  refine (run_t rfl).trans ((run_t (decide_eq_true (by omega))).trans ?_)
  rfl

/-! wide.Sub -/
def tr_wide_Sub (a_hi : Int) (a_lo : Int) (b_hi : Int) (b_lo : Int) : Tr AV := Tr.node true (Tr.node (decide (0 ≤ brw a_lo (b_lo + 0) ∧ brw a_lo (b_lo + 0) ≤ 1)) (Tr.leaf (AV.agg [AV.int IntKind.i64 false (IntKind.i64.wrap ((IntKind.u64.wrap a_hi - IntKind.u64.wrap b_hi - brw a_lo (b_lo + 0)) % 18446744073709551616)), AV.int IntKind.u64 false ((a_lo - b_lo - 0) % 18446744073709551616)])) Tr.bad) Tr.bad
theorem run_wide_Sub (a_hi : Int) (a_lo : Int) (b_hi : Int) (b_lo : Int) (h_a_hi : InR .i64 a_hi) (h_a_lo : InR .u64 a_lo) (h_b_hi : InR .i64 b_hi) (h_b_lo : InR .u64 b_lo) : (tr_wide_Sub a_hi a_lo b_hi b_lo).run = some (wA (wv a_hi a_lo - wv b_hi b_lo)) := by
  unfold tr_wide_Sub
  have ha_hi := inR_i64.1 h_a_hi
  have hb_hi := inR_i64.1 h_b_hi
  have ha_lo := inR_u64.1 h_a_lo
  have hb_lo := inR_u64.1 h_b_lo
  
  obtain ⟨e1, e2⟩ := sub_halves ha_hi ha_lo hb_hi hb_lo
  rw [e1, e2]
  refine (run_t rfl).trans ((run_t (decide_eq_true (brw_r _ _))).trans ?_)
  rfl

/-! wide.Root, block 0 -/
def st_wide_Root_0 (r : Int) (a_hi : Int) (a_lo : Int) (x0 x2 x3 x5 x6 x7 x8 x9 x10 x11 x12 x13 x14 x15 x16 x17 x18 x19 x20 x21 x22 x23 x24 x25 x26 x27 x28 x29 x30 x31 x32 x33 x34 x35 x36 x37 x38 x39 x40 x41 x42 x43 x44 x45 x46 x47 x48 x49 x50 x51 x52 x53 x54 x55 : AV) : St := ⟨[x0, .ptr (some (0, 0)), x2, x3, .int .u64 false r, x5, x6, x7, x8, x9, x10, x11, x12, x13, x14, x15, x16, x17, x18, x19, x20, x21, x22, x23, x24, x25, x26, x27, x28, x29, x30, x31, x32, x33, x34, x35, x36, x37, x38, x39, x40, x41, x42, x43, x44, x45, x46, x47, x48, x49, x50, x51, x52, x53, x54, x55], [[.int .i64 false a_hi, .int .u64 false a_lo]]⟩
def kl_wide_Root_0 (r : Int) (a_hi : Int) (a_lo : Int) (x0 x2 x3 x5 x6 x7 x8 x9 x10 x11 x12 x13 x14 x15 x16 x17 x18 x19 x20 x21 x22 x23 x24 x25 x26 x27 x28 x29 x30 x31 x32 x33 x34 x35 x36 x37 x38 x39 x40 x41 x42 x43 x44 x45 x46 x47 x48 x49 x50 x51 x52 x53 x54 x55 : AV) : List AV := [untag x0, untag (.ptr (some (0, 0))), .undef, .undef, .undef, .undef, .undef, .undef, .undef, .undef, untag x10, untag x11, untag x12, untag x13, untag x14, untag x15, untag x16, untag x17, untag x18, untag x19, untag x20, untag x21, untag x22, untag x23, untag x24, untag x25, untag x26, untag x27, untag x28, untag x29, .undef, .undef, .undef, .undef, .undef, .undef, .undef, .undef, .undef, .undef, .undef, .undef, .undef, .undef, .undef, .undef, .undef, .undef, .undef, .undef, .undef, .undef, .undef, .undef, .undef, .undef]
def sl_wide_Root_0_0 (r : Int) (a_hi : Int) (a_lo : Int) (x0 x2 x3 x5 x6 x7 x8 x9 x10 x11 x12 x13 x14 x15 x16 x17 x18 x19 x20 x21 x22 x23 x24 x25 x26 x27 x28 x29 x30 x31 x32 x33 x34 x35 x36 x37 x38 x39 x40 x41 x42 x43 x44 x45 x46 x47 x48 x49 x50 x51 x52 x53 x54 x55 : AV) : St := ⟨[x0, AV.ptr (some (0, 0)), AV.int IntKind.u64 false r, AV.bool true true, AV.int IntKind.u64 false r, AV.int IntKind.u64 false ((IntKind.u64.wrap a_hi * 18446744073709551616 + a_lo) / r), AV.int IntKind.u64 false ((IntKind.u64.wrap a_hi * 18446744073709551616 + a_lo) % r), AV.int IntKind.u64 false ((r + (IntKind.u64.wrap a_hi * 18446744073709551616 + a_lo) / r + 0) % 18446744073709551616), AV.int IntKind.u64 false ((r + (IntKind.u64.wrap a_hi * 18446744073709551616 + a_lo) / r + 0) / 18446744073709551616), AV.int IntKind.u64 false (bits BinOp.or IntKind.u64 (((r + (IntKind.u64.wrap a_hi * 18446744073709551616 + a_lo) / r + 0) % 18446744073709551616).fdiv 2) (IntKind.u64.wrap ((r + (IntKind.u64.wrap a_hi * 18446744073709551616 + a_lo) / r + 0) / 18446744073709551616 * 9223372036854775808))), x10, x11, x12, x13, x14, x15, x16, x17, x18, x19, x20, x21, x22, x23, x24, x25, x26, x27, x28, x29, AV.tuple [AV.int IntKind.u64 false ((IntKind.u64.wrap a_hi * 18446744073709551616 + a_lo) / r), AV.int IntKind.u64 false ((IntKind.u64.wrap a_hi * 18446744073709551616 + a_lo) % r)], AV.ptr (some (0, 0)), AV.int IntKind.i64 false a_hi, AV.int IntKind.u64 false (IntKind.u64.wrap a_hi), AV.ptr (some (0, 1)), AV.int IntKind.u64 false a_lo, AV.int IntKind.u64 false r, AV.tuple [AV.int IntKind.u64 false ((IntKind.u64.wrap a_hi * 18446744073709551616 + a_lo) / r), AV.int IntKind.u64 false ((IntKind.u64.wrap a_hi * 18446744073709551616 + a_lo) % r)], AV.int IntKind.u64 false ((IntKind.u64.wrap a_hi * 18446744073709551616 + a_lo) / r), AV.int IntKind.u64 false ((IntKind.u64.wrap a_hi * 18446744073709551616 + a_lo) % r), AV.tuple [AV.int IntKind.u64 false ((r + (IntKind.u64.wrap a_hi * 18446744073709551616 + a_lo) / r + 0) % 18446744073709551616), AV.int IntKind.u64 false ((r + (IntKind.u64.wrap a_hi * 18446744073709551616 + a_lo) / r + 0) / 18446744073709551616)], AV.int IntKind.u64 false r, AV.int IntKind.u64 false ((IntKind.u64.wrap a_hi * 18446744073709551616 + a_lo) / r), AV.tuple [AV.int IntKind.u64 false ((r + (IntKind.u64.wrap a_hi * 18446744073709551616 + a_lo) / r + 0) % 18446744073709551616), AV.int IntKind.u64 false ((r + (IntKind.u64.wrap a_hi * 18446744073709551616 + a_lo) / r + 0) / 18446744073709551616)], AV.int IntKind.u64 false ((r + (IntKind.u64.wrap a_hi * 18446744073709551616 + a_lo) / r + 0) % 18446744073709551616), AV.int IntKind.u64 false ((r + (IntKind.u64.wrap a_hi * 18446744073709551616 + a_lo) / r + 0) / 18446744073709551616), AV.int IntKind.u64 false ((r + (IntKind.u64.wrap a_hi * 18446744073709551616 + a_lo) / r + 0) % 18446744073709551616), AV.int IntKind.u64 false (((r + (IntKind.u64.wrap a_hi * 18446744073709551616 + a_lo) / r + 0) % 18446744073709551616).fdiv 2), AV.int IntKind.u64 false ((r + (IntKind.u64.wrap a_hi * 18446744073709551616 + a_lo) / r + 0) / 18446744073709551616), AV.int IntKind.u64 false (IntKind.u64.wrap ((r + (IntKind.u64.wrap a_hi * 18446744073709551616 + a_lo) / r + 0) / 18446744073709551616 * 9223372036854775808)), AV.int IntKind.u64 false (bits BinOp.or IntKind.u64 (((r + (IntKind.u64.wrap a_hi * 18446744073709551616 + a_lo) / r + 0) % 18446744073709551616).fdiv 2) (IntKind.u64.wrap ((r + (IntKind.u64.wrap a_hi * 18446744073709551616 + a_lo) / r + 0) / 18446744073709551616 * 9223372036854775808))), AV.int IntKind.u64 false (bits BinOp.or IntKind.u64 (((r + (IntKind.u64.wrap a_hi * 18446744073709551616 + a_lo) / r + 0) % 18446744073709551616).fdiv 2) (IntKind.u64.wrap ((r + (IntKind.u64.wrap a_hi * 18446744073709551616 + a_lo) / r + 0) / 18446744073709551616 * 9223372036854775808))), AV.int IntKind.u64 false r, AV.bool false (decide (bits BinOp.or IntKind.u64 (((r + (IntKind.u64.wrap a_hi * 18446744073709551616 + a_lo) / r + 0) % 18446744073709551616).fdiv 2) (IntKind.u64.wrap ((r + (IntKind.u64.wrap a_hi * 18446744073709551616 + a_lo) / r + 0) / 18446744073709551616 * 9223372036854775808)) ≥ r)), AV.int IntKind.u64 false r, x55], [[AV.int IntKind.i64 false a_hi, AV.int IntKind.u64 false a_lo]]⟩
def sl_wide_Root_0_1 (r : Int) (a_hi : Int) (a_lo : Int) (x0 x2 x3 x5 x6 x7 x8 x9 x10 x11 x12 x13 x14 x15 x16 x17 x18 x19 x20 x21 x22 x23 x24 x25 x26 x27 x28 x29 x30 x31 x32 x33 x34 x35 x36 x37 x38 x39 x40 x41 x42 x43 x44 x45 x46 x47 x48 x49 x50 x51 x52 x53 x54 x55 : AV) : St := ⟨[x0, AV.ptr (some (0, 0)), x2, x3, AV.int IntKind.u64 false (bits BinOp.or IntKind.u64 (((r + (IntKind.u64.wrap a_hi * 18446744073709551616 + a_lo) / r + 0) % 18446744073709551616).fdiv 2) (IntKind.u64.wrap ((r + (IntKind.u64.wrap a_hi * 18446744073709551616 + a_lo) / r + 0) / 18446744073709551616 * 9223372036854775808))), AV.int IntKind.u64 false ((IntKind.u64.wrap a_hi * 18446744073709551616 + a_lo) / r), AV.int IntKind.u64 false ((IntKind.u64.wrap a_hi * 18446744073709551616 + a_lo) % r), AV.int IntKind.u64 false ((r + (IntKind.u64.wrap a_hi * 18446744073709551616 + a_lo) / r + 0) % 18446744073709551616), AV.int IntKind.u64 false ((r + (IntKind.u64.wrap a_hi * 18446744073709551616 + a_lo) / r + 0) / 18446744073709551616), AV.int IntKind.u64 false (bits BinOp.or IntKind.u64 (((r + (IntKind.u64.wrap a_hi * 18446744073709551616 + a_lo) / r + 0) % 18446744073709551616).fdiv 2) (IntKind.u64.wrap ((r + (IntKind.u64.wrap a_hi * 18446744073709551616 + a_lo) / r + 0) / 18446744073709551616 * 9223372036854775808))), x10, x11, x12, x13, x14, x15, x16, x17, x18, x19, x20, x21, x22, x23, x24, x25, x26, x27, x28, x29, AV.tuple [AV.int IntKind.u64 false ((IntKind.u64.wrap a_hi * 18446744073709551616 + a_lo) / r), AV.int IntKind.u64 false ((IntKind.u64.wrap a_hi * 18446744073709551616 + a_lo) % r)], AV.ptr (some (0, 0)), AV.int IntKind.i64 false a_hi, AV.int IntKind.u64 false (IntKind.u64.wrap a_hi), AV.ptr (some (0, 1)), AV.int IntKind.u64 false a_lo, AV.int IntKind.u64 false r, AV.tuple [AV.int IntKind.u64 false ((IntKind.u64.wrap a_hi * 18446744073709551616 + a_lo) / r), AV.int IntKind.u64 false ((IntKind.u64.wrap a_hi * 18446744073709551616 + a_lo) % r)], AV.int IntKind.u64 false ((IntKind.u64.wrap a_hi * 18446744073709551616 + a_lo) / r), AV.int IntKind.u64 false ((IntKind.u64.wrap a_hi * 18446744073709551616 + a_lo) % r), AV.tuple [AV.int IntKind.u64 false ((r + (IntKind.u64.wrap a_hi * 18446744073709551616 + a_lo) / r + 0) % 18446744073709551616), AV.int IntKind.u64 false ((r + (IntKind.u64.wrap a_hi * 18446744073709551616 + a_lo) / r + 0) / 18446744073709551616)], AV.int IntKind.u64 false r, AV.int IntKind.u64 false ((IntKind.u64.wrap a_hi * 18446744073709551616 + a_lo) / r), AV.tuple [AV.int IntKind.u64 false ((r + (IntKind.u64.wrap a_hi * 18446744073709551616 + a_lo) / r + 0) % 18446744073709551616), AV.int IntKind.u64 false ((r + (IntKind.u64.wrap a_hi * 18446744073709551616 + a_lo) / r + 0) / 18446744073709551616)], AV.int IntKind.u64 false ((r + (IntKind.u64.wrap a_hi * 18446744073709551616 + a_lo) / r + 0) % 18446744073709551616), AV.int IntKind.u64 false ((r + (IntKind.u64.wrap a_hi * 18446744073709551616 + a_lo) / r + 0) / 18446744073709551616), AV.int IntKind.u64 false ((r + (IntKind.u64.wrap a_hi * 18446744073709551616 + a_lo) / r + 0) % 18446744073709551616), AV.int IntKind.u64 false (((r + (IntKind.u64.wrap a_hi * 18446744073709551616 + a_lo) / r + 0) % 18446744073709551616).fdiv 2), AV.int IntKind.u64 false ((r + (IntKind.u64.wrap a_hi * 18446744073709551616 + a_lo) / r + 0) / 18446744073709551616), AV.int IntKind.u64 false (IntKind.u64.wrap ((r + (IntKind.u64.wrap a_hi * 18446744073709551616 + a_lo) / r + 0) / 18446744073709551616 * 9223372036854775808)), AV.int IntKind.u64 false (bits BinOp.or IntKind.u64 (((r + (IntKind.u64.wrap a_hi * 18446744073709551616 + a_lo) / r + 0) % 18446744073709551616).fdiv 2) (IntKind.u64.wrap ((r + (IntKind.u64.wrap a_hi * 18446744073709551616 + a_lo) / r + 0) / 18446744073709551616 * 9223372036854775808))), AV.int IntKind.u64 false (bits BinOp.or IntKind.u64 (((r + (IntKind.u64.wrap a_hi * 18446744073709551616 + a_lo) / r + 0) % 18446744073709551616).fdiv 2) (IntKind.u64.wrap ((r + (IntKind.u64.wrap a_hi * 18446744073709551616 + a_lo) / r + 0) / 18446744073709551616 * 9223372036854775808))), AV.int IntKind.u64 false r, AV.bool false (decide (bits BinOp.or IntKind.u64 (((r + (IntKind.u64.wrap a_hi * 18446744073709551616 + a_lo) / r + 0) % 18446744073709551616).fdiv 2) (IntKind.u64.wrap ((r + (IntKind.u64.wrap a_hi * 18446744073709551616 + a_lo) / r + 0) / 18446744073709551616 * 9223372036854775808)) ≥ r)), x54, AV.int IntKind.u64 false (bits BinOp.or IntKind.u64 (((r + (IntKind.u64.wrap a_hi * 18446744073709551616 + a_lo) / r + 0) % 18446744073709551616).fdiv 2) (IntKind.u64.wrap ((r + (IntKind.u64.wrap a_hi * 18446744073709551616 + a_lo) / r + 0) / 18446744073709551616 * 9223372036854775808)))], [[AV.int IntKind.i64 false a_hi, AV.int IntKind.u64 false a_lo]]⟩
def rd_wide_Root_0 (r : Int) (a_hi : Int) (a_lo : Int) (x0 x2 x3 x5 x6 x7 x8 x9 x10 x11 x12 x13 x14 x15 x16 x17 x18 x19 x20 x21 x22 x23 x24 x25 x26 x27 x28 x29 x30 x31 x32 x33 x34 x35 x36 x37 x38 x39 x40 x41 x42 x43 x44 x45 x46 x47 x48 x49 x50 x51 x52 x53 x54 x55 : AV) : Tr (Ex × St) := Tr.node (decide (IntKind.u64.wrap a_hi < r)) (Tr.node true (Tr.node (decide (bits BinOp.or IntKind.u64 (((r + (IntKind.u64.wrap a_hi * 18446744073709551616 + a_lo) / r + 0) % 18446744073709551616).fdiv 2) (IntKind.u64.wrap ((r + (IntKind.u64.wrap a_hi * 18446744073709551616 + a_lo) / r + 0) / 18446744073709551616 * 9223372036854775808)) ≥ r)) (Tr.leaf (Ex.ret, sl_wide_Root_0_0 r a_hi a_lo x0 x2 x3 x5 x6 x7 x8 x9 x10 x11 x12 x13 x14 x15 x16 x17 x18 x19 x20 x21 x22 x23 x24 x25 x26 x27 x28 x29 x30 x31 x32 x33 x34 x35 x36 x37 x38 x39 x40 x41 x42 x43 x44 x45 x46 x47 x48 x49 x50 x51 x52 x53 x54 x55)) (Tr.leaf (Ex.normal, sl_wide_Root_0_1 r a_hi a_lo x0 x2 x3 x5 x6 x7 x8 x9 x10 x11 x12 x13 x14 x15 x16 x17 x18 x19 x20 x21 x22 x23 x24 x25 x26 x27 x28 x29 x30 x31 x32 x33 x34 x35 x36 x37 x38 x39 x40 x41 x42 x43 x44 x45 x46 x47 x48 x49 x50 x51 x52 x53 x54 x55))) (Tr.bad)) (Tr.bad)
def g_wide_Root_0 : PieceTold := fun l h => match l, h with | [.ptr (some (0, 0)), .int .u64 false r], [[.int .i64 false a_hi, .int .u64 false a_lo]] => .node (decide ((1 ≤ a_hi ∧ a_hi ≤ 9223372036854775807) ∧ (0 ≤ a_lo ∧ a_lo ≤ 18446744073709551615) ∧ (isq (wv a_hi a_lo) ≤ r ∧ r ≤ 18446744073709551615))) (.leaf (.ret, [(2, u6 (isq (wv a_hi a_lo))), (3, bb true)], [[.int .i64 false a_hi, .int .u64 false a_lo]])) .bad | _, _ => .bad
def HR_wide_Root_0 (rnd : Nat → St → Tr (Ex × St)) : Prop := ∀ L (r : Int) (a_hi : Int) (a_lo : Int) (x0 x2 x3 x5 x6 x7 x8 x9 x10 x11 x12 x13 x14 x15 x16 x17 x18 x19 x20 x21 x22 x23 x24 x25 x26 x27 x28 x29 x30 x31 x32 x33 x34 x35 x36 x37 x38 x39 x40 x41 x42 x43 x44 x45 x46 x47 x48 x49 x50 x51 x52 x53 x54 x55 : AV), rnd L (st_wide_Root_0 r a_hi a_lo x0 x2 x3 x5 x6 x7 x8 x9 x10 x11 x12 x13 x14 x15 x16 x17 x18 x19 x20 x21 x22 x23 x24 x25 x26 x27 x28 x29 x30 x31 x32 x33 x34 x35 x36 x37 x38 x39 x40 x41 x42 x43 x44 x45 x46 x47 x48 x49 x50 x51 x52 x53 x54 x55) = rd_wide_Root_0 r a_hi a_lo x0 x2 x3 x5 x6 x7 x8 x9 x10 x11 x12 x13 x14 x15 x16 x17 x18 x19 x20 x21 x22 x23 x24 x25 x26 x27 x28 x29 x30 x31 x32 x33 x34 x35 x36 x37 x38 x39 x40 x41 x42 x43 x44 x45 x46 x47 x48 x49 x50 x51 x52 x53 x54 x55
/-- From here the loop ends so. -/
def Fin_wide_Root_0 (rnd : Nat → St → Tr (Ex × St)) (r : Int) (a_hi : Int) (a_lo : Int) (e : Ex) (outs : List (Nat × AV)) (hp : AH → AH) : Prop := ∀ (x0 x2 x3 x5 x6 x7 x8 x9 x10 x11 x12 x13 x14 x15 x16 x17 x18 x19 x20 x21 x22 x23 x24 x25 x26 x27 x28 x29 x30 x31 x32 x33 x34 x35 x36 x37 x38 x39 x40 x41 x42 x43 x44 x45 x46 x47 x48 x49 x50 x51 x52 x53 x54 x55 : AV),
    ∃ N s', (∀ L, (loopIterG none (rnd L) (N + 1) (st_wide_Root_0 r a_hi a_lo x0 x2 x3 x5 x6 x7 x8 x9 x10 x11 x12 x13 x14 x15 x16 x17 x18 x19 x20 x21 x22 x23 x24 x25 x26 x27 x28 x29 x30 x31 x32 x33 x34 x35 x36 x37 x38 x39 x40 x41 x42 x43 x44 x45 x46 x47 x48 x49 x50 x51 x52 x53 x54 x55)).run = some (e, s')) ∧ Leaves none 56 [2, 3, 4, 5, 6, 7, 8, 9, 30, 31, 32, 33, 34, 35, 36, 37, 38, 39, 40, 41, 42, 43, 44, 45, 46, 47, 48, 49, 50, 51, 52, 53, 54, 55] (st_wide_Root_0 r a_hi a_lo x0 x2 x3 x5 x6 x7 x8 x9 x10 x11 x12 x13 x14 x15 x16 x17 x18 x19 x20 x21 x22 x23 x24 x25 x26 x27 x28 x29 x30 x31 x32 x33 x34 x35 x36 x37 x38 x39 x40 x41 x42 x43 x44 x45 x46 x47 x48 x49 x50 x51 x52 x53 x54 x55).tmps outs (hp ([[.int .i64 false a_hi, .int .u64 false a_lo]])) s'
theorem stop_wide_Root_0_0 {rnd : Nat → St → Tr (Ex × St)} (hr : HR_wide_Root_0 rnd) (r : Int) (a_hi : Int) (a_lo : Int) (c0 : (decide (IntKind.u64.wrap a_hi < r)) = true) (c1 : true = true) (c2 : (decide (bits BinOp.or IntKind.u64 (((r + (IntKind.u64.wrap a_hi * 18446744073709551616 + a_lo) / r + 0) % 18446744073709551616).fdiv 2) (IntKind.u64.wrap ((r + (IntKind.u64.wrap a_hi * 18446744073709551616 + a_lo) / r + 0) / 18446744073709551616 * 9223372036854775808)) ≥ r)) = true) {outs : List (Nat × AV)} {hp : AH → AH} (ho : ∀ (x0 x2 x3 x5 x6 x7 x8 x9 x10 x11 x12 x13 x14 x15 x16 x17 x18 x19 x20 x21 x22 x23 x24 x25 x26 x27 x28 x29 x30 x31 x32 x33 x34 x35 x36 x37 x38 x39 x40 x41 x42 x43 x44 x45 x46 x47 x48 x49 x50 x51 x52 x53 x54 x55 : AV), outs.map (fun p => untag ((sl_wide_Root_0_0 r a_hi a_lo x0 x2 x3 x5 x6 x7 x8 x9 x10 x11 x12 x13 x14 x15 x16 x17 x18 x19 x20 x21 x22 x23 x24 x25 x26 x27 x28 x29 x30 x31 x32 x33 x34 x35 x36 x37 x38 x39 x40 x41 x42 x43 x44 x45 x46 x47 x48 x49 x50 x51 x52 x53 x54 x55).tmps.getD p.1 .undef)) = outs.map (fun p => untag p.2)) (hh : ∀ h : AH, ([[AV.int IntKind.i64 false a_hi, AV.int IntKind.u64 false a_lo]]).map untagL = (hp ([[.int .i64 false a_hi, .int .u64 false a_lo]])).map untagL) : Fin_wide_Root_0 rnd r a_hi a_lo (.ret) outs hp := by
  intro x0 x2 x3 x5 x6 x7 x8 x9 x10 x11 x12 x13 x14 x15 x16 x17 x18 x19 x20 x21 x22 x23 x24 x25 x26 x27 x28 x29 x30 x31 x32 x33 x34 x35 x36 x37 x38 x39 x40 x41 x42 x43 x44 x45 x46 x47 x48 x49 x50 x51 x52 x53 x54 x55
  refine ⟨0, gcSt none (sl_wide_Root_0_0 r a_hi a_lo x0 x2 x3 x5 x6 x7 x8 x9 x10 x11 x12 x13 x14 x15 x16 x17 x18 x19 x20 x21 x22 x23 x24 x25 x26 x27 x28 x29 x30 x31 x32 x33 x34 x35 x36 x37 x38 x39 x40 x41 x42 x43 x44 x45 x46 x47 x48 x49 x50 x51 x52 x53 x54 x55), fun L => ?_, Leaves.stop (s1 := sl_wide_Root_0_0 r a_hi a_lo x0 x2 x3 x5 x6 x7 x8 x9 x10 x11 x12 x13 x14 x15 x16 x17 x18 x19 x20 x21 x22 x23 x24 x25 x26 x27 x28 x29 x30 x31 x32 x33 x34 x35 x36 x37 x38 x39 x40 x41 x42 x43 x44 x45 x46 x47 x48 x49 x50 x51 x52 x53 x54 x55) (hh []) rfl (ho x0 x2 x3 x5 x6 x7 x8 x9 x10 x11 x12 x13 x14 x15 x16 x17 x18 x19 x20 x21 x22 x23 x24 x25 x26 x27 x28 x29 x30 x31 x32 x33 x34 x35 x36 x37 x38 x39 x40 x41 x42 x43 x44 x45 x46 x47 x48 x49 x50 x51 x52 x53 x54 x55) ((show _ = kl_wide_Root_0 r a_hi a_lo x0 x2 x3 x5 x6 x7 x8 x9 x10 x11 x12 x13 x14 x15 x16 x17 x18 x19 x20 x21 x22 x23 x24 x25 x26 x27 x28 x29 x30 x31 x32 x33 x34 x35 x36 x37 x38 x39 x40 x41 x42 x43 x44 x45 x46 x47 x48 x49 x50 x51 x52 x53 x54 x55 from rfl).trans (show kl_wide_Root_0 r a_hi a_lo x0 x2 x3 x5 x6 x7 x8 x9 x10 x11 x12 x13 x14 x15 x16 x17 x18 x19 x20 x21 x22 x23 x24 x25 x26 x27 x28 x29 x30 x31 x32 x33 x34 x35 x36 x37 x38 x39 x40 x41 x42 x43 x44 x45 x46 x47 x48 x49 x50 x51 x52 x53 x54 x55 = _ from rfl))⟩
  rw [loopIterG, hr L r a_hi a_lo x0 x2 x3 x5 x6 x7 x8 x9 x10 x11 x12 x13 x14 x15 x16 x17 x18 x19 x20 x21 x22 x23 x24 x25 x26 x27 x28 x29 x30 x31 x32 x33 x34 x35 x36 x37 x38 x39 x40 x41 x42 x43 x44 x45 x46 x47 x48 x49 x50 x51 x52 x53 x54 x55, Tr.run_bind, show (rd_wide_Root_0 r a_hi a_lo x0 x2 x3 x5 x6 x7 x8 x9 x10 x11 x12 x13 x14 x15 x16 x17 x18 x19 x20 x21 x22 x23 x24 x25 x26 x27 x28 x29 x30 x31 x32 x33 x34 x35 x36 x37 x38 x39 x40 x41 x42 x43 x44 x45 x46 x47 x48 x49 x50 x51 x52 x53 x54 x55).run = some (.ret, sl_wide_Root_0_0 r a_hi a_lo x0 x2 x3 x5 x6 x7 x8 x9 x10 x11 x12 x13 x14 x15 x16 x17 x18 x19 x20 x21 x22 x23 x24 x25 x26 x27 x28 x29 x30 x31 x32 x33 x34 x35 x36 x37 x38 x39 x40 x41 x42 x43 x44 x45 x46 x47 x48 x49 x50 x51 x52 x53 x54 x55) from (run_t c0).trans ((run_t c1).trans ((run_t c2).trans (rfl)))]
  rfl
theorem step_wide_Root_0_1 {rnd : Nat → St → Tr (Ex × St)} (hr : HR_wide_Root_0 rnd) (r : Int) (a_hi : Int) (a_lo : Int) (c0 : (decide (IntKind.u64.wrap a_hi < r)) = true) (c1 : true = true) (c2 : (decide (bits BinOp.or IntKind.u64 (((r + (IntKind.u64.wrap a_hi * 18446744073709551616 + a_lo) / r + 0) % 18446744073709551616).fdiv 2) (IntKind.u64.wrap ((r + (IntKind.u64.wrap a_hi * 18446744073709551616 + a_lo) / r + 0) / 18446744073709551616 * 9223372036854775808)) ≥ r)) = false) {e : Ex} {outs : List (Nat × AV)} {hp : AH → AH} (hh : hp ([[AV.int IntKind.i64 false a_hi, AV.int IntKind.u64 false a_lo]]) = hp ([[.int .i64 false a_hi, .int .u64 false a_lo]])) (hn : Fin_wide_Root_0 rnd ((bits BinOp.or IntKind.u64 (((r + (IntKind.u64.wrap a_hi * 18446744073709551616 + a_lo) / r + 0) % 18446744073709551616).fdiv 2) (IntKind.u64.wrap ((r + (IntKind.u64.wrap a_hi * 18446744073709551616 + a_lo) / r + 0) / 18446744073709551616 * 9223372036854775808)))) (a_hi) (a_lo) e outs hp) : Fin_wide_Root_0 rnd r a_hi a_lo e outs hp := by
  intro x0 x2 x3 x5 x6 x7 x8 x9 x10 x11 x12 x13 x14 x15 x16 x17 x18 x19 x20 x21 x22 x23 x24 x25 x26 x27 x28 x29 x30 x31 x32 x33 x34 x35 x36 x37 x38 x39 x40 x41 x42 x43 x44 x45 x46 x47 x48 x49 x50 x51 x52 x53 x54 x55
  obtain ⟨N, s', h1, h2⟩ := hn (x0) (x2) (x3) (AV.int IntKind.u64 false ((IntKind.u64.wrap a_hi * 18446744073709551616 + a_lo) / r)) (AV.int IntKind.u64 false ((IntKind.u64.wrap a_hi * 18446744073709551616 + a_lo) % r)) (AV.int IntKind.u64 false ((r + (IntKind.u64.wrap a_hi * 18446744073709551616 + a_lo) / r + 0) % 18446744073709551616)) (AV.int IntKind.u64 false ((r + (IntKind.u64.wrap a_hi * 18446744073709551616 + a_lo) / r + 0) / 18446744073709551616)) (AV.int IntKind.u64 false (bits BinOp.or IntKind.u64 (((r + (IntKind.u64.wrap a_hi * 18446744073709551616 + a_lo) / r + 0) % 18446744073709551616).fdiv 2) (IntKind.u64.wrap ((r + (IntKind.u64.wrap a_hi * 18446744073709551616 + a_lo) / r + 0) / 18446744073709551616 * 9223372036854775808)))) (x10) (x11) (x12) (x13) (x14) (x15) (x16) (x17) (x18) (x19) (x20) (x21) (x22) (x23) (x24) (x25) (x26) (x27) (x28) (x29) (AV.tuple [AV.int IntKind.u64 false ((IntKind.u64.wrap a_hi * 18446744073709551616 + a_lo) / r), AV.int IntKind.u64 false ((IntKind.u64.wrap a_hi * 18446744073709551616 + a_lo) % r)]) (AV.ptr (some (0, 0))) (AV.int IntKind.i64 false a_hi) (AV.int IntKind.u64 false (IntKind.u64.wrap a_hi)) (AV.ptr (some (0, 1))) (AV.int IntKind.u64 false a_lo) (AV.int IntKind.u64 false r) (AV.tuple [AV.int IntKind.u64 false ((IntKind.u64.wrap a_hi * 18446744073709551616 + a_lo) / r), AV.int IntKind.u64 false ((IntKind.u64.wrap a_hi * 18446744073709551616 + a_lo) % r)]) (AV.int IntKind.u64 false ((IntKind.u64.wrap a_hi * 18446744073709551616 + a_lo) / r)) (AV.int IntKind.u64 false ((IntKind.u64.wrap a_hi * 18446744073709551616 + a_lo) % r)) (AV.tuple [AV.int IntKind.u64 false ((r + (IntKind.u64.wrap a_hi * 18446744073709551616 + a_lo) / r + 0) % 18446744073709551616), AV.int IntKind.u64 false ((r + (IntKind.u64.wrap a_hi * 18446744073709551616 + a_lo) / r + 0) / 18446744073709551616)]) (AV.int IntKind.u64 false r) (AV.int IntKind.u64 false ((IntKind.u64.wrap a_hi * 18446744073709551616 + a_lo) / r)) (AV.tuple [AV.int IntKind.u64 false ((r + (IntKind.u64.wrap a_hi * 18446744073709551616 + a_lo) / r + 0) % 18446744073709551616), AV.int IntKind.u64 false ((r + (IntKind.u64.wrap a_hi * 18446744073709551616 + a_lo) / r + 0) / 18446744073709551616)]) (AV.int IntKind.u64 false ((r + (IntKind.u64.wrap a_hi * 18446744073709551616 + a_lo) / r + 0) % 18446744073709551616)) (AV.int IntKind.u64 false ((r + (IntKind.u64.wrap a_hi * 18446744073709551616 + a_lo) / r + 0) / 18446744073709551616)) (AV.int IntKind.u64 false ((r + (IntKind.u64.wrap a_hi * 18446744073709551616 + a_lo) / r + 0) % 18446744073709551616)) (AV.int IntKind.u64 false (((r + (IntKind.u64.wrap a_hi * 18446744073709551616 + a_lo) / r + 0) % 18446744073709551616).fdiv 2)) (AV.int IntKind.u64 false ((r + (IntKind.u64.wrap a_hi * 18446744073709551616 + a_lo) / r + 0) / 18446744073709551616)) (AV.int IntKind.u64 false (IntKind.u64.wrap ((r + (IntKind.u64.wrap a_hi * 18446744073709551616 + a_lo) / r + 0) / 18446744073709551616 * 9223372036854775808))) (AV.int IntKind.u64 false (bits BinOp.or IntKind.u64 (((r + (IntKind.u64.wrap a_hi * 18446744073709551616 + a_lo) / r + 0) % 18446744073709551616).fdiv 2) (IntKind.u64.wrap ((r + (IntKind.u64.wrap a_hi * 18446744073709551616 + a_lo) / r + 0) / 18446744073709551616 * 9223372036854775808)))) (AV.int IntKind.u64 false (bits BinOp.or IntKind.u64 (((r + (IntKind.u64.wrap a_hi * 18446744073709551616 + a_lo) / r + 0) % 18446744073709551616).fdiv 2) (IntKind.u64.wrap ((r + (IntKind.u64.wrap a_hi * 18446744073709551616 + a_lo) / r + 0) / 18446744073709551616 * 9223372036854775808)))) (AV.int IntKind.u64 false r) (AV.bool false (decide (bits BinOp.or IntKind.u64 (((r + (IntKind.u64.wrap a_hi * 18446744073709551616 + a_lo) / r + 0) % 18446744073709551616).fdiv 2) (IntKind.u64.wrap ((r + (IntKind.u64.wrap a_hi * 18446744073709551616 + a_lo) / r + 0) / 18446744073709551616 * 9223372036854775808)) ≥ r))) (x54) (AV.int IntKind.u64 false (bits BinOp.or IntKind.u64 (((r + (IntKind.u64.wrap a_hi * 18446744073709551616 + a_lo) / r + 0) % 18446744073709551616).fdiv 2) (IntKind.u64.wrap ((r + (IntKind.u64.wrap a_hi * 18446744073709551616 + a_lo) / r + 0) / 18446744073709551616 * 9223372036854775808))))
  refine ⟨N + 1, s', fun L => ?_, hh ▸ h2.of (s1 := sl_wide_Root_0_1 r a_hi a_lo x0 x2 x3 x5 x6 x7 x8 x9 x10 x11 x12 x13 x14 x15 x16 x17 x18 x19 x20 x21 x22 x23 x24 x25 x26 x27 x28 x29 x30 x31 x32 x33 x34 x35 x36 x37 x38 x39 x40 x41 x42 x43 x44 x45 x46 x47 x48 x49 x50 x51 x52 x53 x54 x55) rfl ((show _ = kl_wide_Root_0 r a_hi a_lo x0 x2 x3 x5 x6 x7 x8 x9 x10 x11 x12 x13 x14 x15 x16 x17 x18 x19 x20 x21 x22 x23 x24 x25 x26 x27 x28 x29 x30 x31 x32 x33 x34 x35 x36 x37 x38 x39 x40 x41 x42 x43 x44 x45 x46 x47 x48 x49 x50 x51 x52 x53 x54 x55 from rfl).trans (show kl_wide_Root_0 r a_hi a_lo x0 x2 x3 x5 x6 x7 x8 x9 x10 x11 x12 x13 x14 x15 x16 x17 x18 x19 x20 x21 x22 x23 x24 x25 x26 x27 x28 x29 x30 x31 x32 x33 x34 x35 x36 x37 x38 x39 x40 x41 x42 x43 x44 x45 x46 x47 x48 x49 x50 x51 x52 x53 x54 x55 = _ from rfl))⟩
  rw [loopIterG, hr L r a_hi a_lo x0 x2 x3 x5 x6 x7 x8 x9 x10 x11 x12 x13 x14 x15 x16 x17 x18 x19 x20 x21 x22 x23 x24 x25 x26 x27 x28 x29 x30 x31 x32 x33 x34 x35 x36 x37 x38 x39 x40 x41 x42 x43 x44 x45 x46 x47 x48 x49 x50 x51 x52 x53 x54 x55, Tr.run_bind, show (rd_wide_Root_0 r a_hi a_lo x0 x2 x3 x5 x6 x7 x8 x9 x10 x11 x12 x13 x14 x15 x16 x17 x18 x19 x20 x21 x22 x23 x24 x25 x26 x27 x28 x29 x30 x31 x32 x33 x34 x35 x36 x37 x38 x39 x40 x41 x42 x43 x44 x45 x46 x47 x48 x49 x50 x51 x52 x53 x54 x55).run = some (.normal, sl_wide_Root_0_1 r a_hi a_lo x0 x2 x3 x5 x6 x7 x8 x9 x10 x11 x12 x13 x14 x15 x16 x17 x18 x19 x20 x21 x22 x23 x24 x25 x26 x27 x28 x29 x30 x31 x32 x33 x34 x35 x36 x37 x38 x39 x40 x41 x42 x43 x44 x45 x46 x47 x48 x49 x50 x51 x52 x53 x54 x55) from (run_t c0).trans ((run_t c1).trans ((run_f c2).trans (rfl)))]
  exact h1 L
theorem core_wide_Root_0 (rnd : Nat → St → Tr (Ex × St)) (hr : HR_wide_Root_0 rnd) : ∀ (r : Int) (a_hi : Int) (a_lo : Int), (1 ≤ a_hi ∧ a_hi ≤ 9223372036854775807) ∧ (0 ≤ a_lo ∧ a_lo ≤ 18446744073709551615) ∧ (isq (wv a_hi a_lo) ≤ r ∧ r ≤ 18446744073709551615) → Fin_wide_Root_0 rnd r a_hi a_lo (.ret) [(2, u6 (isq (wv a_hi a_lo))), (3, bb true)] (fun _ => [[.int .i64 false a_hi, .int .u64 false a_lo]]) := by
  have key : ∀ (k : Nat) (r a_hi a_lo : Int), r.toNat = k → (1 ≤ a_hi ∧ a_hi ≤ 9223372036854775807) ∧ (0 ≤ a_lo ∧ a_lo ≤ 18446744073709551615) ∧ (isq (wv a_hi a_lo) ≤ r ∧ r ≤ 18446744073709551615) →
      Fin_wide_Root_0 rnd r a_hi a_lo (.ret) [(2, u6 (isq (wv a_hi a_lo))), (3, bb true)] (fun _ => [[.int .i64 false a_hi, .int .u64 false a_lo]]) := by
    intro k
    induction k using Nat.strongRecOn with
    | _ k ih =>
      intro r a_hi a_lo hk ⟨h1, h2, h3⟩
      obtain ⟨g1, g2, g3, g4, g5, g6⟩ := root128 h1 h2 h3
      have eh : IntKind.u64.wrap a_hi = a_hi := wrap_u64_id (by omega)
      have eo : Go.bits BinOp.or IntKind.u64 (((r + (a_hi * 18446744073709551616 + a_lo) / r + 0) % 18446744073709551616).fdiv 2) (IntKind.u64.wrap ((r + (a_hi * 18446744073709551616 + a_lo) / r + 0) / 18446744073709551616 * 9223372036854775808)) = (r + wv a_hi a_lo / r) / 2 := by
        rw [show a_hi * 18446744073709551616 + a_lo = wv a_hi a_lo from rfl, Int.fdiv_eq_ediv_of_nonneg _ (by decide)]
        generalize wv a_hi a_lo / r = q at *
        rw [wrap_u64_id (n := (r + q + 0) / 18446744073709551616 * 9223372036854775808) (by omega)]
        have := bits_or2 (s := 63) (a := (r + q + 0) / 18446744073709551616) (b := (r + q + 0) % 18446744073709551616 / 2) (by omega) (by omega) (by omega)
        have p : (2 : Int) ^ 63 = 9223372036854775808 := by decide
        rw [p] at this
        rw [this]
        omega
      by_cases c : (r + wv a_hi a_lo / r) / 2 ≥ r
      · have er := g6 c
        refine stop_wide_Root_0_0 hr r a_hi a_lo (by rw [eh]; exact decide_eq_true g1) rfl (by rw [eh, eo]; exact decide_eq_true c) ?_ (fun h => rfl)
        intros
        simp only [sl_wide_Root_0_0, List.map_cons, List.map_nil, List.getD_cons_succ, List.getD_cons_zero, untag, u6, bb]
        rw [← er]
      · refine step_wide_Root_0_1 hr r a_hi a_lo (by rw [eh]; exact decide_eq_true g1) rfl (by rw [eh, eo]; exact decide_eq_false c) rfl ?_
        rw [eh, eo]
        exact ih _ (by omega) _ a_hi a_lo rfl ⟨h1, h2, g5, by omega⟩
  exact fun r a_hi a_lo hc => key _ r a_hi a_lo rfl hc
theorem piece_wide_Root_0 {P : Program} {T : Table} {O' : Known} {f : FuncId} (hb : blockOf P f 0 = .loop (loopOf P f 0)) (hid : O' 0 = none)
    (hr : HR_wide_Root_0 (fun L => evCode P (evCall P T 16 6) L O' (loopOf P f 0))) :
    ∀ (s : St) (e : Ex) (outs : List (Nat × AV)) (hp : AH), s.tmps.length = 56 → (g_wide_Root_0 (([1, 4] : List Nat).map fun j => untag (s.tmps.getD j .undef)) (s.heap.map untagL)).run = some (e, outs, hp) → ∃ s', Good P T O' f 0 56 [2, 3, 4, 5, 6, 7, 8, 9, 30, 31, 32, 33, 34, 35, 36, 37, 38, 39, 40, 41, 42, 43, 44, 45, 46, 47, 48, 49, 50, 51, 52, 53, 54, 55] s e outs hp s' := by
  intro s e outs hp hk hg
  obtain ⟨tm, h⟩ := s
  have htm : untagL tm = [untag (tm.getD 0 .undef), untag (tm.getD 1 .undef), untag (tm.getD 2 .undef), untag (tm.getD 3 .undef), untag (tm.getD 4 .undef), untag (tm.getD 5 .undef), untag (tm.getD 6 .undef), untag (tm.getD 7 .undef), untag (tm.getD 8 .undef), untag (tm.getD 9 .undef), untag (tm.getD 10 .undef), untag (tm.getD 11 .undef), untag (tm.getD 12 .undef), untag (tm.getD 13 .undef), untag (tm.getD 14 .undef), untag (tm.getD 15 .undef), untag (tm.getD 16 .undef), untag (tm.getD 17 .undef), untag (tm.getD 18 .undef), untag (tm.getD 19 .undef), untag (tm.getD 20 .undef), untag (tm.getD 21 .undef), untag (tm.getD 22 .undef), untag (tm.getD 23 .undef), untag (tm.getD 24 .undef), untag (tm.getD 25 .undef), untag (tm.getD 26 .undef), untag (tm.getD 27 .undef), untag (tm.getD 28 .undef), untag (tm.getD 29 .undef), untag (tm.getD 30 .undef), untag (tm.getD 31 .undef), untag (tm.getD 32 .undef), untag (tm.getD 33 .undef), untag (tm.getD 34 .undef), untag (tm.getD 35 .undef), untag (tm.getD 36 .undef), untag (tm.getD 37 .undef), untag (tm.getD 38 .undef), untag (tm.getD 39 .undef), untag (tm.getD 40 .undef), untag (tm.getD 41 .undef), untag (tm.getD 42 .undef), untag (tm.getD 43 .undef), untag (tm.getD 44 .undef), untag (tm.getD 45 .undef), untag (tm.getD 46 .undef), untag (tm.getD 47 .undef), untag (tm.getD 48 .undef), untag (tm.getD 49 .undef), untag (tm.getD 50 .undef), untag (tm.getD 51 .undef), untag (tm.getD 52 .undef), untag (tm.getD 53 .undef), untag (tm.getD 54 .undef), untag (tm.getD 55 .undef)] := tmps_eq hk
  unfold g_wide_Root_0 at hg
  simp only [List.map_cons, List.map_nil] at hg
  split at hg
  · rename_i r a_hi a_lo heq hheap
    simp only [List.cons.injEq, and_true] at heq
    obtain ⟨e1, e4⟩ := heq
    simp only [Tr.run] at hg
    split at hg
    · rename_i hc
      simp only [Option.some.injEq, Prod.mk.injEq] at hg
      obtain ⟨rfl, rfl, rfl⟩ := hg
      rw [e1, e4] at htm
      obtain ⟨N, s', h1, h2⟩ := core_wide_Root_0 (fun L => evCode P (evCall P T 16 6) L O' (loopOf P f 0)) hr r a_hi a_lo (of_decide_eq_true hc) (untag (tm.getD 0 .undef)) (untag (tm.getD 2 .undef)) (untag (tm.getD 3 .undef)) (untag (tm.getD 5 .undef)) (untag (tm.getD 6 .undef)) (untag (tm.getD 7 .undef)) (untag (tm.getD 8 .undef)) (untag (tm.getD 9 .undef)) (untag (tm.getD 10 .undef)) (untag (tm.getD 11 .undef)) (untag (tm.getD 12 .undef)) (untag (tm.getD 13 .undef)) (untag (tm.getD 14 .undef)) (untag (tm.getD 15 .undef)) (untag (tm.getD 16 .undef)) (untag (tm.getD 17 .undef)) (untag (tm.getD 18 .undef)) (untag (tm.getD 19 .undef)) (untag (tm.getD 20 .undef)) (untag (tm.getD 21 .undef)) (untag (tm.getD 22 .undef)) (untag (tm.getD 23 .undef)) (untag (tm.getD 24 .undef)) (untag (tm.getD 25 .undef)) (untag (tm.getD 26 .undef)) (untag (tm.getD 27 .undef)) (untag (tm.getD 28 .undef)) (untag (tm.getD 29 .undef)) (untag (tm.getD 30 .undef)) (untag (tm.getD 31 .undef)) (untag (tm.getD 32 .undef)) (untag (tm.getD 33 .undef)) (untag (tm.getD 34 .undef)) (untag (tm.getD 35 .undef)) (untag (tm.getD 36 .undef)) (untag (tm.getD 37 .undef)) (untag (tm.getD 38 .undef)) (untag (tm.getD 39 .undef)) (untag (tm.getD 40 .undef)) (untag (tm.getD 41 .undef)) (untag (tm.getD 42 .undef)) (untag (tm.getD 43 .undef)) (untag (tm.getD 44 .undef)) (untag (tm.getD 45 .undef)) (untag (tm.getD 46 .undef)) (untag (tm.getD 47 .undef)) (untag (tm.getD 48 .undef)) (untag (tm.getD 49 .undef)) (untag (tm.getD 50 .undef)) (untag (tm.getD 51 .undef)) (untag (tm.getD 52 .undef)) (untag (tm.getD 53 .undef)) (untag (tm.getD 54 .undef)) (untag (tm.getD 55 .undef)) 
      exact ⟨s', good_loop (g := none) (e1 := .ret) hb (fun k e => by cases e) 16 6 N (by rw [htm, hheap]; exact h1) (by rw [htm]; exact h2)⟩
    · cases hg
  · cases hg

/-! wide.Root -/
def tr_wide_Root (a_hi : Int) (a_lo : Int) : Tr AV := Tr.node (decide (a_hi < 0)) (Tr.leaf (AV.tuple [AV.int IntKind.u64 false 0, AV.bool false false])) (Tr.node (a_hi == 0) (Tr.leaf (AV.tuple [AV.int IntKind.u64 false (IntKind.u64.wrap (isq a_lo)), AV.bool false true])) (Tr.node (decide (IntKind.i64.wrap ((IntKind.i64.wrap (IntKind.i64.wrap (64 + ↑(Lib.bitLen (IntKind.u64.wrap a_hi).toNat)) + 1)).tdiv 2) < 0)) Tr.bad (Tr.node (IntKind.u64.wrap (1 * 2 ^ min (IntKind.i64.wrap ((IntKind.i64.wrap (IntKind.i64.wrap (64 + ↑(Lib.bitLen (IntKind.u64.wrap a_hi).toNat)) + 1)).tdiv 2)).toNat 64) == 0) (Tr.node (decide ((1 ≤ a_hi ∧ a_hi ≤ 9223372036854775807) ∧ (0 ≤ a_lo ∧ a_lo ≤ 18446744073709551615) ∧ isq (wv a_hi a_lo) ≤ 18446744073709551615 ∧ (18446744073709551615 : Int) ≤ 18446744073709551615)) (Tr.leaf (AV.tuple [AV.int IntKind.u64 false (isq (wv a_hi a_lo)), AV.bool false true])) Tr.bad) (Tr.node (decide ((1 ≤ a_hi ∧ a_hi ≤ 9223372036854775807) ∧ (0 ≤ a_lo ∧ a_lo ≤ 18446744073709551615) ∧ isq (wv a_hi a_lo) ≤ IntKind.u64.wrap (1 * 2 ^ min (IntKind.i64.wrap ((IntKind.i64.wrap (IntKind.i64.wrap (64 + ↑(Lib.bitLen (IntKind.u64.wrap a_hi).toNat)) + 1)).tdiv 2)).toNat 64) ∧ IntKind.u64.wrap (1 * 2 ^ min (IntKind.i64.wrap ((IntKind.i64.wrap (IntKind.i64.wrap (64 + ↑(Lib.bitLen (IntKind.u64.wrap a_hi).toNat)) + 1)).tdiv 2)).toNat 64) ≤ 18446744073709551615)) (Tr.leaf (AV.tuple [AV.int IntKind.u64 false (isq (wv a_hi a_lo)), AV.bool false true])) Tr.bad))))
theorem run_wide_Root (a_hi : Int) (a_lo : Int) (h_a_hi : InR .i64 a_hi) (h_a_lo : InR .u64 a_lo) : (tr_wide_Root a_hi a_lo).run = some (.tuple [u6 (rootN a_hi a_lo), bb (decide (0 ≤ a_hi))]) := by
  unfold tr_wide_Root
  have ha_hi := inR_i64.1 h_a_hi
  have ha_lo := inR_u64.1 h_a_lo
  
  unfold rootN
  by_cases c0 : a_hi < 0
  · rw [if_neg (by omega), show decide (0 ≤ a_hi) = false from decide_eq_false (by omega)]
    exact run_t (decide_eq_true c0)
  rw [if_pos (by omega), show decide (0 ≤ a_hi) = true from decide_eq_true (by omega)]
  refine (run_f (decide_eq_false c0)).trans ?_
  by_cases c1 : a_hi = 0
  · subst c1
    obtain ⟨s0, s1, s2, s3⟩ := isq_spec (n := a_lo) ha_lo.1 (by omega)
    have e : wv 0 a_lo = a_lo := by unfold wv; omega
    rw [e, wrap_u64_id (n := isq a_lo) (by omega)]
    exact run_t rfl
  refine (run_f (by simpa using c1)).trans ?_
  have eh : IntKind.u64.wrap a_hi = a_hi := wrap_u64_id (by omega)
  rw [eh]
  have hb := Go.Proofs.Any.bitLen_le64 a_hi (by omega) (by omega)
  have g1 : a_hi.toNat < 2 ^ Lib.bitLen a_hi.toNat := (Lib.bitLenAux_bounds 64 a_hi.toNat (by omega) (by omega)).2.2
  have g2 : Lib.bitLen a_hi.toNat ≤ 63 := by
    have := (Lib.bitLenAux_bounds 64 a_hi.toNat (by omega) (by omega)).2.1
    rcases Nat.lt_or_ge 63 (Lib.bitLen a_hi.toNat) with h | h
    · exfalso
      have h64 : Lib.bitLen a_hi.toNat = 64 := by omega
      have this : 2 ^ (Lib.bitLen a_hi.toNat - 1) ≤ a_hi.toNat := this
      rw [h64] at this
      omega
    · exact h
  generalize Lib.bitLen a_hi.toNat = b at hb g1 g2 ⊢
  have e0 : IntKind.i64.wrap (64 + (b : Int)) = 64 + b := wrap_i64_id (by omega)
  have e1 : IntKind.i64.wrap (64 + (b : Int) + 1) = 64 + b + 1 := wrap_i64_id (by omega)
  have e2 : (64 + (b : Int) + 1).tdiv 2 = ((64 + b + 1) / 2 : Nat) := by rw [Int.tdiv_eq_ediv_of_nonneg (by omega)]; omega
  have e3 : IntKind.i64.wrap (((64 + b + 1) / 2 : Nat) : Int) = ((64 + b + 1) / 2 : Nat) := wrap_i64_id (by omega)
  rw [e0, e1, e2, e3]
  have e4 : min (((64 + b + 1) / 2 : Nat) : Int).toNat 64 = (64 + b + 1) / 2 := by omega
  rw [e4, Int.one_mul]
  refine (run_f (decide_eq_false (by omega))).trans ?_
  have hk : b + 64 ≤ 2 * ((64 + b + 1) / 2) := by omega
  have hk2 : (64 + b + 1) / 2 ≤ 64 := by omega
  have hp : (2 : Int) ^ b > a_hi := by
    have : ((2 ^ b : Nat) : Int) = 2 ^ b := by push_cast; rfl
    rw [← this]; omega
  generalize (64 + b + 1) / 2 = e at hk hk2 ⊢
  have st := root128_start (hi := a_hi) (lo := a_lo) (by omega) ha_lo hp e hk
  have hV : 0 ≤ wv a_hi a_lo ∧ wv a_hi a_lo < 170141183460469231731687303715884105728 := by unfold wv; omega
  obtain ⟨s0, s1, s2, s3⟩ := isq_spec (n := wv a_hi a_lo) hV.1 (by omega)
  by_cases c2 : e = 64
  · subst c2
    refine (run_t (by decide)).trans ((run_t (decide_eq_true ⟨by omega, by omega, by omega, by omega⟩)).trans rfl)
  · have p1 : (2 : Int) ^ e ≤ 2 ^ 63 := by
      have := Nat.pow_le_pow_right (n := 2) (show 0 < 2 by decide) (show e ≤ 63 by omega)
      exact_mod_cast this
    have p2 : (2 : Int) ^ 63 = 9223372036854775808 := by decide
    have p0 : (0 : Int) < 2 ^ e := Int.pow_pos (by decide)
    rw [wrap_u64_id (n := 2 ^ e) (by omega)]
    refine (run_f (by simp; omega)).trans ((run_t (decide_eq_true ⟨by omega, by omega, by omega, by omega⟩)).trans rfl)

end Go.Sky

/- The document's numbers of 128 bits, by digits. -/
set_option linter.unusedSimpArgs false
set_option linter.unusedVariables false
namespace Go.Sky

/-- A digit of a number, by its weight. -/
def dg (V p : Int) : Int := V / p % 65536
def val8 (a b c d e f g h : Int) : Int := a + b * 65536 + c * 4294967296 + d * 281474976710656 + e * 18446744073709551616 + f * 1208925819614629174706176 + g * 79228162514264337593543950336 + h * 5192296858534827628530496329220096

theorem dg_r (V p : Int) : 0 ≤ dg V p ∧ dg V p ≤ 65535 := by unfold dg; omega

theorem val_dg (V : Int) : val8 (dg V 1) (dg V 65536) (dg V 4294967296) (dg V 281474976710656) (dg V 18446744073709551616) (dg V 1208925819614629174706176) (dg V 79228162514264337593543950336) (dg V 5192296858534827628530496329220096)
    = V % 340282366920938463463374607431768211456 := by
  unfold val8 dg; omega

theorem digits_lo {hi lo : Int} (h : 0 ≤ lo ∧ lo ≤ 18446744073709551615) :
    IntKind.i64.wrap (lo.tmod 65536) = dg (wv hi lo) 1 ∧ IntKind.i64.wrap ((IntKind.u64.wrap (lo.tdiv 65536)).tmod 65536) = dg (wv hi lo) 65536 ∧
    IntKind.i64.wrap ((IntKind.u64.wrap ((IntKind.u64.wrap (lo.tdiv 65536)).tdiv 65536)).tmod 65536) = dg (wv hi lo) 4294967296 ∧
    IntKind.i64.wrap ((IntKind.u64.wrap ((IntKind.u64.wrap ((IntKind.u64.wrap (lo.tdiv 65536)).tdiv 65536)).tdiv 65536)).tmod 65536) = dg (wv hi lo) 281474976710656 := by
  have t1 : lo.tdiv 65536 = lo / 65536 := Int.tdiv_eq_ediv_of_nonneg h.1
  have w1 : IntKind.u64.wrap (lo / 65536) = lo / 65536 := wrap_u64_id (by omega)
  have t2 : (lo / 65536).tdiv 65536 = lo / 65536 / 65536 := Int.tdiv_eq_ediv_of_nonneg (by omega)
  have w2 : IntKind.u64.wrap (lo / 65536 / 65536) = lo / 65536 / 65536 := wrap_u64_id (by omega)
  have t3 : (lo / 65536 / 65536).tdiv 65536 = lo / 65536 / 65536 / 65536 := Int.tdiv_eq_ediv_of_nonneg (by omega)
  have w3 : IntKind.u64.wrap (lo / 65536 / 65536 / 65536) = lo / 65536 / 65536 / 65536 := wrap_u64_id (by omega)
  rw [t1, w1, t2, w2, t3, w3, Int.tmod_eq_emod_of_nonneg h.1, Int.tmod_eq_emod_of_nonneg (show 0 ≤ lo / 65536 by omega), Int.tmod_eq_emod_of_nonneg (show 0 ≤ lo / 65536 / 65536 by omega), Int.tmod_eq_emod_of_nonneg (show 0 ≤ lo / 65536 / 65536 / 65536 by omega),
    wrap_i64_id (n := lo % 65536) (by omega), wrap_i64_id (n := lo / 65536 % 65536) (by omega), wrap_i64_id (n := lo / 65536 / 65536 % 65536) (by omega), wrap_i64_id (n := lo / 65536 / 65536 / 65536 % 65536) (by omega)]
  unfold dg wv
  refine ⟨by omega, by omega, by omega, by omega⟩

theorem digits_hi {hi lo : Int} (h : -9223372036854775808 ≤ hi ∧ hi ≤ 9223372036854775807) (hl : 0 ≤ lo ∧ lo ≤ 18446744073709551615) :
    IntKind.i64.wrap ((IntKind.u64.wrap hi).tmod 65536) = dg (wv hi lo) 18446744073709551616 ∧ IntKind.i64.wrap ((IntKind.u64.wrap ((IntKind.u64.wrap hi).tdiv 65536)).tmod 65536) = dg (wv hi lo) 1208925819614629174706176 ∧
    IntKind.i64.wrap ((IntKind.u64.wrap ((IntKind.u64.wrap ((IntKind.u64.wrap hi).tdiv 65536)).tdiv 65536)).tmod 65536) = dg (wv hi lo) 79228162514264337593543950336 ∧
    IntKind.i64.wrap ((IntKind.u64.wrap ((IntKind.u64.wrap ((IntKind.u64.wrap ((IntKind.u64.wrap hi).tdiv 65536)).tdiv 65536)).tdiv 65536)).tmod 65536) = dg (wv hi lo) 5192296858534827628530496329220096 := by
  have hu : 0 ≤ IntKind.u64.wrap hi ∧ IntKind.u64.wrap hi ≤ 18446744073709551615 := by rw [wrap_u64]; omega
  obtain ⟨e1, e2, e3, e4⟩ := digits_lo (hi := 0) hu
  rw [e1, e2, e3, e4]
  unfold dg wv
  rw [wrap_u64]
  refine ⟨by omega, by omega, by omega, by omega⟩

theorem carry_step {n : Int} (h : 0 ≤ n ∧ n ≤ 2199023255552) : IntKind.i64.wrap n = n ∧ IntKind.i64.wrap (n.tdiv 65536) = n / 65536 ∧ IntKind.u64.wrap (n.tmod 65536) = n % 65536 := by
  refine ⟨wrap_i64_id (by omega), ?_, ?_⟩
  · rw [Int.tdiv_eq_ediv_of_nonneg h.1]; exact wrap_i64_id (by omega)
  · rw [Int.tmod_eq_emod_of_nonneg h.1]; exact wrap_u64_id (by omega)

theorem sg_zero (V : Int) : sg (0 + sg V) = sg V := by unfold sg; omega
theorem whi_zero (V : Int) : whi (0 + sg V) = whi V := by unfold sg whi; rw [wrap_i64, wrap_i64]; omega
theorem wlo_zero (V : Int) : wlo (0 + sg V) = wlo V := by unfold sg wlo; omega
theorem sg_add (V W : Int) : sg (sg V + sg W) = sg (V + W) := by unfold sg; omega
theorem whi_sg2 (V W : Int) : whi (sg V + sg W) = whi (V + W) := by unfold sg whi; rw [wrap_i64, wrap_i64]; omega
theorem wlo_sg2 (V W : Int) : wlo (sg V + sg W) = wlo (V + W) := by unfold sg wlo; omega
theorem whi_congr {V W : Int} (h : V % 340282366920938463463374607431768211456 = W % 340282366920938463463374607431768211456) : whi V = whi W := by unfold whi; rw [wrap_i64, wrap_i64]; omega
theorem wlo_congr {V W : Int} (h : V % 340282366920938463463374607431768211456 = W % 340282366920938463463374607431768211456) : wlo V = wlo W := by unfold wlo; omega

/-- The digits of a sum's carries. -/
theorem number_eq {d0 d1 d2 d3 d4 d5 d6 d7 n1 n2 n3 n4 n5 n6 n7 : Int} (h0 : 0 ≤ d0) (e1 : n1 = d1 + d0 / 65536) (e2 : n2 = d2 + n1 / 65536) (e3 : n3 = d3 + n2 / 65536) (e4 : n4 = d4 + n3 / 65536) (e5 : n5 = d5 + n4 / 65536)
    (e6 : n6 = d6 + n5 / 65536) (e7 : n7 = d7 + n6 / 65536) :
    whi (val8 d0 d1 d2 d3 d4 d5 d6 d7) = IntKind.i64.wrap (n4 % 65536 + n5 % 65536 * 65536 + n6 % 65536 * 4294967296 + n7 % 65536 * 281474976710656) ∧
    wlo (val8 d0 d1 d2 d3 d4 d5 d6 d7) = d0 % 65536 + n1 % 65536 * 65536 + n2 % 65536 * 4294967296 + n3 % 65536 * 281474976710656 := by
  have ev : val8 d0 d1 d2 d3 d4 d5 d6 d7 = (d0 % 65536 + n1 % 65536 * 65536 + n2 % 65536 * 4294967296 + n3 % 65536 * 281474976710656) +
      (n4 % 65536 + n5 % 65536 * 65536 + n6 % 65536 * 4294967296 + n7 % 65536 * 281474976710656) * 18446744073709551616 + n7 / 65536 * 340282366920938463463374607431768211456 := by
    unfold val8; omega
  have rl : 0 ≤ d0 % 65536 + n1 % 65536 * 65536 + n2 % 65536 * 4294967296 + n3 % 65536 * 281474976710656 ∧ d0 % 65536 + n1 % 65536 * 65536 + n2 % 65536 * 4294967296 + n3 % 65536 * 281474976710656 ≤ 18446744073709551615 := by omega
  rw [ev]
  generalize d0 % 65536 + n1 % 65536 * 65536 + n2 % 65536 * 4294967296 + n3 % 65536 * 281474976710656 = L at *
  generalize n4 % 65536 + n5 % 65536 * 65536 + n6 % 65536 * 4294967296 + n7 % 65536 * 281474976710656 = H at *
  generalize n7 / 65536 = q at *
  unfold whi wlo
  rw [wrap_i64, wrap_i64]
  omega

theorem mulD {x y : Int} (hx : 0 ≤ x ∧ x ≤ 65535) (hy : 0 ≤ y ∧ y ≤ 65535) : 0 ≤ x * y ∧ x * y ≤ 4294836225 :=
  ⟨Int.mul_nonneg hx.1 hy.1, Int.mul_le_mul hx.2 hy.2 hy.1 (by decide)⟩

/-- A product, digit by digit. -/
theorem times_eq (a0 a1 a2 a3 a4 a5 a6 a7 b0 b1 b2 b3 b4 b5 b6 b7 : Int) :
    (val8 a0 a1 a2 a3 a4 a5 a6 a7 * val8 b0 b1 b2 b3 b4 b5 b6 b7) % 340282366920938463463374607431768211456 =
    (val8 (a0 * b0) (a0 * b1) (a0 * b2) (a0 * b3) (a0 * b4) (a0 * b5) (a0 * b6) (a0 * b7) + val8 0 (a1 * b0) (a1 * b1) (a1 * b2) (a1 * b3) (a1 * b4) (a1 * b5) (a1 * b6) + val8 0 0 (a2 * b0) (a2 * b1) (a2 * b2) (a2 * b3) (a2 * b4) (a2 * b5) +
      val8 0 0 0 (a3 * b0) (a3 * b1) (a3 * b2) (a3 * b3) (a3 * b4) + val8 0 0 0 0 (a4 * b0) (a4 * b1) (a4 * b2) (a4 * b3) + val8 0 0 0 0 0 (a5 * b0) (a5 * b1) (a5 * b2) + val8 0 0 0 0 0 0 (a6 * b0) (a6 * b1) + val8 0 0 0 0 0 0 0 (a7 * b0)) % 340282366920938463463374607431768211456 := by
  have e : val8 a0 a1 a2 a3 a4 a5 a6 a7 * val8 b0 b1 b2 b3 b4 b5 b6 b7 =
    (val8 (a0 * b0) (a0 * b1) (a0 * b2) (a0 * b3) (a0 * b4) (a0 * b5) (a0 * b6) (a0 * b7) + val8 0 (a1 * b0) (a1 * b1) (a1 * b2) (a1 * b3) (a1 * b4) (a1 * b5) (a1 * b6) + val8 0 0 (a2 * b0) (a2 * b1) (a2 * b2) (a2 * b3) (a2 * b4) (a2 * b5) +
      val8 0 0 0 (a3 * b0) (a3 * b1) (a3 * b2) (a3 * b3) (a3 * b4) + val8 0 0 0 0 (a4 * b0) (a4 * b1) (a4 * b2) (a4 * b3) + val8 0 0 0 0 0 (a5 * b0) (a5 * b1) (a5 * b2) + val8 0 0 0 0 0 0 (a6 * b0) (a6 * b1) + val8 0 0 0 0 0 0 0 (a7 * b0)) +
    340282366920938463463374607431768211456 * (val8 (a1 * b7) (a2 * b7) (a3 * b7) (a4 * b7) (a5 * b7) (a6 * b7) (a7 * b7) 0 + val8 (a2 * b6) (a3 * b6) (a4 * b6) (a5 * b6) (a6 * b6) (a7 * b6) 0 0 + val8 (a3 * b5) (a4 * b5) (a5 * b5) (a6 * b5) (a7 * b5) 0 0 0 +
      val8 (a4 * b4) (a5 * b4) (a6 * b4) (a7 * b4) 0 0 0 0 + val8 (a5 * b3) (a6 * b3) (a7 * b3) 0 0 0 0 0 + val8 (a6 * b2) (a7 * b2) 0 0 0 0 0 0 + val8 (a7 * b1) 0 0 0 0 0 0 0) := by
    unfold val8; grind
  rw [e, Int.add_mul_emod_self_left]

/-- One bit more of a root. -/
theorem root_test {x hi lo : Int} (h1 : 0 ≤ hi ∧ hi ≤ 9223372036854775807) (h2 : 0 ≤ lo ∧ lo ≤ 18446744073709551615) (hx : 0 ≤ x ∧ x ≤ 18446744073709551615) :
    (whi (x * x) ≥ 0 ∧ cmpI (wv (whi (x * x)) (wlo (x * x))) (wv hi lo) ≤ 0) ↔ x * x ≤ wv hi lo := by
  have p0 : 0 ≤ x * x := Int.mul_nonneg hx.1 hx.1
  have p1 : x * x ≤ 18446744073709551615 * 18446744073709551615 := Int.mul_le_mul hx.2 hx.2 hx.1 (by decide)
  generalize x * x = q at *
  rw [wv_sg]
  unfold whi cmpI sg wv
  rw [wrap_i64]
  constructor
  · rintro ⟨a, b⟩
    split at b
    · omega
    · split at b <;> omega
  · intro h
    refine ⟨by omega, ?_⟩
    split
    · omega
    · split <;> omega

theorem sg_mul (Y m c : Int) : (sg Y * m + c) % 340282366920938463463374607431768211456 = (Y * m + c) % 340282366920938463463374607431768211456 := by
  obtain ⟨k, hk⟩ : ∃ k, sg Y = Y + 340282366920938463463374607431768211456 * k := ⟨(sg Y - Y) / 340282366920938463463374607431768211456, by unfold sg; omega⟩
  rw [hk, show (Y + 340282366920938463463374607431768211456 * k) * m + c = (Y * m + c) + 340282366920938463463374607431768211456 * (k * m) by grind, Int.add_mul_emod_self_left]

theorem bits_one {x : Int} (h : 0 ≤ x ∧ x ≤ 9223372036854775807) : Go.bits .and .i64 x 1 = x % 2 := by
  obtain ⟨n, rfl⟩ := Int.eq_ofNat_of_zero_le h.1
  rw [bits_and]
  have e1 : BitVec.ofInt 64 ((n : Nat) : Int) = BitVec.ofNat 64 n := by apply BitVec.eq_of_toNat_eq; simp
  have e2 : BitVec.ofInt 64 1 = BitVec.ofNat 64 1 := by decide
  rw [e1, e2]
  have : (BitVec.ofNat 64 n &&& BitVec.ofNat 64 1).toNat = n % 2 := by
    rw [BitVec.toNat_and, BitVec.toNat_ofNat, BitVec.toNat_ofNat, Nat.mod_eq_of_lt (show n < 2 ^ 64 by omega), Nat.mod_eq_of_lt (show 1 < 2 ^ 64 by decide), Nat.and_one_is_mod]
  rw [BitVec.toInt_eq_toNat_bmod, this, Int.bmod_def]
  omega

theorem bit_split {n : Int} (i : Nat) (h : 0 ≤ n) : n % 2 ^ (i + 1) = n / 2 ^ i % 2 * 2 ^ i + n % 2 ^ i := by
  have hp : (0 : Int) < 2 ^ i := Int.pow_pos (by decide)
  rw [Int.pow_succ]
  have e1 := Int.mul_ediv_add_emod n (2 ^ i)
  have e2 := Int.mul_ediv_add_emod (n / 2 ^ i) 2
  have r1 := Int.emod_nonneg n (show (2 : Int) ^ i ≠ 0 by omega)
  have r2 := Int.emod_lt_of_pos n hp
  have r3 : 0 ≤ n / 2 ^ i % 2 ∧ n / 2 ^ i % 2 ≤ 1 := by omega
  generalize n % 2 ^ i = r at *
  generalize n / 2 ^ i = Q at *
  generalize Q % 2 = b at *
  generalize Q / 2 = q at *
  have e3 : n = (2 ^ i * 2) * q + (b * 2 ^ i + r) := by
    rw [← e1, ← e2]
    generalize (2 : Int) ^ i = p
    grind
  have lo : 0 ≤ b * 2 ^ i + r := by
    have : 0 ≤ b * 2 ^ i := Int.mul_nonneg r3.1 (by omega)
    omega
  have hi : b * 2 ^ i + r < 2 ^ i * 2 := by
    have : b * 2 ^ i ≤ 1 * 2 ^ i := Int.mul_le_mul_of_nonneg_right r3.2 (by omega)
    omega
  rw [e3, Int.add_comm, Int.add_mul_emod_self_left, Int.emod_eq_of_lt lo hi]

end Go.Sky

/- Trees of functions, and what they come to. -/
set_option linter.unusedSimpArgs false
set_option linter.unusedVariables false
namespace Go.Sky
set_option maxRecDepth 100000

/-! skylightref02.digits -/
def tr_skylightref02_digits (a_hi : Int) (a_lo : Int) : Tr AV := Tr.leaf (AV.agg [AV.int IntKind.i64 false (IntKind.i64.wrap (a_lo.tmod 65536)), AV.int IntKind.i64 false (IntKind.i64.wrap ((IntKind.u64.wrap (a_lo.tdiv 65536)).tmod 65536)), AV.int IntKind.i64 false (IntKind.i64.wrap ((IntKind.u64.wrap ((IntKind.u64.wrap (a_lo.tdiv 65536)).tdiv 65536)).tmod 65536)), AV.int IntKind.i64 false (IntKind.i64.wrap ((IntKind.u64.wrap ((IntKind.u64.wrap ((IntKind.u64.wrap (a_lo.tdiv 65536)).tdiv 65536)).tdiv 65536)).tmod 65536)), AV.int IntKind.i64 false (IntKind.i64.wrap ((IntKind.u64.wrap a_hi).tmod 65536)), AV.int IntKind.i64 false (IntKind.i64.wrap ((IntKind.u64.wrap ((IntKind.u64.wrap a_hi).tdiv 65536)).tmod 65536)), AV.int IntKind.i64 false (IntKind.i64.wrap ((IntKind.u64.wrap ((IntKind.u64.wrap ((IntKind.u64.wrap a_hi).tdiv 65536)).tdiv 65536)).tmod 65536)), AV.int IntKind.i64 false (IntKind.i64.wrap ((IntKind.u64.wrap ((IntKind.u64.wrap ((IntKind.u64.wrap ((IntKind.u64.wrap a_hi).tdiv 65536)).tdiv 65536)).tdiv 65536)).tmod 65536))])
theorem run_skylightref02_digits (a_hi : Int) (a_lo : Int) (h_a_hi : InR .i64 a_hi) (h_a_lo : InR .u64 a_lo) : (tr_skylightref02_digits a_hi a_lo).run = some (.agg [i6 (dg (wv a_hi a_lo) 1), i6 (dg (wv a_hi a_lo) 65536), i6 (dg (wv a_hi a_lo) 4294967296), i6 (dg (wv a_hi a_lo) 281474976710656), i6 (dg (wv a_hi a_lo) 18446744073709551616), i6 (dg (wv a_hi a_lo) 1208925819614629174706176), i6 (dg (wv a_hi a_lo) 79228162514264337593543950336), i6 (dg (wv a_hi a_lo) 5192296858534827628530496329220096)]) := by
  unfold tr_skylightref02_digits
  have ha_hi := inR_i64.1 h_a_hi
  have ha_lo := inR_u64.1 h_a_lo
  
  obtain ⟨e1, e2, e3, e4⟩ := digits_lo (hi := a_hi) ha_lo
  obtain ⟨f1, f2, f3, f4⟩ := digits_hi ha_hi ha_lo
  rw [e1, e2, e3, e4, f1, f2, f3, f4]
  rfl

/-! skylightref02.number -/
def tr_skylightref02_number (d_0 : Int) (d_1 : Int) (d_2 : Int) (d_3 : Int) (d_4 : Int) (d_5 : Int) (d_6 : Int) (d_7 : Int) : Tr AV := Tr.leaf (AV.agg [AV.int IntKind.i64 false (IntKind.i64.wrap (IntKind.u64.wrap (IntKind.u64.wrap (IntKind.u64.wrap (IntKind.u64.wrap (0 + IntKind.u64.wrap (IntKind.u64.wrap ((IntKind.i64.wrap (d_4 + IntKind.i64.wrap ((IntKind.i64.wrap (d_3 + IntKind.i64.wrap ((IntKind.i64.wrap (d_2 + IntKind.i64.wrap ((IntKind.i64.wrap (d_1 + IntKind.i64.wrap ((IntKind.i64.wrap (d_0 + 0)).tdiv 65536))).tdiv 65536))).tdiv 65536))).tdiv 65536))).tmod 65536) * 1)) + IntKind.u64.wrap (IntKind.u64.wrap ((IntKind.i64.wrap (d_5 + IntKind.i64.wrap ((IntKind.i64.wrap (d_4 + IntKind.i64.wrap ((IntKind.i64.wrap (d_3 + IntKind.i64.wrap ((IntKind.i64.wrap (d_2 + IntKind.i64.wrap ((IntKind.i64.wrap (d_1 + IntKind.i64.wrap ((IntKind.i64.wrap (d_0 + 0)).tdiv 65536))).tdiv 65536))).tdiv 65536))).tdiv 65536))).tdiv 65536))).tmod 65536) * 65536)) + IntKind.u64.wrap (IntKind.u64.wrap ((IntKind.i64.wrap (d_6 + IntKind.i64.wrap ((IntKind.i64.wrap (d_5 + IntKind.i64.wrap ((IntKind.i64.wrap (d_4 + IntKind.i64.wrap ((IntKind.i64.wrap (d_3 + IntKind.i64.wrap ((IntKind.i64.wrap (d_2 + IntKind.i64.wrap ((IntKind.i64.wrap (d_1 + IntKind.i64.wrap ((IntKind.i64.wrap (d_0 + 0)).tdiv 65536))).tdiv 65536))).tdiv 65536))).tdiv 65536))).tdiv 65536))).tdiv 65536))).tmod 65536) * 4294967296)) + IntKind.u64.wrap (IntKind.u64.wrap ((IntKind.i64.wrap (d_7 + IntKind.i64.wrap ((IntKind.i64.wrap (d_6 + IntKind.i64.wrap ((IntKind.i64.wrap (d_5 + IntKind.i64.wrap ((IntKind.i64.wrap (d_4 + IntKind.i64.wrap ((IntKind.i64.wrap (d_3 + IntKind.i64.wrap ((IntKind.i64.wrap (d_2 + IntKind.i64.wrap ((IntKind.i64.wrap (d_1 + IntKind.i64.wrap ((IntKind.i64.wrap (d_0 + 0)).tdiv 65536))).tdiv 65536))).tdiv 65536))).tdiv 65536))).tdiv 65536))).tdiv 65536))).tdiv 65536))).tmod 65536) * 281474976710656)))), AV.int IntKind.u64 false (IntKind.u64.wrap (IntKind.u64.wrap (IntKind.u64.wrap (IntKind.u64.wrap (0 + IntKind.u64.wrap (IntKind.u64.wrap ((IntKind.i64.wrap (d_0 + 0)).tmod 65536) * 1)) + IntKind.u64.wrap (IntKind.u64.wrap ((IntKind.i64.wrap (d_1 + IntKind.i64.wrap ((IntKind.i64.wrap (d_0 + 0)).tdiv 65536))).tmod 65536) * 65536)) + IntKind.u64.wrap (IntKind.u64.wrap ((IntKind.i64.wrap (d_2 + IntKind.i64.wrap ((IntKind.i64.wrap (d_1 + IntKind.i64.wrap ((IntKind.i64.wrap (d_0 + 0)).tdiv 65536))).tdiv 65536))).tmod 65536) * 4294967296)) + IntKind.u64.wrap (IntKind.u64.wrap ((IntKind.i64.wrap (d_3 + IntKind.i64.wrap ((IntKind.i64.wrap (d_2 + IntKind.i64.wrap ((IntKind.i64.wrap (d_1 + IntKind.i64.wrap ((IntKind.i64.wrap (d_0 + 0)).tdiv 65536))).tdiv 65536))).tdiv 65536))).tmod 65536) * 281474976710656)))])
theorem run_skylightref02_number (d_0 : Int) (d_1 : Int) (d_2 : Int) (d_3 : Int) (d_4 : Int) (d_5 : Int) (d_6 : Int) (d_7 : Int) (h_d_0 : InR .i64 d_0) (h_d_1 : InR .i64 d_1) (h_d_2 : InR .i64 d_2) (h_d_3 : InR .i64 d_3) (h_d_4 : InR .i64 d_4) (h_d_5 : InR .i64 d_5) (h_d_6 : InR .i64 d_6) (h_d_7 : InR .i64 d_7) (hpre : (0 ≤ d_0 ∧ d_0 ≤ 1099511627776) ∧ (0 ≤ d_1 ∧ d_1 ≤ 1099511627776) ∧ (0 ≤ d_2 ∧ d_2 ≤ 1099511627776) ∧ (0 ≤ d_3 ∧ d_3 ≤ 1099511627776) ∧ (0 ≤ d_4 ∧ d_4 ≤ 1099511627776) ∧ (0 ≤ d_5 ∧ d_5 ≤ 1099511627776) ∧ (0 ≤ d_6 ∧ d_6 ≤ 1099511627776) ∧ (0 ≤ d_7 ∧ d_7 ≤ 1099511627776)) : (tr_skylightref02_number d_0 d_1 d_2 d_3 d_4 d_5 d_6 d_7).run = some (wA (val8 d_0 d_1 d_2 d_3 d_4 d_5 d_6 d_7)) := by
  unfold tr_skylightref02_number
  obtain ⟨h0, h1, h2, h3, h4, h5, h6, h7⟩ := hpre
  have e0 : d_0 + 0 = d_0 := by omega
  obtain ⟨w0, c0, r0⟩ := carry_step (n := d_0) (by omega)
  rw [e0]
  simp only [w0, c0, r0]
  obtain ⟨n1, e1⟩ : ∃ n, n = d_1 + d_0 / 65536 := ⟨_, rfl⟩
  obtain ⟨w1, c1, r1⟩ := carry_step (n := n1) (by omega)
  simp only [← e1, w1, c1, r1]
  obtain ⟨n2, e2⟩ : ∃ n, n = d_2 + n1 / 65536 := ⟨_, rfl⟩
  obtain ⟨w2, c2, r2⟩ := carry_step (n := n2) (by omega)
  simp only [← e2, w2, c2, r2]
  obtain ⟨n3, e3⟩ : ∃ n, n = d_3 + n2 / 65536 := ⟨_, rfl⟩
  obtain ⟨w3, c3, r3⟩ := carry_step (n := n3) (by omega)
  simp only [← e3, w3, c3, r3]
  obtain ⟨n4, e4⟩ : ∃ n, n = d_4 + n3 / 65536 := ⟨_, rfl⟩
  obtain ⟨w4, c4, r4⟩ := carry_step (n := n4) (by omega)
  simp only [← e4, w4, c4, r4]
  obtain ⟨n5, e5⟩ : ∃ n, n = d_5 + n4 / 65536 := ⟨_, rfl⟩
  obtain ⟨w5, c5, r5⟩ := carry_step (n := n5) (by omega)
  simp only [← e5, w5, c5, r5]
  obtain ⟨n6, e6⟩ : ∃ n, n = d_6 + n5 / 65536 := ⟨_, rfl⟩
  obtain ⟨w6, c6, r6⟩ := carry_step (n := n6) (by omega)
  simp only [← e6, w6, c6, r6]
  obtain ⟨n7, e7⟩ : ∃ n, n = d_7 + n6 / 65536 := ⟨_, rfl⟩
  obtain ⟨w7, c7, r7⟩ := carry_step (n := n7) (by omega)
  simp only [← e7, w7, c7, r7]
  obtain ⟨g1, g2⟩ := number_eq (d0 := d_0) (d1 := d_1) (d2 := d_2) (d3 := d_3) (d4 := d_4) (d5 := d_5) (d6 := d_6) (d7 := d_7) h0.1 e1 e2 e3 e4 e5 e6 e7
  unfold wA
  rw [g1, g2]
  simp only [Tr.run, w2, i6, u6]
  congr 4
  · congr 1
    simp only [wrap_u64, wrap_i64]
    omega
  · simp only [wrap_u64]
    congr 1
    omega

/-! skylightref02.Of -/
def tr_skylightref02_Of (n : Int) : Tr AV := Tr.node (decide (n < 0)) (Tr.leaf (AV.agg [AV.int IntKind.i64 false (-1), AV.int IntKind.u64 false (IntKind.u64.wrap n)])) (Tr.leaf (AV.agg [AV.int IntKind.i64 false 0, AV.int IntKind.u64 false (IntKind.u64.wrap n)]))
theorem run_skylightref02_Of (n : Int) (h_n : InR .i64 n) : (tr_skylightref02_Of n).run = some (wA n) := by
  unfold tr_skylightref02_Of
  have hn := inR_i64.1 h_n
  
  unfold wA
  by_cases c : n < 0
  · refine (run_t (decide_eq_true c)).trans ?_
    rw [show whi n = -1 by unfold whi; rw [wrap_i64]; omega, show wlo n = IntKind.u64.wrap n by unfold wlo; rw [wrap_u64]]
    rfl
  · refine (run_f (decide_eq_false c)).trans ?_
    rw [show whi n = 0 by unfold whi; rw [wrap_i64]; omega, show wlo n = IntKind.u64.wrap n by unfold wlo; rw [wrap_u64]]
    rfl

/-! skylightref02.Add -/
def tr_skylightref02_Add (a_hi : Int) (a_lo : Int) (b_hi : Int) (b_lo : Int) : Tr AV := Tr.node (decide ((0 ≤ IntKind.i64.wrap (dg (wv a_hi a_lo) 1 + dg (wv b_hi b_lo) 1) ∧ IntKind.i64.wrap (dg (wv a_hi a_lo) 1 + dg (wv b_hi b_lo) 1) ≤ 1099511627776) ∧ (0 ≤ IntKind.i64.wrap (dg (wv a_hi a_lo) 65536 + dg (wv b_hi b_lo) 65536) ∧ IntKind.i64.wrap (dg (wv a_hi a_lo) 65536 + dg (wv b_hi b_lo) 65536) ≤ 1099511627776) ∧ (0 ≤ IntKind.i64.wrap (dg (wv a_hi a_lo) 4294967296 + dg (wv b_hi b_lo) 4294967296) ∧ IntKind.i64.wrap (dg (wv a_hi a_lo) 4294967296 + dg (wv b_hi b_lo) 4294967296) ≤ 1099511627776) ∧ (0 ≤ IntKind.i64.wrap (dg (wv a_hi a_lo) 281474976710656 + dg (wv b_hi b_lo) 281474976710656) ∧ IntKind.i64.wrap (dg (wv a_hi a_lo) 281474976710656 + dg (wv b_hi b_lo) 281474976710656) ≤ 1099511627776) ∧ (0 ≤ IntKind.i64.wrap (dg (wv a_hi a_lo) 18446744073709551616 + dg (wv b_hi b_lo) 18446744073709551616) ∧ IntKind.i64.wrap (dg (wv a_hi a_lo) 18446744073709551616 + dg (wv b_hi b_lo) 18446744073709551616) ≤ 1099511627776) ∧ (0 ≤ IntKind.i64.wrap (dg (wv a_hi a_lo) 1208925819614629174706176 + dg (wv b_hi b_lo) 1208925819614629174706176) ∧ IntKind.i64.wrap (dg (wv a_hi a_lo) 1208925819614629174706176 + dg (wv b_hi b_lo) 1208925819614629174706176) ≤ 1099511627776) ∧ (0 ≤ IntKind.i64.wrap (dg (wv a_hi a_lo) 79228162514264337593543950336 + dg (wv b_hi b_lo) 79228162514264337593543950336) ∧ IntKind.i64.wrap (dg (wv a_hi a_lo) 79228162514264337593543950336 + dg (wv b_hi b_lo) 79228162514264337593543950336) ≤ 1099511627776) ∧ 0 ≤ IntKind.i64.wrap (dg (wv a_hi a_lo) 5192296858534827628530496329220096 + dg (wv b_hi b_lo) 5192296858534827628530496329220096) ∧ IntKind.i64.wrap (dg (wv a_hi a_lo) 5192296858534827628530496329220096 + dg (wv b_hi b_lo) 5192296858534827628530496329220096) ≤ 1099511627776)) (Tr.leaf (AV.agg [AV.int IntKind.i64 false (whi (val8 (IntKind.i64.wrap (dg (wv a_hi a_lo) 1 + dg (wv b_hi b_lo) 1)) (IntKind.i64.wrap (dg (wv a_hi a_lo) 65536 + dg (wv b_hi b_lo) 65536)) (IntKind.i64.wrap (dg (wv a_hi a_lo) 4294967296 + dg (wv b_hi b_lo) 4294967296)) (IntKind.i64.wrap (dg (wv a_hi a_lo) 281474976710656 + dg (wv b_hi b_lo) 281474976710656)) (IntKind.i64.wrap (dg (wv a_hi a_lo) 18446744073709551616 + dg (wv b_hi b_lo) 18446744073709551616)) (IntKind.i64.wrap (dg (wv a_hi a_lo) 1208925819614629174706176 + dg (wv b_hi b_lo) 1208925819614629174706176)) (IntKind.i64.wrap (dg (wv a_hi a_lo) 79228162514264337593543950336 + dg (wv b_hi b_lo) 79228162514264337593543950336)) (IntKind.i64.wrap (dg (wv a_hi a_lo) 5192296858534827628530496329220096 + dg (wv b_hi b_lo) 5192296858534827628530496329220096)))), AV.int IntKind.u64 false (wlo (val8 (IntKind.i64.wrap (dg (wv a_hi a_lo) 1 + dg (wv b_hi b_lo) 1)) (IntKind.i64.wrap (dg (wv a_hi a_lo) 65536 + dg (wv b_hi b_lo) 65536)) (IntKind.i64.wrap (dg (wv a_hi a_lo) 4294967296 + dg (wv b_hi b_lo) 4294967296)) (IntKind.i64.wrap (dg (wv a_hi a_lo) 281474976710656 + dg (wv b_hi b_lo) 281474976710656)) (IntKind.i64.wrap (dg (wv a_hi a_lo) 18446744073709551616 + dg (wv b_hi b_lo) 18446744073709551616)) (IntKind.i64.wrap (dg (wv a_hi a_lo) 1208925819614629174706176 + dg (wv b_hi b_lo) 1208925819614629174706176)) (IntKind.i64.wrap (dg (wv a_hi a_lo) 79228162514264337593543950336 + dg (wv b_hi b_lo) 79228162514264337593543950336)) (IntKind.i64.wrap (dg (wv a_hi a_lo) 5192296858534827628530496329220096 + dg (wv b_hi b_lo) 5192296858534827628530496329220096))))])) Tr.bad
theorem run_skylightref02_Add (a_hi : Int) (a_lo : Int) (b_hi : Int) (b_lo : Int) (h_a_hi : InR .i64 a_hi) (h_a_lo : InR .u64 a_lo) (h_b_hi : InR .i64 b_hi) (h_b_lo : InR .u64 b_lo) : (tr_skylightref02_Add a_hi a_lo b_hi b_lo).run = some (wA (wv a_hi a_lo + wv b_hi b_lo)) := by
  unfold tr_skylightref02_Add
  have ra := dg_r (wv a_hi a_lo)
  have rb := dg_r (wv b_hi b_lo)
  have r0 := ra 1
  have s0 := rb 1
  have w0 : IntKind.i64.wrap (dg (wv a_hi a_lo) 1 + dg (wv b_hi b_lo) 1) = dg (wv a_hi a_lo) 1 + dg (wv b_hi b_lo) 1 := wrap_i64_id (by omega)
  have r1 := ra 65536
  have s1 := rb 65536
  have w1 : IntKind.i64.wrap (dg (wv a_hi a_lo) 65536 + dg (wv b_hi b_lo) 65536) = dg (wv a_hi a_lo) 65536 + dg (wv b_hi b_lo) 65536 := wrap_i64_id (by omega)
  have r2 := ra 4294967296
  have s2 := rb 4294967296
  have w2 : IntKind.i64.wrap (dg (wv a_hi a_lo) 4294967296 + dg (wv b_hi b_lo) 4294967296) = dg (wv a_hi a_lo) 4294967296 + dg (wv b_hi b_lo) 4294967296 := wrap_i64_id (by omega)
  have r3 := ra 281474976710656
  have s3 := rb 281474976710656
  have w3 : IntKind.i64.wrap (dg (wv a_hi a_lo) 281474976710656 + dg (wv b_hi b_lo) 281474976710656) = dg (wv a_hi a_lo) 281474976710656 + dg (wv b_hi b_lo) 281474976710656 := wrap_i64_id (by omega)
  have r4 := ra 18446744073709551616
  have s4 := rb 18446744073709551616
  have w4 : IntKind.i64.wrap (dg (wv a_hi a_lo) 18446744073709551616 + dg (wv b_hi b_lo) 18446744073709551616) = dg (wv a_hi a_lo) 18446744073709551616 + dg (wv b_hi b_lo) 18446744073709551616 := wrap_i64_id (by omega)
  have r5 := ra 1208925819614629174706176
  have s5 := rb 1208925819614629174706176
  have w5 : IntKind.i64.wrap (dg (wv a_hi a_lo) 1208925819614629174706176 + dg (wv b_hi b_lo) 1208925819614629174706176) = dg (wv a_hi a_lo) 1208925819614629174706176 + dg (wv b_hi b_lo) 1208925819614629174706176 := wrap_i64_id (by omega)
  have r6 := ra 79228162514264337593543950336
  have s6 := rb 79228162514264337593543950336
  have w6 : IntKind.i64.wrap (dg (wv a_hi a_lo) 79228162514264337593543950336 + dg (wv b_hi b_lo) 79228162514264337593543950336) = dg (wv a_hi a_lo) 79228162514264337593543950336 + dg (wv b_hi b_lo) 79228162514264337593543950336 := wrap_i64_id (by omega)
  have r7 := ra 5192296858534827628530496329220096
  have s7 := rb 5192296858534827628530496329220096
  have w7 : IntKind.i64.wrap (dg (wv a_hi a_lo) 5192296858534827628530496329220096 + dg (wv b_hi b_lo) 5192296858534827628530496329220096) = dg (wv a_hi a_lo) 5192296858534827628530496329220096 + dg (wv b_hi b_lo) 5192296858534827628530496329220096 := wrap_i64_id (by omega)
  
  rw [w0, w1, w2, w3, w4, w5, w6, w7]
  refine (run_t (decide_eq_true (by omega))).trans ?_
  have ea := val_dg (wv a_hi a_lo)
  have eb := val_dg (wv b_hi b_lo)
  refine congrArg some (wA_congr ?_)
  unfold val8 at *
  omega

/-! skylightref02.Sub -/
def tr_skylightref02_Sub (a_hi : Int) (a_lo : Int) (b_hi : Int) (b_lo : Int) : Tr AV := Tr.node (decide ((0 ≤ IntKind.i64.wrap (IntKind.i64.wrap (IntKind.i64.wrap (dg (wv a_hi a_lo) 1 + 65535) - dg (wv b_hi b_lo) 1) + 1) ∧ IntKind.i64.wrap (IntKind.i64.wrap (IntKind.i64.wrap (dg (wv a_hi a_lo) 1 + 65535) - dg (wv b_hi b_lo) 1) + 1) ≤ 1099511627776) ∧ (0 ≤ IntKind.i64.wrap (IntKind.i64.wrap (dg (wv a_hi a_lo) 65536 + 65535) - dg (wv b_hi b_lo) 65536) ∧ IntKind.i64.wrap (IntKind.i64.wrap (dg (wv a_hi a_lo) 65536 + 65535) - dg (wv b_hi b_lo) 65536) ≤ 1099511627776) ∧ (0 ≤ IntKind.i64.wrap (IntKind.i64.wrap (dg (wv a_hi a_lo) 4294967296 + 65535) - dg (wv b_hi b_lo) 4294967296) ∧ IntKind.i64.wrap (IntKind.i64.wrap (dg (wv a_hi a_lo) 4294967296 + 65535) - dg (wv b_hi b_lo) 4294967296) ≤ 1099511627776) ∧ (0 ≤ IntKind.i64.wrap (IntKind.i64.wrap (dg (wv a_hi a_lo) 281474976710656 + 65535) - dg (wv b_hi b_lo) 281474976710656) ∧ IntKind.i64.wrap (IntKind.i64.wrap (dg (wv a_hi a_lo) 281474976710656 + 65535) - dg (wv b_hi b_lo) 281474976710656) ≤ 1099511627776) ∧ (0 ≤ IntKind.i64.wrap (IntKind.i64.wrap (dg (wv a_hi a_lo) 18446744073709551616 + 65535) - dg (wv b_hi b_lo) 18446744073709551616) ∧ IntKind.i64.wrap (IntKind.i64.wrap (dg (wv a_hi a_lo) 18446744073709551616 + 65535) - dg (wv b_hi b_lo) 18446744073709551616) ≤ 1099511627776) ∧ (0 ≤ IntKind.i64.wrap (IntKind.i64.wrap (dg (wv a_hi a_lo) 1208925819614629174706176 + 65535) - dg (wv b_hi b_lo) 1208925819614629174706176) ∧ IntKind.i64.wrap (IntKind.i64.wrap (dg (wv a_hi a_lo) 1208925819614629174706176 + 65535) - dg (wv b_hi b_lo) 1208925819614629174706176) ≤ 1099511627776) ∧ (0 ≤ IntKind.i64.wrap (IntKind.i64.wrap (dg (wv a_hi a_lo) 79228162514264337593543950336 + 65535) - dg (wv b_hi b_lo) 79228162514264337593543950336) ∧ IntKind.i64.wrap (IntKind.i64.wrap (dg (wv a_hi a_lo) 79228162514264337593543950336 + 65535) - dg (wv b_hi b_lo) 79228162514264337593543950336) ≤ 1099511627776) ∧ 0 ≤ IntKind.i64.wrap (IntKind.i64.wrap (dg (wv a_hi a_lo) 5192296858534827628530496329220096 + 65535) - dg (wv b_hi b_lo) 5192296858534827628530496329220096) ∧ IntKind.i64.wrap (IntKind.i64.wrap (dg (wv a_hi a_lo) 5192296858534827628530496329220096 + 65535) - dg (wv b_hi b_lo) 5192296858534827628530496329220096) ≤ 1099511627776)) (Tr.leaf (AV.agg [AV.int IntKind.i64 false (whi (val8 (IntKind.i64.wrap (IntKind.i64.wrap (IntKind.i64.wrap (dg (wv a_hi a_lo) 1 + 65535) - dg (wv b_hi b_lo) 1) + 1)) (IntKind.i64.wrap (IntKind.i64.wrap (dg (wv a_hi a_lo) 65536 + 65535) - dg (wv b_hi b_lo) 65536)) (IntKind.i64.wrap (IntKind.i64.wrap (dg (wv a_hi a_lo) 4294967296 + 65535) - dg (wv b_hi b_lo) 4294967296)) (IntKind.i64.wrap (IntKind.i64.wrap (dg (wv a_hi a_lo) 281474976710656 + 65535) - dg (wv b_hi b_lo) 281474976710656)) (IntKind.i64.wrap (IntKind.i64.wrap (dg (wv a_hi a_lo) 18446744073709551616 + 65535) - dg (wv b_hi b_lo) 18446744073709551616)) (IntKind.i64.wrap (IntKind.i64.wrap (dg (wv a_hi a_lo) 1208925819614629174706176 + 65535) - dg (wv b_hi b_lo) 1208925819614629174706176)) (IntKind.i64.wrap (IntKind.i64.wrap (dg (wv a_hi a_lo) 79228162514264337593543950336 + 65535) - dg (wv b_hi b_lo) 79228162514264337593543950336)) (IntKind.i64.wrap (IntKind.i64.wrap (dg (wv a_hi a_lo) 5192296858534827628530496329220096 + 65535) - dg (wv b_hi b_lo) 5192296858534827628530496329220096)))), AV.int IntKind.u64 false (wlo (val8 (IntKind.i64.wrap (IntKind.i64.wrap (IntKind.i64.wrap (dg (wv a_hi a_lo) 1 + 65535) - dg (wv b_hi b_lo) 1) + 1)) (IntKind.i64.wrap (IntKind.i64.wrap (dg (wv a_hi a_lo) 65536 + 65535) - dg (wv b_hi b_lo) 65536)) (IntKind.i64.wrap (IntKind.i64.wrap (dg (wv a_hi a_lo) 4294967296 + 65535) - dg (wv b_hi b_lo) 4294967296)) (IntKind.i64.wrap (IntKind.i64.wrap (dg (wv a_hi a_lo) 281474976710656 + 65535) - dg (wv b_hi b_lo) 281474976710656)) (IntKind.i64.wrap (IntKind.i64.wrap (dg (wv a_hi a_lo) 18446744073709551616 + 65535) - dg (wv b_hi b_lo) 18446744073709551616)) (IntKind.i64.wrap (IntKind.i64.wrap (dg (wv a_hi a_lo) 1208925819614629174706176 + 65535) - dg (wv b_hi b_lo) 1208925819614629174706176)) (IntKind.i64.wrap (IntKind.i64.wrap (dg (wv a_hi a_lo) 79228162514264337593543950336 + 65535) - dg (wv b_hi b_lo) 79228162514264337593543950336)) (IntKind.i64.wrap (IntKind.i64.wrap (dg (wv a_hi a_lo) 5192296858534827628530496329220096 + 65535) - dg (wv b_hi b_lo) 5192296858534827628530496329220096))))])) Tr.bad
theorem run_skylightref02_Sub (a_hi : Int) (a_lo : Int) (b_hi : Int) (b_lo : Int) (h_a_hi : InR .i64 a_hi) (h_a_lo : InR .u64 a_lo) (h_b_hi : InR .i64 b_hi) (h_b_lo : InR .u64 b_lo) : (tr_skylightref02_Sub a_hi a_lo b_hi b_lo).run = some (wA (wv a_hi a_lo - wv b_hi b_lo)) := by
  unfold tr_skylightref02_Sub
  have ra := dg_r (wv a_hi a_lo)
  have rb := dg_r (wv b_hi b_lo)
  have r0 := ra 1
  have s0 := rb 1
  have v0 : IntKind.i64.wrap (dg (wv a_hi a_lo) 1 + 65535) = dg (wv a_hi a_lo) 1 + 65535 := wrap_i64_id (by omega)
  have w0 : IntKind.i64.wrap (dg (wv a_hi a_lo) 1 + 65535 - dg (wv b_hi b_lo) 1) = dg (wv a_hi a_lo) 1 + 65535 - dg (wv b_hi b_lo) 1 := wrap_i64_id (by omega)
  have r1 := ra 65536
  have s1 := rb 65536
  have v1 : IntKind.i64.wrap (dg (wv a_hi a_lo) 65536 + 65535) = dg (wv a_hi a_lo) 65536 + 65535 := wrap_i64_id (by omega)
  have w1 : IntKind.i64.wrap (dg (wv a_hi a_lo) 65536 + 65535 - dg (wv b_hi b_lo) 65536) = dg (wv a_hi a_lo) 65536 + 65535 - dg (wv b_hi b_lo) 65536 := wrap_i64_id (by omega)
  have r2 := ra 4294967296
  have s2 := rb 4294967296
  have v2 : IntKind.i64.wrap (dg (wv a_hi a_lo) 4294967296 + 65535) = dg (wv a_hi a_lo) 4294967296 + 65535 := wrap_i64_id (by omega)
  have w2 : IntKind.i64.wrap (dg (wv a_hi a_lo) 4294967296 + 65535 - dg (wv b_hi b_lo) 4294967296) = dg (wv a_hi a_lo) 4294967296 + 65535 - dg (wv b_hi b_lo) 4294967296 := wrap_i64_id (by omega)
  have r3 := ra 281474976710656
  have s3 := rb 281474976710656
  have v3 : IntKind.i64.wrap (dg (wv a_hi a_lo) 281474976710656 + 65535) = dg (wv a_hi a_lo) 281474976710656 + 65535 := wrap_i64_id (by omega)
  have w3 : IntKind.i64.wrap (dg (wv a_hi a_lo) 281474976710656 + 65535 - dg (wv b_hi b_lo) 281474976710656) = dg (wv a_hi a_lo) 281474976710656 + 65535 - dg (wv b_hi b_lo) 281474976710656 := wrap_i64_id (by omega)
  have r4 := ra 18446744073709551616
  have s4 := rb 18446744073709551616
  have v4 : IntKind.i64.wrap (dg (wv a_hi a_lo) 18446744073709551616 + 65535) = dg (wv a_hi a_lo) 18446744073709551616 + 65535 := wrap_i64_id (by omega)
  have w4 : IntKind.i64.wrap (dg (wv a_hi a_lo) 18446744073709551616 + 65535 - dg (wv b_hi b_lo) 18446744073709551616) = dg (wv a_hi a_lo) 18446744073709551616 + 65535 - dg (wv b_hi b_lo) 18446744073709551616 := wrap_i64_id (by omega)
  have r5 := ra 1208925819614629174706176
  have s5 := rb 1208925819614629174706176
  have v5 : IntKind.i64.wrap (dg (wv a_hi a_lo) 1208925819614629174706176 + 65535) = dg (wv a_hi a_lo) 1208925819614629174706176 + 65535 := wrap_i64_id (by omega)
  have w5 : IntKind.i64.wrap (dg (wv a_hi a_lo) 1208925819614629174706176 + 65535 - dg (wv b_hi b_lo) 1208925819614629174706176) = dg (wv a_hi a_lo) 1208925819614629174706176 + 65535 - dg (wv b_hi b_lo) 1208925819614629174706176 := wrap_i64_id (by omega)
  have r6 := ra 79228162514264337593543950336
  have s6 := rb 79228162514264337593543950336
  have v6 : IntKind.i64.wrap (dg (wv a_hi a_lo) 79228162514264337593543950336 + 65535) = dg (wv a_hi a_lo) 79228162514264337593543950336 + 65535 := wrap_i64_id (by omega)
  have w6 : IntKind.i64.wrap (dg (wv a_hi a_lo) 79228162514264337593543950336 + 65535 - dg (wv b_hi b_lo) 79228162514264337593543950336) = dg (wv a_hi a_lo) 79228162514264337593543950336 + 65535 - dg (wv b_hi b_lo) 79228162514264337593543950336 := wrap_i64_id (by omega)
  have r7 := ra 5192296858534827628530496329220096
  have s7 := rb 5192296858534827628530496329220096
  have v7 : IntKind.i64.wrap (dg (wv a_hi a_lo) 5192296858534827628530496329220096 + 65535) = dg (wv a_hi a_lo) 5192296858534827628530496329220096 + 65535 := wrap_i64_id (by omega)
  have w7 : IntKind.i64.wrap (dg (wv a_hi a_lo) 5192296858534827628530496329220096 + 65535 - dg (wv b_hi b_lo) 5192296858534827628530496329220096) = dg (wv a_hi a_lo) 5192296858534827628530496329220096 + 65535 - dg (wv b_hi b_lo) 5192296858534827628530496329220096 := wrap_i64_id (by omega)
  
  have x0 : IntKind.i64.wrap (dg (wv a_hi a_lo) 1 + 65535 - dg (wv b_hi b_lo) 1 + 1) = dg (wv a_hi a_lo) 1 + 65535 - dg (wv b_hi b_lo) 1 + 1 := wrap_i64_id (by omega)
  simp only [v0, w0, v1, w1, v2, w2, v3, w3, v4, w4, v5, w5, v6, w6, v7, w7, x0]
  refine (run_t (decide_eq_true (by omega))).trans ?_
  have ea := val_dg (wv a_hi a_lo)
  have eb := val_dg (wv b_hi b_lo)
  refine congrArg some (wA_congr ?_)
  unfold val8 at *
  omega

/-! skylightref02.Cmp -/
def tr_skylightref02_Cmp (a_hi : Int) (a_lo : Int) (b_hi : Int) (b_lo : Int) : Tr AV := Tr.node (decide ((IntKind.i64.wrap (dg (wv a_hi a_lo) 5192296858534827628530496329220096 + 32768)).tmod 65536 < (IntKind.i64.wrap (dg (wv b_hi b_lo) 5192296858534827628530496329220096 + 32768)).tmod 65536)) (Tr.leaf (AV.int IntKind.i64 false (-1))) (Tr.node (decide ((IntKind.i64.wrap (dg (wv a_hi a_lo) 5192296858534827628530496329220096 + 32768)).tmod 65536 > (IntKind.i64.wrap (dg (wv b_hi b_lo) 5192296858534827628530496329220096 + 32768)).tmod 65536)) (Tr.leaf (AV.int IntKind.i64 false 1)) (Tr.node (decide (dg (wv a_hi a_lo) 79228162514264337593543950336 < dg (wv b_hi b_lo) 79228162514264337593543950336)) (Tr.leaf (AV.int IntKind.i64 false (-1))) (Tr.node (decide (dg (wv a_hi a_lo) 79228162514264337593543950336 > dg (wv b_hi b_lo) 79228162514264337593543950336)) (Tr.leaf (AV.int IntKind.i64 false 1)) (Tr.node (decide (dg (wv a_hi a_lo) 1208925819614629174706176 < dg (wv b_hi b_lo) 1208925819614629174706176)) (Tr.leaf (AV.int IntKind.i64 false (-1))) (Tr.node (decide (dg (wv a_hi a_lo) 1208925819614629174706176 > dg (wv b_hi b_lo) 1208925819614629174706176)) (Tr.leaf (AV.int IntKind.i64 false 1)) (Tr.node (decide (dg (wv a_hi a_lo) 18446744073709551616 < dg (wv b_hi b_lo) 18446744073709551616)) (Tr.leaf (AV.int IntKind.i64 false (-1))) (Tr.node (decide (dg (wv a_hi a_lo) 18446744073709551616 > dg (wv b_hi b_lo) 18446744073709551616)) (Tr.leaf (AV.int IntKind.i64 false 1)) (Tr.node (decide (dg (wv a_hi a_lo) 281474976710656 < dg (wv b_hi b_lo) 281474976710656)) (Tr.leaf (AV.int IntKind.i64 false (-1))) (Tr.node (decide (dg (wv a_hi a_lo) 281474976710656 > dg (wv b_hi b_lo) 281474976710656)) (Tr.leaf (AV.int IntKind.i64 false 1)) (Tr.node (decide (dg (wv a_hi a_lo) 4294967296 < dg (wv b_hi b_lo) 4294967296)) (Tr.leaf (AV.int IntKind.i64 false (-1))) (Tr.node (decide (dg (wv a_hi a_lo) 4294967296 > dg (wv b_hi b_lo) 4294967296)) (Tr.leaf (AV.int IntKind.i64 false 1)) (Tr.node (decide (dg (wv a_hi a_lo) 65536 < dg (wv b_hi b_lo) 65536)) (Tr.leaf (AV.int IntKind.i64 false (-1))) (Tr.node (decide (dg (wv a_hi a_lo) 65536 > dg (wv b_hi b_lo) 65536)) (Tr.leaf (AV.int IntKind.i64 false 1)) (Tr.node (decide (dg (wv a_hi a_lo) 1 < dg (wv b_hi b_lo) 1)) (Tr.leaf (AV.int IntKind.i64 false (-1))) (Tr.node (decide (dg (wv a_hi a_lo) 1 > dg (wv b_hi b_lo) 1)) (Tr.leaf (AV.int IntKind.i64 false 1)) (Tr.leaf (AV.int IntKind.i64 false 0)))))))))))))))))
theorem run_skylightref02_Cmp (a_hi : Int) (a_lo : Int) (b_hi : Int) (b_lo : Int) (h_a_hi : InR .i64 a_hi) (h_a_lo : InR .u64 a_lo) (h_b_hi : InR .i64 b_hi) (h_b_lo : InR .u64 b_lo) : (tr_skylightref02_Cmp a_hi a_lo b_hi b_lo).run = some (i6 (cmpI (wv a_hi a_lo) (wv b_hi b_lo))) := by
  unfold tr_skylightref02_Cmp
  have ha_hi := inR_i64.1 h_a_hi
  have hb_hi := inR_i64.1 h_b_hi
  have ha_lo := inR_u64.1 h_a_lo
  have hb_lo := inR_u64.1 h_b_lo
  
  have ra := wv_r ha_hi ha_lo
  have rb := wv_r hb_hi hb_lo
  generalize wv a_hi a_lo = A at *
  generalize wv b_hi b_lo = B at *
  have ea := val_dg A
  have eb := val_dg B
  have da := dg_r A
  have db := dg_r B
  have f : ∀ x : Int, (0 ≤ x ∧ x ≤ 65535) → (IntKind.i64.wrap (x + 32768)).tmod 65536 = (x + 32768) % 65536 := fun x h => by
    rw [wrap_i64_id (by omega), Int.tmod_eq_emod_of_nonneg (by omega)]
  rw [f _ (da 5192296858534827628530496329220096), f _ (db 5192296858534827628530496329220096)]
  have x0 := da 1
  have y0 := db 1
  have x1 := da 65536
  have y1 := db 65536
  have x2 := da 4294967296
  have y2 := db 4294967296
  have x3 := da 281474976710656
  have y3 := db 281474976710656
  have x4 := da 18446744073709551616
  have y4 := db 18446744073709551616
  have x5 := da 1208925819614629174706176
  have y5 := db 1208925819614629174706176
  have x6 := da 79228162514264337593543950336
  have y6 := db 79228162514264337593543950336
  have x7 := da 5192296858534827628530496329220096
  have y7 := db 5192296858534827628530496329220096
  generalize dg A 1 = a0 at *
  generalize dg B 1 = b0 at *
  generalize dg A 65536 = a1 at *
  generalize dg B 65536 = b1 at *
  generalize dg A 4294967296 = a2 at *
  generalize dg B 4294967296 = b2 at *
  generalize dg A 281474976710656 = a3 at *
  generalize dg B 281474976710656 = b3 at *
  generalize dg A 18446744073709551616 = a4 at *
  generalize dg B 18446744073709551616 = b4 at *
  generalize dg A 1208925819614629174706176 = a5 at *
  generalize dg B 1208925819614629174706176 = b5 at *
  generalize dg A 79228162514264337593543950336 = a6 at *
  generalize dg B 79228162514264337593543950336 = b6 at *
  generalize dg A 5192296858534827628530496329220096 = a7 at *
  generalize dg B 5192296858534827628530496329220096 = b7 at *
  
  clear da db f
  unfold val8 at *
  have key : ((a7 + 32768) % 65536 = (b7 + 32768) % 65536 → a7 = b7) ∧ ((a7 + 32768) % 65536 < (b7 + 32768) % 65536 → A < B) ∧ ((a7 + 32768) % 65536 > (b7 + 32768) % 65536 → A > B) := by omega
  obtain ⟨k1, k2, k3⟩ := key
  unfold cmpI
  refine run_guard (fun c => ?_) (fun c => ?_)
  · rw [if_pos (k2 (of_decide_eq_true c))]; rfl
  refine run_guard (fun d => ?_) (fun d => ?_)
  · rw [if_neg (by have := k3 (of_decide_eq_true d); omega), if_pos (k3 (of_decide_eq_true d))]; rfl
  have e7 : a7 = b7 := k1 (by have := of_decide_eq_false c; have := of_decide_eq_false d; omega)
  subst e7
  clear k1 k2 k3 c d
  refine run_guard (fun c => ?_) (fun c => ?_)
  · rw [if_pos (by have := of_decide_eq_true c; omega)]; rfl
  refine run_guard (fun d => ?_) (fun d => ?_)
  · rw [if_neg (by have := of_decide_eq_true d; omega), if_pos (by have := of_decide_eq_true d; omega)]; rfl
  have e6 : a6 = b6 := by have := of_decide_eq_false c; have := of_decide_eq_false d; omega
  subst e6
  clear c d
  refine run_guard (fun c => ?_) (fun c => ?_)
  · rw [if_pos (by have := of_decide_eq_true c; omega)]; rfl
  refine run_guard (fun d => ?_) (fun d => ?_)
  · rw [if_neg (by have := of_decide_eq_true d; omega), if_pos (by have := of_decide_eq_true d; omega)]; rfl
  have e5 : a5 = b5 := by have := of_decide_eq_false c; have := of_decide_eq_false d; omega
  subst e5
  clear c d
  refine run_guard (fun c => ?_) (fun c => ?_)
  · rw [if_pos (by have := of_decide_eq_true c; omega)]; rfl
  refine run_guard (fun d => ?_) (fun d => ?_)
  · rw [if_neg (by have := of_decide_eq_true d; omega), if_pos (by have := of_decide_eq_true d; omega)]; rfl
  have e4 : a4 = b4 := by have := of_decide_eq_false c; have := of_decide_eq_false d; omega
  subst e4
  clear c d
  refine run_guard (fun c => ?_) (fun c => ?_)
  · rw [if_pos (by have := of_decide_eq_true c; omega)]; rfl
  refine run_guard (fun d => ?_) (fun d => ?_)
  · rw [if_neg (by have := of_decide_eq_true d; omega), if_pos (by have := of_decide_eq_true d; omega)]; rfl
  have e3 : a3 = b3 := by have := of_decide_eq_false c; have := of_decide_eq_false d; omega
  subst e3
  clear c d
  refine run_guard (fun c => ?_) (fun c => ?_)
  · rw [if_pos (by have := of_decide_eq_true c; omega)]; rfl
  refine run_guard (fun d => ?_) (fun d => ?_)
  · rw [if_neg (by have := of_decide_eq_true d; omega), if_pos (by have := of_decide_eq_true d; omega)]; rfl
  have e2 : a2 = b2 := by have := of_decide_eq_false c; have := of_decide_eq_false d; omega
  subst e2
  clear c d
  refine run_guard (fun c => ?_) (fun c => ?_)
  · rw [if_pos (by have := of_decide_eq_true c; omega)]; rfl
  refine run_guard (fun d => ?_) (fun d => ?_)
  · rw [if_neg (by have := of_decide_eq_true d; omega), if_pos (by have := of_decide_eq_true d; omega)]; rfl
  have e1 : a1 = b1 := by have := of_decide_eq_false c; have := of_decide_eq_false d; omega
  subst e1
  clear c d
  refine run_guard (fun c => ?_) (fun c => ?_)
  · rw [if_pos (by have := of_decide_eq_true c; omega)]; rfl
  refine run_guard (fun d => ?_) (fun d => ?_)
  · rw [if_neg (by have := of_decide_eq_true d; omega), if_pos (by have := of_decide_eq_true d; omega)]; rfl
  have e0 : a0 = b0 := by have := of_decide_eq_false c; have := of_decide_eq_false d; omega
  subst e0
  clear c d
  
  rw [if_neg (by omega), if_neg (by omega)]; rfl

/-! skylightref02.times -/
def c_skylightref02_times_1 (a_6 : Int) (b_0 : Int) (b_1 : Int) : Int := val8 0 0 0 0 0 0 (IntKind.i64.wrap (a_6 * b_0)) (IntKind.i64.wrap (a_6 * b_1))
def c_skylightref02_times_2 (a_5 : Int) (b_0 : Int) (b_1 : Int) (b_2 : Int) : Int := val8 0 0 0 0 0 (IntKind.i64.wrap (a_5 * b_0)) (IntKind.i64.wrap (a_5 * b_1)) (IntKind.i64.wrap (a_5 * b_2))
def c_skylightref02_times_3 (a_4 : Int) (b_0 : Int) (b_1 : Int) (b_2 : Int) (b_3 : Int) : Int := val8 0 0 0 0 (IntKind.i64.wrap (a_4 * b_0)) (IntKind.i64.wrap (a_4 * b_1)) (IntKind.i64.wrap (a_4 * b_2)) (IntKind.i64.wrap (a_4 * b_3))
def c_skylightref02_times_4 (a_3 : Int) (b_0 : Int) (b_1 : Int) (b_2 : Int) (b_3 : Int) (b_4 : Int) : Int := val8 0 0 0 (IntKind.i64.wrap (a_3 * b_0)) (IntKind.i64.wrap (a_3 * b_1)) (IntKind.i64.wrap (a_3 * b_2)) (IntKind.i64.wrap (a_3 * b_3)) (IntKind.i64.wrap (a_3 * b_4))
def c_skylightref02_times_5 (a_2 : Int) (b_0 : Int) (b_1 : Int) (b_2 : Int) (b_3 : Int) (b_4 : Int) (b_5 : Int) : Int := val8 0 0 (IntKind.i64.wrap (a_2 * b_0)) (IntKind.i64.wrap (a_2 * b_1)) (IntKind.i64.wrap (a_2 * b_2)) (IntKind.i64.wrap (a_2 * b_3)) (IntKind.i64.wrap (a_2 * b_4)) (IntKind.i64.wrap (a_2 * b_5))
def c_skylightref02_times_6 (a_1 : Int) (b_0 : Int) (b_1 : Int) (b_2 : Int) (b_3 : Int) (b_4 : Int) (b_5 : Int) (b_6 : Int) : Int := val8 0 (IntKind.i64.wrap (a_1 * b_0)) (IntKind.i64.wrap (a_1 * b_1)) (IntKind.i64.wrap (a_1 * b_2)) (IntKind.i64.wrap (a_1 * b_3)) (IntKind.i64.wrap (a_1 * b_4)) (IntKind.i64.wrap (a_1 * b_5)) (IntKind.i64.wrap (a_1 * b_6))
def c_skylightref02_times_7 (a_1 : Int) (b_0 : Int) (b_1 : Int) (b_2 : Int) (b_3 : Int) (b_4 : Int) (b_5 : Int) (b_6 : Int) : Int := whi (c_skylightref02_times_6 a_1 b_0 b_1 b_2 b_3 b_4 b_5 b_6)
def c_skylightref02_times_8 (a_1 : Int) (b_0 : Int) (b_1 : Int) (b_2 : Int) (b_3 : Int) (b_4 : Int) (b_5 : Int) (b_6 : Int) : Int := wlo (c_skylightref02_times_6 a_1 b_0 b_1 b_2 b_3 b_4 b_5 b_6)
def c_skylightref02_times_9 (a_0 : Int) (b_0 : Int) (b_1 : Int) (b_2 : Int) (b_3 : Int) (b_4 : Int) (b_5 : Int) (b_6 : Int) (b_7 : Int) : Int := val8 (IntKind.i64.wrap (a_0 * b_0)) (IntKind.i64.wrap (a_0 * b_1)) (IntKind.i64.wrap (a_0 * b_2)) (IntKind.i64.wrap (a_0 * b_3)) (IntKind.i64.wrap (a_0 * b_4)) (IntKind.i64.wrap (a_0 * b_5)) (IntKind.i64.wrap (a_0 * b_6)) (IntKind.i64.wrap (a_0 * b_7))
def c_skylightref02_times_10 (a_0 : Int) (b_0 : Int) (b_1 : Int) (b_2 : Int) (b_3 : Int) (b_4 : Int) (b_5 : Int) (b_6 : Int) (b_7 : Int) : Int := whi (c_skylightref02_times_9 a_0 b_0 b_1 b_2 b_3 b_4 b_5 b_6 b_7)
def c_skylightref02_times_11 (a_0 : Int) (b_0 : Int) (b_1 : Int) (b_2 : Int) (b_3 : Int) (b_4 : Int) (b_5 : Int) (b_6 : Int) (b_7 : Int) : Int := wlo (c_skylightref02_times_9 a_0 b_0 b_1 b_2 b_3 b_4 b_5 b_6 b_7)
def c_skylightref02_times_12 (a_0 : Int) (b_0 : Int) (b_1 : Int) (b_2 : Int) (b_3 : Int) (b_4 : Int) (b_5 : Int) (b_6 : Int) (b_7 : Int) : Int := whi (0 + wv (c_skylightref02_times_10 a_0 b_0 b_1 b_2 b_3 b_4 b_5 b_6 b_7) (c_skylightref02_times_11 a_0 b_0 b_1 b_2 b_3 b_4 b_5 b_6 b_7))
def c_skylightref02_times_13 (a_0 : Int) (b_0 : Int) (b_1 : Int) (b_2 : Int) (b_3 : Int) (b_4 : Int) (b_5 : Int) (b_6 : Int) (b_7 : Int) : Int := wlo (0 + wv (c_skylightref02_times_10 a_0 b_0 b_1 b_2 b_3 b_4 b_5 b_6 b_7) (c_skylightref02_times_11 a_0 b_0 b_1 b_2 b_3 b_4 b_5 b_6 b_7))
def c_skylightref02_times_14 (a_0 : Int) (a_1 : Int) (b_0 : Int) (b_1 : Int) (b_2 : Int) (b_3 : Int) (b_4 : Int) (b_5 : Int) (b_6 : Int) (b_7 : Int) : Int := whi (wv (c_skylightref02_times_12 a_0 b_0 b_1 b_2 b_3 b_4 b_5 b_6 b_7) (c_skylightref02_times_13 a_0 b_0 b_1 b_2 b_3 b_4 b_5 b_6 b_7) + wv (c_skylightref02_times_7 a_1 b_0 b_1 b_2 b_3 b_4 b_5 b_6) (c_skylightref02_times_8 a_1 b_0 b_1 b_2 b_3 b_4 b_5 b_6))
def c_skylightref02_times_15 (a_0 : Int) (a_1 : Int) (b_0 : Int) (b_1 : Int) (b_2 : Int) (b_3 : Int) (b_4 : Int) (b_5 : Int) (b_6 : Int) (b_7 : Int) : Int := wlo (wv (c_skylightref02_times_12 a_0 b_0 b_1 b_2 b_3 b_4 b_5 b_6 b_7) (c_skylightref02_times_13 a_0 b_0 b_1 b_2 b_3 b_4 b_5 b_6 b_7) + wv (c_skylightref02_times_7 a_1 b_0 b_1 b_2 b_3 b_4 b_5 b_6) (c_skylightref02_times_8 a_1 b_0 b_1 b_2 b_3 b_4 b_5 b_6))
def c_skylightref02_times_16 (a_0 : Int) (a_1 : Int) (a_2 : Int) (b_0 : Int) (b_1 : Int) (b_2 : Int) (b_3 : Int) (b_4 : Int) (b_5 : Int) (b_6 : Int) (b_7 : Int) : Int := whi (wv (c_skylightref02_times_14 a_0 a_1 b_0 b_1 b_2 b_3 b_4 b_5 b_6 b_7) (c_skylightref02_times_15 a_0 a_1 b_0 b_1 b_2 b_3 b_4 b_5 b_6 b_7) + wv (whi (c_skylightref02_times_5 a_2 b_0 b_1 b_2 b_3 b_4 b_5)) (wlo (c_skylightref02_times_5 a_2 b_0 b_1 b_2 b_3 b_4 b_5)))
def c_skylightref02_times_17 (a_0 : Int) (a_1 : Int) (a_2 : Int) (b_0 : Int) (b_1 : Int) (b_2 : Int) (b_3 : Int) (b_4 : Int) (b_5 : Int) (b_6 : Int) (b_7 : Int) : Int := wlo (wv (c_skylightref02_times_14 a_0 a_1 b_0 b_1 b_2 b_3 b_4 b_5 b_6 b_7) (c_skylightref02_times_15 a_0 a_1 b_0 b_1 b_2 b_3 b_4 b_5 b_6 b_7) + wv (whi (c_skylightref02_times_5 a_2 b_0 b_1 b_2 b_3 b_4 b_5)) (wlo (c_skylightref02_times_5 a_2 b_0 b_1 b_2 b_3 b_4 b_5)))
def c_skylightref02_times_18 (a_0 : Int) (a_1 : Int) (a_2 : Int) (a_3 : Int) (b_0 : Int) (b_1 : Int) (b_2 : Int) (b_3 : Int) (b_4 : Int) (b_5 : Int) (b_6 : Int) (b_7 : Int) : Int := whi (wv (c_skylightref02_times_16 a_0 a_1 a_2 b_0 b_1 b_2 b_3 b_4 b_5 b_6 b_7) (c_skylightref02_times_17 a_0 a_1 a_2 b_0 b_1 b_2 b_3 b_4 b_5 b_6 b_7) + wv (whi (c_skylightref02_times_4 a_3 b_0 b_1 b_2 b_3 b_4)) (wlo (c_skylightref02_times_4 a_3 b_0 b_1 b_2 b_3 b_4)))
def c_skylightref02_times_19 (a_0 : Int) (a_1 : Int) (a_2 : Int) (a_3 : Int) (b_0 : Int) (b_1 : Int) (b_2 : Int) (b_3 : Int) (b_4 : Int) (b_5 : Int) (b_6 : Int) (b_7 : Int) : Int := wlo (wv (c_skylightref02_times_16 a_0 a_1 a_2 b_0 b_1 b_2 b_3 b_4 b_5 b_6 b_7) (c_skylightref02_times_17 a_0 a_1 a_2 b_0 b_1 b_2 b_3 b_4 b_5 b_6 b_7) + wv (whi (c_skylightref02_times_4 a_3 b_0 b_1 b_2 b_3 b_4)) (wlo (c_skylightref02_times_4 a_3 b_0 b_1 b_2 b_3 b_4)))
def c_skylightref02_times_20 (a_0 : Int) (a_1 : Int) (a_2 : Int) (a_3 : Int) (a_4 : Int) (b_0 : Int) (b_1 : Int) (b_2 : Int) (b_3 : Int) (b_4 : Int) (b_5 : Int) (b_6 : Int) (b_7 : Int) : Int := whi (wv (c_skylightref02_times_18 a_0 a_1 a_2 a_3 b_0 b_1 b_2 b_3 b_4 b_5 b_6 b_7) (c_skylightref02_times_19 a_0 a_1 a_2 a_3 b_0 b_1 b_2 b_3 b_4 b_5 b_6 b_7) + wv (whi (c_skylightref02_times_3 a_4 b_0 b_1 b_2 b_3)) (wlo (c_skylightref02_times_3 a_4 b_0 b_1 b_2 b_3)))
def c_skylightref02_times_21 (a_0 : Int) (a_1 : Int) (a_2 : Int) (a_3 : Int) (a_4 : Int) (b_0 : Int) (b_1 : Int) (b_2 : Int) (b_3 : Int) (b_4 : Int) (b_5 : Int) (b_6 : Int) (b_7 : Int) : Int := wlo (wv (c_skylightref02_times_18 a_0 a_1 a_2 a_3 b_0 b_1 b_2 b_3 b_4 b_5 b_6 b_7) (c_skylightref02_times_19 a_0 a_1 a_2 a_3 b_0 b_1 b_2 b_3 b_4 b_5 b_6 b_7) + wv (whi (c_skylightref02_times_3 a_4 b_0 b_1 b_2 b_3)) (wlo (c_skylightref02_times_3 a_4 b_0 b_1 b_2 b_3)))
def c_skylightref02_times_22 (a_0 : Int) (a_1 : Int) (a_2 : Int) (a_3 : Int) (a_4 : Int) (a_5 : Int) (b_0 : Int) (b_1 : Int) (b_2 : Int) (b_3 : Int) (b_4 : Int) (b_5 : Int) (b_6 : Int) (b_7 : Int) : Int := whi (wv (c_skylightref02_times_20 a_0 a_1 a_2 a_3 a_4 b_0 b_1 b_2 b_3 b_4 b_5 b_6 b_7) (c_skylightref02_times_21 a_0 a_1 a_2 a_3 a_4 b_0 b_1 b_2 b_3 b_4 b_5 b_6 b_7) + wv (whi (c_skylightref02_times_2 a_5 b_0 b_1 b_2)) (wlo (c_skylightref02_times_2 a_5 b_0 b_1 b_2)))
def c_skylightref02_times_23 (a_0 : Int) (a_1 : Int) (a_2 : Int) (a_3 : Int) (a_4 : Int) (a_5 : Int) (b_0 : Int) (b_1 : Int) (b_2 : Int) (b_3 : Int) (b_4 : Int) (b_5 : Int) (b_6 : Int) (b_7 : Int) : Int := wlo (wv (c_skylightref02_times_20 a_0 a_1 a_2 a_3 a_4 b_0 b_1 b_2 b_3 b_4 b_5 b_6 b_7) (c_skylightref02_times_21 a_0 a_1 a_2 a_3 a_4 b_0 b_1 b_2 b_3 b_4 b_5 b_6 b_7) + wv (whi (c_skylightref02_times_2 a_5 b_0 b_1 b_2)) (wlo (c_skylightref02_times_2 a_5 b_0 b_1 b_2)))
def c_skylightref02_times_24 (a_0 : Int) (a_1 : Int) (a_2 : Int) (a_3 : Int) (a_4 : Int) (a_5 : Int) (a_6 : Int) (b_0 : Int) (b_1 : Int) (b_2 : Int) (b_3 : Int) (b_4 : Int) (b_5 : Int) (b_6 : Int) (b_7 : Int) : Int := whi (wv (c_skylightref02_times_22 a_0 a_1 a_2 a_3 a_4 a_5 b_0 b_1 b_2 b_3 b_4 b_5 b_6 b_7) (c_skylightref02_times_23 a_0 a_1 a_2 a_3 a_4 a_5 b_0 b_1 b_2 b_3 b_4 b_5 b_6 b_7) + wv (whi (c_skylightref02_times_1 a_6 b_0 b_1)) (wlo (c_skylightref02_times_1 a_6 b_0 b_1)))
def c_skylightref02_times_25 (a_0 : Int) (a_1 : Int) (a_2 : Int) (a_3 : Int) (a_4 : Int) (a_5 : Int) (a_6 : Int) (b_0 : Int) (b_1 : Int) (b_2 : Int) (b_3 : Int) (b_4 : Int) (b_5 : Int) (b_6 : Int) (b_7 : Int) : Int := wlo (wv (c_skylightref02_times_22 a_0 a_1 a_2 a_3 a_4 a_5 b_0 b_1 b_2 b_3 b_4 b_5 b_6 b_7) (c_skylightref02_times_23 a_0 a_1 a_2 a_3 a_4 a_5 b_0 b_1 b_2 b_3 b_4 b_5 b_6 b_7) + wv (whi (c_skylightref02_times_1 a_6 b_0 b_1)) (wlo (c_skylightref02_times_1 a_6 b_0 b_1)))
def tr_skylightref02_times (a_0 : Int) (a_1 : Int) (a_2 : Int) (a_3 : Int) (a_4 : Int) (a_5 : Int) (a_6 : Int) (a_7 : Int) (b_0 : Int) (b_1 : Int) (b_2 : Int) (b_3 : Int) (b_4 : Int) (b_5 : Int) (b_6 : Int) (b_7 : Int) : Tr AV := Tr.node (decide ((0 ≤ IntKind.i64.wrap (a_0 * b_0) ∧ IntKind.i64.wrap (a_0 * b_0) ≤ 1099511627776) ∧ (0 ≤ IntKind.i64.wrap (a_0 * b_1) ∧ IntKind.i64.wrap (a_0 * b_1) ≤ 1099511627776) ∧ (0 ≤ IntKind.i64.wrap (a_0 * b_2) ∧ IntKind.i64.wrap (a_0 * b_2) ≤ 1099511627776) ∧ (0 ≤ IntKind.i64.wrap (a_0 * b_3) ∧ IntKind.i64.wrap (a_0 * b_3) ≤ 1099511627776) ∧ (0 ≤ IntKind.i64.wrap (a_0 * b_4) ∧ IntKind.i64.wrap (a_0 * b_4) ≤ 1099511627776) ∧ (0 ≤ IntKind.i64.wrap (a_0 * b_5) ∧ IntKind.i64.wrap (a_0 * b_5) ≤ 1099511627776) ∧ (0 ≤ IntKind.i64.wrap (a_0 * b_6) ∧ IntKind.i64.wrap (a_0 * b_6) ≤ 1099511627776) ∧ 0 ≤ IntKind.i64.wrap (a_0 * b_7) ∧ IntKind.i64.wrap (a_0 * b_7) ≤ 1099511627776)) (Tr.node (decide (((0 : Int) ≤ 0 ∧ (0 : Int) ≤ 1099511627776) ∧ (0 ≤ IntKind.i64.wrap (a_1 * b_0) ∧ IntKind.i64.wrap (a_1 * b_0) ≤ 1099511627776) ∧ (0 ≤ IntKind.i64.wrap (a_1 * b_1) ∧ IntKind.i64.wrap (a_1 * b_1) ≤ 1099511627776) ∧ (0 ≤ IntKind.i64.wrap (a_1 * b_2) ∧ IntKind.i64.wrap (a_1 * b_2) ≤ 1099511627776) ∧ (0 ≤ IntKind.i64.wrap (a_1 * b_3) ∧ IntKind.i64.wrap (a_1 * b_3) ≤ 1099511627776) ∧ (0 ≤ IntKind.i64.wrap (a_1 * b_4) ∧ IntKind.i64.wrap (a_1 * b_4) ≤ 1099511627776) ∧ (0 ≤ IntKind.i64.wrap (a_1 * b_5) ∧ IntKind.i64.wrap (a_1 * b_5) ≤ 1099511627776) ∧ 0 ≤ IntKind.i64.wrap (a_1 * b_6) ∧ IntKind.i64.wrap (a_1 * b_6) ≤ 1099511627776)) (Tr.node (decide (((0 : Int) ≤ 0 ∧ (0 : Int) ≤ 1099511627776) ∧ ((0 : Int) ≤ 0 ∧ (0 : Int) ≤ 1099511627776) ∧ (0 ≤ IntKind.i64.wrap (a_2 * b_0) ∧ IntKind.i64.wrap (a_2 * b_0) ≤ 1099511627776) ∧ (0 ≤ IntKind.i64.wrap (a_2 * b_1) ∧ IntKind.i64.wrap (a_2 * b_1) ≤ 1099511627776) ∧ (0 ≤ IntKind.i64.wrap (a_2 * b_2) ∧ IntKind.i64.wrap (a_2 * b_2) ≤ 1099511627776) ∧ (0 ≤ IntKind.i64.wrap (a_2 * b_3) ∧ IntKind.i64.wrap (a_2 * b_3) ≤ 1099511627776) ∧ (0 ≤ IntKind.i64.wrap (a_2 * b_4) ∧ IntKind.i64.wrap (a_2 * b_4) ≤ 1099511627776) ∧ 0 ≤ IntKind.i64.wrap (a_2 * b_5) ∧ IntKind.i64.wrap (a_2 * b_5) ≤ 1099511627776)) (Tr.node (decide (((0 : Int) ≤ 0 ∧ (0 : Int) ≤ 1099511627776) ∧ ((0 : Int) ≤ 0 ∧ (0 : Int) ≤ 1099511627776) ∧ ((0 : Int) ≤ 0 ∧ (0 : Int) ≤ 1099511627776) ∧ (0 ≤ IntKind.i64.wrap (a_3 * b_0) ∧ IntKind.i64.wrap (a_3 * b_0) ≤ 1099511627776) ∧ (0 ≤ IntKind.i64.wrap (a_3 * b_1) ∧ IntKind.i64.wrap (a_3 * b_1) ≤ 1099511627776) ∧ (0 ≤ IntKind.i64.wrap (a_3 * b_2) ∧ IntKind.i64.wrap (a_3 * b_2) ≤ 1099511627776) ∧ (0 ≤ IntKind.i64.wrap (a_3 * b_3) ∧ IntKind.i64.wrap (a_3 * b_3) ≤ 1099511627776) ∧ 0 ≤ IntKind.i64.wrap (a_3 * b_4) ∧ IntKind.i64.wrap (a_3 * b_4) ≤ 1099511627776)) (Tr.node (decide (((0 : Int) ≤ 0 ∧ (0 : Int) ≤ 1099511627776) ∧ ((0 : Int) ≤ 0 ∧ (0 : Int) ≤ 1099511627776) ∧ ((0 : Int) ≤ 0 ∧ (0 : Int) ≤ 1099511627776) ∧ ((0 : Int) ≤ 0 ∧ (0 : Int) ≤ 1099511627776) ∧ (0 ≤ IntKind.i64.wrap (a_4 * b_0) ∧ IntKind.i64.wrap (a_4 * b_0) ≤ 1099511627776) ∧ (0 ≤ IntKind.i64.wrap (a_4 * b_1) ∧ IntKind.i64.wrap (a_4 * b_1) ≤ 1099511627776) ∧ (0 ≤ IntKind.i64.wrap (a_4 * b_2) ∧ IntKind.i64.wrap (a_4 * b_2) ≤ 1099511627776) ∧ 0 ≤ IntKind.i64.wrap (a_4 * b_3) ∧ IntKind.i64.wrap (a_4 * b_3) ≤ 1099511627776)) (Tr.node (decide (((0 : Int) ≤ 0 ∧ (0 : Int) ≤ 1099511627776) ∧ ((0 : Int) ≤ 0 ∧ (0 : Int) ≤ 1099511627776) ∧ ((0 : Int) ≤ 0 ∧ (0 : Int) ≤ 1099511627776) ∧ ((0 : Int) ≤ 0 ∧ (0 : Int) ≤ 1099511627776) ∧ ((0 : Int) ≤ 0 ∧ (0 : Int) ≤ 1099511627776) ∧ (0 ≤ IntKind.i64.wrap (a_5 * b_0) ∧ IntKind.i64.wrap (a_5 * b_0) ≤ 1099511627776) ∧ (0 ≤ IntKind.i64.wrap (a_5 * b_1) ∧ IntKind.i64.wrap (a_5 * b_1) ≤ 1099511627776) ∧ 0 ≤ IntKind.i64.wrap (a_5 * b_2) ∧ IntKind.i64.wrap (a_5 * b_2) ≤ 1099511627776)) (Tr.node (decide (((0 : Int) ≤ 0 ∧ (0 : Int) ≤ 1099511627776) ∧ ((0 : Int) ≤ 0 ∧ (0 : Int) ≤ 1099511627776) ∧ ((0 : Int) ≤ 0 ∧ (0 : Int) ≤ 1099511627776) ∧ ((0 : Int) ≤ 0 ∧ (0 : Int) ≤ 1099511627776) ∧ ((0 : Int) ≤ 0 ∧ (0 : Int) ≤ 1099511627776) ∧ ((0 : Int) ≤ 0 ∧ (0 : Int) ≤ 1099511627776) ∧ (0 ≤ IntKind.i64.wrap (a_6 * b_0) ∧ IntKind.i64.wrap (a_6 * b_0) ≤ 1099511627776) ∧ 0 ≤ IntKind.i64.wrap (a_6 * b_1) ∧ IntKind.i64.wrap (a_6 * b_1) ≤ 1099511627776)) (Tr.node (decide (((0 : Int) ≤ 0 ∧ (0 : Int) ≤ 1099511627776) ∧ ((0 : Int) ≤ 0 ∧ (0 : Int) ≤ 1099511627776) ∧ ((0 : Int) ≤ 0 ∧ (0 : Int) ≤ 1099511627776) ∧ ((0 : Int) ≤ 0 ∧ (0 : Int) ≤ 1099511627776) ∧ ((0 : Int) ≤ 0 ∧ (0 : Int) ≤ 1099511627776) ∧ ((0 : Int) ≤ 0 ∧ (0 : Int) ≤ 1099511627776) ∧ ((0 : Int) ≤ 0 ∧ (0 : Int) ≤ 1099511627776) ∧ 0 ≤ IntKind.i64.wrap (a_7 * b_0) ∧ IntKind.i64.wrap (a_7 * b_0) ≤ 1099511627776)) (Tr.leaf (AV.agg [AV.int IntKind.i64 false (whi (wv (c_skylightref02_times_24 a_0 a_1 a_2 a_3 a_4 a_5 a_6 b_0 b_1 b_2 b_3 b_4 b_5 b_6 b_7) (c_skylightref02_times_25 a_0 a_1 a_2 a_3 a_4 a_5 a_6 b_0 b_1 b_2 b_3 b_4 b_5 b_6 b_7) + wv (whi (val8 0 0 0 0 0 0 0 (IntKind.i64.wrap (a_7 * b_0)))) (wlo (val8 0 0 0 0 0 0 0 (IntKind.i64.wrap (a_7 * b_0)))))), AV.int IntKind.u64 false (wlo (wv (c_skylightref02_times_24 a_0 a_1 a_2 a_3 a_4 a_5 a_6 b_0 b_1 b_2 b_3 b_4 b_5 b_6 b_7) (c_skylightref02_times_25 a_0 a_1 a_2 a_3 a_4 a_5 a_6 b_0 b_1 b_2 b_3 b_4 b_5 b_6 b_7) + wv (whi (val8 0 0 0 0 0 0 0 (IntKind.i64.wrap (a_7 * b_0)))) (wlo (val8 0 0 0 0 0 0 0 (IntKind.i64.wrap (a_7 * b_0))))))])) Tr.bad) Tr.bad) Tr.bad) Tr.bad) Tr.bad) Tr.bad) Tr.bad) Tr.bad
theorem run_skylightref02_times (a_0 : Int) (a_1 : Int) (a_2 : Int) (a_3 : Int) (a_4 : Int) (a_5 : Int) (a_6 : Int) (a_7 : Int) (b_0 : Int) (b_1 : Int) (b_2 : Int) (b_3 : Int) (b_4 : Int) (b_5 : Int) (b_6 : Int) (b_7 : Int) (h_a_0 : InR .i64 a_0) (h_a_1 : InR .i64 a_1) (h_a_2 : InR .i64 a_2) (h_a_3 : InR .i64 a_3) (h_a_4 : InR .i64 a_4) (h_a_5 : InR .i64 a_5) (h_a_6 : InR .i64 a_6) (h_a_7 : InR .i64 a_7) (h_b_0 : InR .i64 b_0) (h_b_1 : InR .i64 b_1) (h_b_2 : InR .i64 b_2) (h_b_3 : InR .i64 b_3) (h_b_4 : InR .i64 b_4) (h_b_5 : InR .i64 b_5) (h_b_6 : InR .i64 b_6) (h_b_7 : InR .i64 b_7) (hpre : (0 ≤ a_0 ∧ a_0 ≤ 65535) ∧ (0 ≤ a_1 ∧ a_1 ≤ 65535) ∧ (0 ≤ a_2 ∧ a_2 ≤ 65535) ∧ (0 ≤ a_3 ∧ a_3 ≤ 65535) ∧ (0 ≤ a_4 ∧ a_4 ≤ 65535) ∧ (0 ≤ a_5 ∧ a_5 ≤ 65535) ∧ (0 ≤ a_6 ∧ a_6 ≤ 65535) ∧ (0 ≤ a_7 ∧ a_7 ≤ 65535) ∧ (0 ≤ b_0 ∧ b_0 ≤ 65535) ∧ (0 ≤ b_1 ∧ b_1 ≤ 65535) ∧ (0 ≤ b_2 ∧ b_2 ≤ 65535) ∧ (0 ≤ b_3 ∧ b_3 ≤ 65535) ∧ (0 ≤ b_4 ∧ b_4 ≤ 65535) ∧ (0 ≤ b_5 ∧ b_5 ≤ 65535) ∧ (0 ≤ b_6 ∧ b_6 ≤ 65535) ∧ (0 ≤ b_7 ∧ b_7 ≤ 65535)) : (tr_skylightref02_times a_0 a_1 a_2 a_3 a_4 a_5 a_6 a_7 b_0 b_1 b_2 b_3 b_4 b_5 b_6 b_7).run = some (wA ((val8 a_0 a_1 a_2 a_3 a_4 a_5 a_6 a_7) * (val8 b_0 b_1 b_2 b_3 b_4 b_5 b_6 b_7))) := by
  unfold tr_skylightref02_times
  obtain ⟨p0, p1, p2, p3, p4, p5, p6, p7, q0, q1, q2, q3, q4, q5, q6, q7⟩ := hpre
  have f00 := mulD p0 q0
  have m00 : IntKind.i64.wrap (a_0 * b_0) = a_0 * b_0 := wrap_i64_id (by omega)
  have f01 := mulD p0 q1
  have m01 : IntKind.i64.wrap (a_0 * b_1) = a_0 * b_1 := wrap_i64_id (by omega)
  have f02 := mulD p0 q2
  have m02 : IntKind.i64.wrap (a_0 * b_2) = a_0 * b_2 := wrap_i64_id (by omega)
  have f03 := mulD p0 q3
  have m03 : IntKind.i64.wrap (a_0 * b_3) = a_0 * b_3 := wrap_i64_id (by omega)
  have f04 := mulD p0 q4
  have m04 : IntKind.i64.wrap (a_0 * b_4) = a_0 * b_4 := wrap_i64_id (by omega)
  have f05 := mulD p0 q5
  have m05 : IntKind.i64.wrap (a_0 * b_5) = a_0 * b_5 := wrap_i64_id (by omega)
  have f06 := mulD p0 q6
  have m06 : IntKind.i64.wrap (a_0 * b_6) = a_0 * b_6 := wrap_i64_id (by omega)
  have f07 := mulD p0 q7
  have m07 : IntKind.i64.wrap (a_0 * b_7) = a_0 * b_7 := wrap_i64_id (by omega)
  have f10 := mulD p1 q0
  have m10 : IntKind.i64.wrap (a_1 * b_0) = a_1 * b_0 := wrap_i64_id (by omega)
  have f11 := mulD p1 q1
  have m11 : IntKind.i64.wrap (a_1 * b_1) = a_1 * b_1 := wrap_i64_id (by omega)
  have f12 := mulD p1 q2
  have m12 : IntKind.i64.wrap (a_1 * b_2) = a_1 * b_2 := wrap_i64_id (by omega)
  have f13 := mulD p1 q3
  have m13 : IntKind.i64.wrap (a_1 * b_3) = a_1 * b_3 := wrap_i64_id (by omega)
  have f14 := mulD p1 q4
  have m14 : IntKind.i64.wrap (a_1 * b_4) = a_1 * b_4 := wrap_i64_id (by omega)
  have f15 := mulD p1 q5
  have m15 : IntKind.i64.wrap (a_1 * b_5) = a_1 * b_5 := wrap_i64_id (by omega)
  have f16 := mulD p1 q6
  have m16 : IntKind.i64.wrap (a_1 * b_6) = a_1 * b_6 := wrap_i64_id (by omega)
  have f20 := mulD p2 q0
  have m20 : IntKind.i64.wrap (a_2 * b_0) = a_2 * b_0 := wrap_i64_id (by omega)
  have f21 := mulD p2 q1
  have m21 : IntKind.i64.wrap (a_2 * b_1) = a_2 * b_1 := wrap_i64_id (by omega)
  have f22 := mulD p2 q2
  have m22 : IntKind.i64.wrap (a_2 * b_2) = a_2 * b_2 := wrap_i64_id (by omega)
  have f23 := mulD p2 q3
  have m23 : IntKind.i64.wrap (a_2 * b_3) = a_2 * b_3 := wrap_i64_id (by omega)
  have f24 := mulD p2 q4
  have m24 : IntKind.i64.wrap (a_2 * b_4) = a_2 * b_4 := wrap_i64_id (by omega)
  have f25 := mulD p2 q5
  have m25 : IntKind.i64.wrap (a_2 * b_5) = a_2 * b_5 := wrap_i64_id (by omega)
  have f30 := mulD p3 q0
  have m30 : IntKind.i64.wrap (a_3 * b_0) = a_3 * b_0 := wrap_i64_id (by omega)
  have f31 := mulD p3 q1
  have m31 : IntKind.i64.wrap (a_3 * b_1) = a_3 * b_1 := wrap_i64_id (by omega)
  have f32 := mulD p3 q2
  have m32 : IntKind.i64.wrap (a_3 * b_2) = a_3 * b_2 := wrap_i64_id (by omega)
  have f33 := mulD p3 q3
  have m33 : IntKind.i64.wrap (a_3 * b_3) = a_3 * b_3 := wrap_i64_id (by omega)
  have f34 := mulD p3 q4
  have m34 : IntKind.i64.wrap (a_3 * b_4) = a_3 * b_4 := wrap_i64_id (by omega)
  have f40 := mulD p4 q0
  have m40 : IntKind.i64.wrap (a_4 * b_0) = a_4 * b_0 := wrap_i64_id (by omega)
  have f41 := mulD p4 q1
  have m41 : IntKind.i64.wrap (a_4 * b_1) = a_4 * b_1 := wrap_i64_id (by omega)
  have f42 := mulD p4 q2
  have m42 : IntKind.i64.wrap (a_4 * b_2) = a_4 * b_2 := wrap_i64_id (by omega)
  have f43 := mulD p4 q3
  have m43 : IntKind.i64.wrap (a_4 * b_3) = a_4 * b_3 := wrap_i64_id (by omega)
  have f50 := mulD p5 q0
  have m50 : IntKind.i64.wrap (a_5 * b_0) = a_5 * b_0 := wrap_i64_id (by omega)
  have f51 := mulD p5 q1
  have m51 : IntKind.i64.wrap (a_5 * b_1) = a_5 * b_1 := wrap_i64_id (by omega)
  have f52 := mulD p5 q2
  have m52 : IntKind.i64.wrap (a_5 * b_2) = a_5 * b_2 := wrap_i64_id (by omega)
  have f60 := mulD p6 q0
  have m60 : IntKind.i64.wrap (a_6 * b_0) = a_6 * b_0 := wrap_i64_id (by omega)
  have f61 := mulD p6 q1
  have m61 : IntKind.i64.wrap (a_6 * b_1) = a_6 * b_1 := wrap_i64_id (by omega)
  have f70 := mulD p7 q0
  have m70 : IntKind.i64.wrap (a_7 * b_0) = a_7 * b_0 := wrap_i64_id (by omega)
  simp only [c_skylightref02_times_1, c_skylightref02_times_2, c_skylightref02_times_3, c_skylightref02_times_4, c_skylightref02_times_5, c_skylightref02_times_6, c_skylightref02_times_7, c_skylightref02_times_8, c_skylightref02_times_9, c_skylightref02_times_10, c_skylightref02_times_11, c_skylightref02_times_12, c_skylightref02_times_13, c_skylightref02_times_14, c_skylightref02_times_15, c_skylightref02_times_16, c_skylightref02_times_17, c_skylightref02_times_18, c_skylightref02_times_19, c_skylightref02_times_20, c_skylightref02_times_21, c_skylightref02_times_22, c_skylightref02_times_23, c_skylightref02_times_24, c_skylightref02_times_25, m00, m01, m02, m03, m04, m05, m06, m07, m10, m11, m12, m13, m14, m15, m16, m20, m21, m22, m23, m24, m25, m30, m31, m32, m33, m34, m40, m41, m42, m43, m50, m51, m52, m60, m61, m70, wv_sg, sg_zero, whi_zero, wlo_zero, sg_add, whi_sg2, wlo_sg2]
  refine (run_t (decide_eq_true (by omega))).trans ((run_t (decide_eq_true (by omega))).trans ((run_t (decide_eq_true (by omega))).trans ((run_t (decide_eq_true (by omega))).trans ((run_t (decide_eq_true (by omega))).trans ((run_t (decide_eq_true (by omega))).trans ((run_t (decide_eq_true (by omega))).trans ((run_t (decide_eq_true (by omega))).trans (?_))))))))
  have e := times_eq a_0 a_1 a_2 a_3 a_4 a_5 a_6 a_7 b_0 b_1 b_2 b_3 b_4 b_5 b_6 b_7
  unfold wA
  rw [whi_congr e, wlo_congr e]
  rfl

/-! skylightref02.Mul -/
def tr_skylightref02_Mul (a : Int) (b : Int) : Tr AV := Tr.node (decide ((0 ≤ dg (wv (whi a) (wlo a)) 1 ∧ dg (wv (whi a) (wlo a)) (1 : Int) ≤ 65535) ∧ (0 ≤ dg (wv (whi a) (wlo a)) 65536 ∧ dg (wv (whi a) (wlo a)) (65536 : Int) ≤ 65535) ∧ (0 ≤ dg (wv (whi a) (wlo a)) 4294967296 ∧ dg (wv (whi a) (wlo a)) (4294967296 : Int) ≤ 65535) ∧ (0 ≤ dg (wv (whi a) (wlo a)) 281474976710656 ∧ dg (wv (whi a) (wlo a)) (281474976710656 : Int) ≤ 65535) ∧ (0 ≤ dg (wv (whi a) (wlo a)) 18446744073709551616 ∧ dg (wv (whi a) (wlo a)) (18446744073709551616 : Int) ≤ 65535) ∧ (0 ≤ dg (wv (whi a) (wlo a)) 1208925819614629174706176 ∧ dg (wv (whi a) (wlo a)) (1208925819614629174706176 : Int) ≤ 65535) ∧ (0 ≤ dg (wv (whi a) (wlo a)) 79228162514264337593543950336 ∧ dg (wv (whi a) (wlo a)) (79228162514264337593543950336 : Int) ≤ 65535) ∧ (0 ≤ dg (wv (whi a) (wlo a)) 5192296858534827628530496329220096 ∧ dg (wv (whi a) (wlo a)) (5192296858534827628530496329220096 : Int) ≤ 65535) ∧ (0 ≤ dg (wv (whi b) (wlo b)) 1 ∧ dg (wv (whi b) (wlo b)) (1 : Int) ≤ 65535) ∧ (0 ≤ dg (wv (whi b) (wlo b)) 65536 ∧ dg (wv (whi b) (wlo b)) (65536 : Int) ≤ 65535) ∧ (0 ≤ dg (wv (whi b) (wlo b)) 4294967296 ∧ dg (wv (whi b) (wlo b)) (4294967296 : Int) ≤ 65535) ∧ (0 ≤ dg (wv (whi b) (wlo b)) 281474976710656 ∧ dg (wv (whi b) (wlo b)) (281474976710656 : Int) ≤ 65535) ∧ (0 ≤ dg (wv (whi b) (wlo b)) 18446744073709551616 ∧ dg (wv (whi b) (wlo b)) (18446744073709551616 : Int) ≤ 65535) ∧ (0 ≤ dg (wv (whi b) (wlo b)) 1208925819614629174706176 ∧ dg (wv (whi b) (wlo b)) (1208925819614629174706176 : Int) ≤ 65535) ∧ (0 ≤ dg (wv (whi b) (wlo b)) 79228162514264337593543950336 ∧ dg (wv (whi b) (wlo b)) (79228162514264337593543950336 : Int) ≤ 65535) ∧ 0 ≤ dg (wv (whi b) (wlo b)) 5192296858534827628530496329220096 ∧ dg (wv (whi b) (wlo b)) (5192296858534827628530496329220096 : Int) ≤ 65535)) (Tr.leaf (AV.agg [AV.int IntKind.i64 false (whi (val8 (dg (wv (whi a) (wlo a)) 1) (dg (wv (whi a) (wlo a)) 65536) (dg (wv (whi a) (wlo a)) 4294967296) (dg (wv (whi a) (wlo a)) 281474976710656) (dg (wv (whi a) (wlo a)) 18446744073709551616) (dg (wv (whi a) (wlo a)) 1208925819614629174706176) (dg (wv (whi a) (wlo a)) 79228162514264337593543950336) (dg (wv (whi a) (wlo a)) 5192296858534827628530496329220096) * val8 (dg (wv (whi b) (wlo b)) 1) (dg (wv (whi b) (wlo b)) 65536) (dg (wv (whi b) (wlo b)) 4294967296) (dg (wv (whi b) (wlo b)) 281474976710656) (dg (wv (whi b) (wlo b)) 18446744073709551616) (dg (wv (whi b) (wlo b)) 1208925819614629174706176) (dg (wv (whi b) (wlo b)) 79228162514264337593543950336) (dg (wv (whi b) (wlo b)) 5192296858534827628530496329220096))), AV.int IntKind.u64 false (wlo (val8 (dg (wv (whi a) (wlo a)) 1) (dg (wv (whi a) (wlo a)) 65536) (dg (wv (whi a) (wlo a)) 4294967296) (dg (wv (whi a) (wlo a)) 281474976710656) (dg (wv (whi a) (wlo a)) 18446744073709551616) (dg (wv (whi a) (wlo a)) 1208925819614629174706176) (dg (wv (whi a) (wlo a)) 79228162514264337593543950336) (dg (wv (whi a) (wlo a)) 5192296858534827628530496329220096) * val8 (dg (wv (whi b) (wlo b)) 1) (dg (wv (whi b) (wlo b)) 65536) (dg (wv (whi b) (wlo b)) 4294967296) (dg (wv (whi b) (wlo b)) 281474976710656) (dg (wv (whi b) (wlo b)) 18446744073709551616) (dg (wv (whi b) (wlo b)) 1208925819614629174706176) (dg (wv (whi b) (wlo b)) 79228162514264337593543950336) (dg (wv (whi b) (wlo b)) 5192296858534827628530496329220096)))])) Tr.bad
theorem run_skylightref02_Mul (a : Int) (b : Int) (h_a : InR .i64 a) (h_b : InR .i64 b) : (tr_skylightref02_Mul a b).run = some (wA (a * b)) := by
  unfold tr_skylightref02_Mul
  have ha := inR_i64.1 h_a
  have hb := inR_i64.1 h_b
  
  have ra := dg_r (wv (whi a) (wlo a))
  have rb := dg_r (wv (whi b) (wlo b))
  refine (run_t (decide_eq_true (by refine ⟨?_, ?_, ?_, ?_, ?_, ?_, ?_, ?_, ?_, ?_, ?_, ?_, ?_, ?_, ?_, ?_⟩ <;> first | exact ra _ | exact rb _))).trans ?_
  rw [val_dg, val_dg, wv_sg, wv_sg, sg_id (V := a) (by omega), sg_id (V := b) (by omega)]
  exact congrArg some (wA_congr (Int.mul_emod a b _).symm)

/-! skylightref02.square -/
def tr_skylightref02_square (n : Int) : Tr AV := Tr.node (decide ((0 ≤ dg (wv 0 n) 1 ∧ dg (wv 0 n) (1 : Int) ≤ 65535) ∧ (0 ≤ dg (wv 0 n) 65536 ∧ dg (wv 0 n) (65536 : Int) ≤ 65535) ∧ (0 ≤ dg (wv 0 n) 4294967296 ∧ dg (wv 0 n) (4294967296 : Int) ≤ 65535) ∧ (0 ≤ dg (wv 0 n) 281474976710656 ∧ dg (wv 0 n) (281474976710656 : Int) ≤ 65535) ∧ (0 ≤ dg (wv 0 n) 18446744073709551616 ∧ dg (wv 0 n) (18446744073709551616 : Int) ≤ 65535) ∧ (0 ≤ dg (wv 0 n) 1208925819614629174706176 ∧ dg (wv 0 n) (1208925819614629174706176 : Int) ≤ 65535) ∧ (0 ≤ dg (wv 0 n) 79228162514264337593543950336 ∧ dg (wv 0 n) (79228162514264337593543950336 : Int) ≤ 65535) ∧ (0 ≤ dg (wv 0 n) 5192296858534827628530496329220096 ∧ dg (wv 0 n) (5192296858534827628530496329220096 : Int) ≤ 65535) ∧ (0 ≤ dg (wv 0 n) 1 ∧ dg (wv 0 n) (1 : Int) ≤ 65535) ∧ (0 ≤ dg (wv 0 n) 65536 ∧ dg (wv 0 n) (65536 : Int) ≤ 65535) ∧ (0 ≤ dg (wv 0 n) 4294967296 ∧ dg (wv 0 n) (4294967296 : Int) ≤ 65535) ∧ (0 ≤ dg (wv 0 n) 281474976710656 ∧ dg (wv 0 n) (281474976710656 : Int) ≤ 65535) ∧ (0 ≤ dg (wv 0 n) 18446744073709551616 ∧ dg (wv 0 n) (18446744073709551616 : Int) ≤ 65535) ∧ (0 ≤ dg (wv 0 n) 1208925819614629174706176 ∧ dg (wv 0 n) (1208925819614629174706176 : Int) ≤ 65535) ∧ (0 ≤ dg (wv 0 n) 79228162514264337593543950336 ∧ dg (wv 0 n) (79228162514264337593543950336 : Int) ≤ 65535) ∧ 0 ≤ dg (wv 0 n) 5192296858534827628530496329220096 ∧ dg (wv 0 n) (5192296858534827628530496329220096 : Int) ≤ 65535)) (Tr.leaf (AV.agg [AV.int IntKind.i64 false (whi (val8 (dg (wv 0 n) 1) (dg (wv 0 n) 65536) (dg (wv 0 n) 4294967296) (dg (wv 0 n) 281474976710656) (dg (wv 0 n) 18446744073709551616) (dg (wv 0 n) 1208925819614629174706176) (dg (wv 0 n) 79228162514264337593543950336) (dg (wv 0 n) 5192296858534827628530496329220096) * val8 (dg (wv 0 n) 1) (dg (wv 0 n) 65536) (dg (wv 0 n) 4294967296) (dg (wv 0 n) 281474976710656) (dg (wv 0 n) 18446744073709551616) (dg (wv 0 n) 1208925819614629174706176) (dg (wv 0 n) 79228162514264337593543950336) (dg (wv 0 n) 5192296858534827628530496329220096))), AV.int IntKind.u64 false (wlo (val8 (dg (wv 0 n) 1) (dg (wv 0 n) 65536) (dg (wv 0 n) 4294967296) (dg (wv 0 n) 281474976710656) (dg (wv 0 n) 18446744073709551616) (dg (wv 0 n) 1208925819614629174706176) (dg (wv 0 n) 79228162514264337593543950336) (dg (wv 0 n) 5192296858534827628530496329220096) * val8 (dg (wv 0 n) 1) (dg (wv 0 n) 65536) (dg (wv 0 n) 4294967296) (dg (wv 0 n) 281474976710656) (dg (wv 0 n) 18446744073709551616) (dg (wv 0 n) 1208925819614629174706176) (dg (wv 0 n) 79228162514264337593543950336) (dg (wv 0 n) 5192296858534827628530496329220096)))])) Tr.bad
theorem run_skylightref02_square (n : Int) (h_n : InR .u64 n) : (tr_skylightref02_square n).run = some (wA (n * n)) := by
  unfold tr_skylightref02_square
  have hn := inR_u64.1 h_n
  
  have ra := dg_r (wv 0 n)
  have e : wv 0 n = n := by unfold wv; omega
  refine (run_t (decide_eq_true (by refine ⟨?_, ?_, ?_, ?_, ?_, ?_, ?_, ?_, ?_, ?_, ?_, ?_, ?_, ?_, ?_, ?_⟩ <;> exact ra _))).trans ?_
  rw [val_dg, e]
  exact congrArg some (wA_congr (Int.mul_emod n n _).symm)

end Go.Sky
