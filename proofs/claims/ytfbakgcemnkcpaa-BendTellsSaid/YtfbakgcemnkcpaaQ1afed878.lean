/- Trees of functions, and what they come to. -/
import Derived.Test.YtfbakgcemnkcpaaQdf85e9d8
set_option linter.unusedSimpArgs false
set_option linter.unusedVariables false
namespace Go.Sky
set_option maxRecDepth 100000

/-! num.Div -/
def tr_num_Div (a : Int) (b : Int) : Tr AV := Tr.node (decide (b < 1)) (Tr.leaf (AV.int IntKind.i64 false 0)) (Tr.node (decide (a ≥ 0)) (Tr.node (decide (b = 0)) Tr.bad (Tr.leaf (AV.int IntKind.i64 false (IntKind.i64.wrap (a.tdiv b))))) (Tr.node (decide (b = 0)) Tr.bad (Tr.leaf (AV.int IntKind.i64 false (bits BinOp.xor IntKind.i64 (-1) (IntKind.i64.wrap ((bits BinOp.xor IntKind.i64 (-1) a).tdiv b)))))))
theorem run_num_Div (a : Int) (b : Int) (h_a : InR .i64 a) (h_b : InR .i64 b) : (tr_num_Div a b).run = some (i6 (dv a b)) := by
  unfold tr_num_Div
  have ha := inR_i64.1 h_a
  have hb := inR_i64.1 h_b
  
  unfold dv
  by_cases c0 : b < 1
  · rw [if_neg (by omega)]; exact run_t (decide_eq_true c0)
  refine (run_f (decide_eq_false c0)).trans ?_
  rw [if_pos (by omega)]
  by_cases c1 : a ≥ 0
  · refine (run_t (decide_eq_true c1)).trans ((run_f (decide_eq_false (by omega))).trans ?_)
    have d0 : 0 ≤ a / b := Int.ediv_nonneg c1 (by omega)
    have d1 : a / b ≤ a := Int.ediv_le_self _ (by omega)
    rw [Int.tdiv_eq_ediv_of_nonneg c1, wrap_i64_id (by omega)]; rfl
  · refine (run_f (decide_eq_false c1)).trans ((run_f (decide_eq_false (by omega))).trans ?_)
    have e := ediv_not a (d := b) (by omega)
    have d0 : 0 ≤ (-a - 1) / b := Int.ediv_nonneg (by omega) (by omega)
    have d1 : (-a - 1) / b ≤ -a - 1 := Int.ediv_le_self _ (by omega)
    rw [not_i64 (x := a) (by omega), show -1 - a = -a - 1 by omega, Int.tdiv_eq_ediv_of_nonneg (by omega), wrap_i64_id (by omega), not_i64 (by omega), e, show -1 - (-(a / b) - 1) = a / b by omega]; rfl

/-! num.Hold -/
def tr_num_Hold (n : Int) (low : Int) (high : Int) : Tr AV := Tr.node (decide (n < low)) (Tr.leaf (AV.int IntKind.i64 false low)) (Tr.node (decide (n > high)) (Tr.leaf (AV.int IntKind.i64 false high)) (Tr.leaf (AV.int IntKind.i64 false n)))
theorem run_num_Hold (n : Int) (low : Int) (high : Int) (h_n : InR .i64 n) (h_low : InR .i64 low) (h_high : InR .i64 high) : (tr_num_Hold n low high).run = some (i6 (hold n low high)) := by
  unfold tr_num_Hold
  simp only [Tr.run, decide_eq_true_eq, hold, i6]
  (repeat' split) <;> rfl

/-! skylightref01.Hold -/
def tr_skylightref01_Hold (n : Int) (low : Int) (high : Int) : Tr AV := Tr.node (decide (n < low)) (Tr.leaf (AV.int IntKind.i64 false low)) (Tr.node (decide (n > high)) (Tr.leaf (AV.int IntKind.i64 false high)) (Tr.leaf (AV.int IntKind.i64 false n)))
theorem run_skylightref01_Hold (n : Int) (low : Int) (high : Int) (h_n : InR .i64 n) (h_low : InR .i64 low) (h_high : InR .i64 high) : (tr_skylightref01_Hold n low high).run = some (i6 (hold n low high)) := by
  unfold tr_skylightref01_Hold
  simp only [Tr.run, decide_eq_true_eq, hold, i6]
  (repeat' split) <;> rfl

/-! basis.Facing -/
def tr_basis_Facing (n_x : Int) (n_y : Int) (n_z : Int) (d_x : Int) (d_y : Int) (d_z : Int) : Tr AV := Tr.node (!nearB d_x d_y d_z) (Tr.leaf (AV.agg [AV.int IntKind.i64 false 0, AV.int IntKind.i64 false 0, AV.int IntKind.i64 false 0])) (Tr.node (!nearB n_x n_y n_z) (Tr.leaf (AV.agg [AV.int IntKind.i64 false 0, AV.int IntKind.i64 false 0, AV.int IntKind.i64 false 0])) (Tr.node (decide (dotN n_x n_y n_z d_x d_y d_z > 0)) (Tr.leaf (AV.agg [AV.int IntKind.i64 false (IntKind.i64.wrap (n_x * -1)), AV.int IntKind.i64 false (IntKind.i64.wrap (n_y * -1)), AV.int IntKind.i64 false (IntKind.i64.wrap (n_z * -1))])) (Tr.leaf (AV.agg [AV.int IntKind.i64 false n_x, AV.int IntKind.i64 false n_y, AV.int IntKind.i64 false n_z]))))
theorem run_basis_Facing (n_x : Int) (n_y : Int) (n_z : Int) (d_x : Int) (d_y : Int) (d_z : Int) (h_n_x : InR .i64 n_x) (h_n_y : InR .i64 n_y) (h_n_z : InR .i64 n_z) (h_d_x : InR .i64 d_x) (h_d_y : InR .i64 d_y) (h_d_z : InR .i64 d_z) : (tr_basis_Facing n_x n_y n_z d_x d_y d_z).run = some (v3 (facC n_x n_x n_y n_z d_x d_y d_z) (facC n_y n_x n_y n_z d_x d_y d_z) (facC n_z n_x n_y n_z d_x d_y d_z)) := by
  unfold tr_basis_Facing
  have hn_x := inR_i64.1 h_n_x
  have hn_y := inR_i64.1 h_n_y
  have hn_z := inR_i64.1 h_n_z
  
  simp only [Tr.run, v3, i6, Bool.not_eq_true', decide_eq_true_eq]
  cases hd : nearB d_x d_y d_z
  · simp [facC, hd]
  cases hn : nearB n_x n_y n_z
  · simp [facC, hd, hn]
  have r := near_r hn
  simp only [facC_eq hn hd, Bool.true_eq_false, if_false]
  rw [show dotN n_x n_y n_z d_x d_y d_z = dotI n_x n_y n_z d_x d_y d_z by unfold dotN; rw [if_pos ⟨hn, hd⟩]]
  by_cases c : dotI n_x n_y n_z d_x d_y d_z > 0
  · simp only [if_pos c]
    rw [wrap_i64_id (n := n_x * -1) (by omega), wrap_i64_id (n := n_y * -1) (by omega), wrap_i64_id (n := n_z * -1) (by omega)]
    congr 4 <;> (try congr 1) <;> (try congr 1) <;> omega
  · simp only [if_neg c]

/-! skylightref07.Facing -/
def tr_skylightref07_Facing (n_x : Int) (n_y : Int) (n_z : Int) (d_x : Int) (d_y : Int) (d_z : Int) : Tr AV := Tr.node (!nearB d_x d_y d_z) (Tr.leaf (AV.agg [AV.int IntKind.i64 false 0, AV.int IntKind.i64 false 0, AV.int IntKind.i64 false 0])) (Tr.node (!nearB n_x n_y n_z) (Tr.leaf (AV.agg [AV.int IntKind.i64 false 0, AV.int IntKind.i64 false 0, AV.int IntKind.i64 false 0])) (Tr.node (decide (dotN n_x n_y n_z d_x d_y d_z > 0)) (Tr.leaf (AV.agg [AV.int IntKind.i64 false (IntKind.i64.wrap (0 - n_x)), AV.int IntKind.i64 false (IntKind.i64.wrap (0 - n_y)), AV.int IntKind.i64 false (IntKind.i64.wrap (0 - n_z))])) (Tr.leaf (AV.agg [AV.int IntKind.i64 false n_x, AV.int IntKind.i64 false n_y, AV.int IntKind.i64 false n_z]))))
theorem run_skylightref07_Facing (n_x : Int) (n_y : Int) (n_z : Int) (d_x : Int) (d_y : Int) (d_z : Int) (h_n_x : InR .i64 n_x) (h_n_y : InR .i64 n_y) (h_n_z : InR .i64 n_z) (h_d_x : InR .i64 d_x) (h_d_y : InR .i64 d_y) (h_d_z : InR .i64 d_z) : (tr_skylightref07_Facing n_x n_y n_z d_x d_y d_z).run = some (v3 (facC n_x n_x n_y n_z d_x d_y d_z) (facC n_y n_x n_y n_z d_x d_y d_z) (facC n_z n_x n_y n_z d_x d_y d_z)) := by
  unfold tr_skylightref07_Facing
  have hn_x := inR_i64.1 h_n_x
  have hn_y := inR_i64.1 h_n_y
  have hn_z := inR_i64.1 h_n_z
  
  simp only [Tr.run, v3, i6, Bool.not_eq_true', decide_eq_true_eq]
  cases hd : nearB d_x d_y d_z
  · simp [facC, hd]
  cases hn : nearB n_x n_y n_z
  · simp [facC, hd, hn]
  have r := near_r hn
  simp only [facC_eq hn hd, Bool.true_eq_false, if_false]
  rw [show dotN n_x n_y n_z d_x d_y d_z = dotI n_x n_y n_z d_x d_y d_z by unfold dotN; rw [if_pos ⟨hn, hd⟩]]
  by_cases c : dotI n_x n_y n_z d_x d_y d_z > 0
  · simp only [if_pos c]
    rw [wrap_i64_id (n := 0 - n_x) (by omega), wrap_i64_id (n := 0 - n_y) (by omega), wrap_i64_id (n := 0 - n_z) (by omega)]
    congr 4 <;> (try congr 1) <;> (try congr 1) <;> omega
  · simp only [if_neg c]

/-! bend.Back -/
def tr_bend_Back (c : Int) (n : Int) : Tr AV := Tr.node (decide (0 ≤ c)) (Tr.node (!decide (c ≤ 16384)) (Tr.leaf (AV.int IntKind.i64 false 0)) (Tr.node (decide (n < 16384)) (Tr.leaf (AV.int IntKind.i64 false 0)) (Tr.node (decide (n > 65536)) (Tr.leaf (AV.int IntKind.i64 false 0)) (Tr.node (decide (IntKind.i64.wrap (IntKind.i64.wrap (n + 16384) * IntKind.i64.wrap (n + 16384)) = 0)) Tr.bad (Tr.leaf (AV.int IntKind.i64 false (IntKind.i64.wrap (IntKind.i64.wrap ((IntKind.i64.wrap (IntKind.i64.wrap (IntKind.i64.wrap (n - 16384) * IntKind.i64.wrap (n - 16384)) * 65536)).tdiv (IntKind.i64.wrap (IntKind.i64.wrap (n + 16384) * IntKind.i64.wrap (n + 16384)))) + dv (IntKind.i64.wrap (IntKind.i64.wrap (65536 - IntKind.i64.wrap ((IntKind.i64.wrap (IntKind.i64.wrap (IntKind.i64.wrap (n - 16384) * IntKind.i64.wrap (n - 16384)) * 65536)).tdiv (IntKind.i64.wrap (IntKind.i64.wrap (n + 16384) * IntKind.i64.wrap (n + 16384))))) * dv (IntKind.i64.wrap (dv (IntKind.i64.wrap (dv (IntKind.i64.wrap (IntKind.i64.wrap (16384 - c) * IntKind.i64.wrap (16384 - c))) 16384 * dv (IntKind.i64.wrap (IntKind.i64.wrap (16384 - c) * IntKind.i64.wrap (16384 - c))) 16384)) 16384 * IntKind.i64.wrap (16384 - c))) 16384)) 16384)))))))) (Tr.leaf (AV.int IntKind.i64 false 0))
theorem run_bend_Back (c : Int) (n : Int) (h_c : InR .i64 c) (h_n : InR .i64 n) : (tr_bend_Back c n).run = some (i6 (backN c n)) := by
  unfold tr_bend_Back
  by_cases h : (0 ≤ c ∧ c ≤ 16384) ∧ (16384 ≤ n ∧ n ≤ 65536)
  · obtain ⟨hc, hn⟩ := h
  
    obtain ⟨a1, a2, a3, a4⟩ := backA_r hn
    obtain ⟨m1, m2, m3, m4, m5⟩ := backM_r hc
    have p := backP_r hc hn
    have eA : IntKind.i64.wrap (IntKind.i64.wrap (IntKind.i64.wrap (n - 16384) * IntKind.i64.wrap (n - 16384)) * 65536) = (n - 16384) * (n - 16384) * 65536 := by
      rw [wrap_i64_id (n := n - 16384) (by omega), wrap_i64_id (n := (n - 16384) * (n - 16384)) (by omega), wrap_i64_id (by omega)]
    have eB : IntKind.i64.wrap (IntKind.i64.wrap (n + 16384) * IntKind.i64.wrap (n + 16384)) = (n + 16384) * (n + 16384) := by
      rw [wrap_i64_id (n := n + 16384) (by omega), wrap_i64_id (by omega)]
    have e0 : IntKind.i64.wrap (16384 - c) = 16384 - c := wrap_i64_id (by omega)
    have e1 : IntKind.i64.wrap ((16384 - c) * (16384 - c)) = (16384 - c) * (16384 - c) := wrap_i64_id (by omega)
    have e2 : IntKind.i64.wrap ((16384 - c) * (16384 - c) / 16384 * ((16384 - c) * (16384 - c) / 16384)) = (16384 - c) * (16384 - c) / 16384 * ((16384 - c) * (16384 - c) / 16384) := wrap_i64_id (by omega)
    have e3 : IntKind.i64.wrap ((16384 - c) * (16384 - c) / 16384 * ((16384 - c) * (16384 - c) / 16384) / 16384 * (16384 - c)) = (16384 - c) * (16384 - c) / 16384 * ((16384 - c) * (16384 - c) / 16384) / 16384 * (16384 - c) := wrap_i64_id (by omega)
  
    simp only [eA, eB, e0, e1, dv_16384, e2, e3]
    refine (run_t (decide_eq_true (by omega))).trans ((run_f (by rw [decide_eq_true (by omega)]; rfl)).trans ((run_f (decide_eq_false (by omega))).trans ((run_f (decide_eq_false (by omega))).trans ((run_f (decide_eq_false (by omega))).trans (?_)))))
    rw [Int.tdiv_eq_ediv_of_nonneg (by omega), show (n - 16384) * (n - 16384) * 65536 / ((n + 16384) * (n + 16384)) = backA n from rfl, wrap_i64_id (n := backA n) (by omega), wrap_i64_id (n := 65536 - backA n) (by omega),
      show (16384 - c) * (16384 - c) / 16384 * ((16384 - c) * (16384 - c) / 16384) / 16384 * (16384 - c) / 16384 = backM c from rfl, wrap_i64_id (n := (65536 - backA n) * backM c) (by omega), wrap_i64_id (by omega), backN_eq hc hn]
    rfl
  · rw [show backN c n = 0 by unfold backN cosB idxB; rw [if_neg]; simp only [decide_eq_true_eq]; exact h]
    repeat (first | (refine run_guard (fun _ => rfl) (fun _ => ?_)) | (refine run_guard (fun _ => ?_) (fun _ => rfl)))
    exfalso
    simp only [decide_eq_true_eq, decide_eq_false_iff_not, Bool.not_eq_true', Bool.not_eq_false', mx_gt, mx_le, mn_lt, mn_ge] at *
    omega

/-! skylightref24.Back -/
def tr_skylightref24_Back (c : Int) (n : Int) : Tr AV := Tr.node (decide (c < 0)) (Tr.leaf (AV.int IntKind.i64 false 0)) (Tr.node (decide (c > 16384)) (Tr.leaf (AV.int IntKind.i64 false 0)) (Tr.node (decide (n ≥ 16384)) (Tr.node (!decide (n ≤ 65536)) (Tr.leaf (AV.int IntKind.i64 false 0)) (Tr.leaf (AV.int IntKind.i64 false (IntKind.i64.wrap ((if 1 ≤ IntKind.i64.wrap (IntKind.i64.wrap (n + 16384) * IntKind.i64.wrap (n + 16384)) then IntKind.i64.wrap (IntKind.i64.wrap (IntKind.i64.wrap (n - 16384) * IntKind.i64.wrap (n - 16384)) * 65536) / IntKind.i64.wrap (IntKind.i64.wrap (n + 16384) * IntKind.i64.wrap (n + 16384)) else 0) + if (1 : Int) ≤ 16384 then IntKind.i64.wrap (IntKind.i64.wrap (65536 - if 1 ≤ IntKind.i64.wrap (IntKind.i64.wrap (n + 16384) * IntKind.i64.wrap (n + 16384)) then IntKind.i64.wrap (IntKind.i64.wrap (IntKind.i64.wrap (n - 16384) * IntKind.i64.wrap (n - 16384)) * 65536) / IntKind.i64.wrap (IntKind.i64.wrap (n + 16384) * IntKind.i64.wrap (n + 16384)) else 0) * if (1 : Int) ≤ 16384 then IntKind.i64.wrap ((if (1 : Int) ≤ 16384 then IntKind.i64.wrap ((if (1 : Int) ≤ 16384 then IntKind.i64.wrap (IntKind.i64.wrap (16384 - c) * IntKind.i64.wrap (16384 - c)) / 16384 else 0) * if (1 : Int) ≤ 16384 then IntKind.i64.wrap (IntKind.i64.wrap (16384 - c) * IntKind.i64.wrap (16384 - c)) / 16384 else 0) / 16384 else 0) * IntKind.i64.wrap (16384 - c)) / 16384 else 0) / 16384 else 0))))) (Tr.leaf (AV.int IntKind.i64 false 0))))
theorem run_skylightref24_Back (c : Int) (n : Int) (h_c : InR .i64 c) (h_n : InR .i64 n) : (tr_skylightref24_Back c n).run = some (i6 (backN c n)) := by
  unfold tr_skylightref24_Back
  by_cases h : (0 ≤ c ∧ c ≤ 16384) ∧ (16384 ≤ n ∧ n ≤ 65536)
  · obtain ⟨hc, hn⟩ := h
  
    obtain ⟨a1, a2, a3, a4⟩ := backA_r hn
    obtain ⟨m1, m2, m3, m4, m5⟩ := backM_r hc
    have p := backP_r hc hn
    have eA : IntKind.i64.wrap (IntKind.i64.wrap (IntKind.i64.wrap (n - 16384) * IntKind.i64.wrap (n - 16384)) * 65536) = (n - 16384) * (n - 16384) * 65536 := by
      rw [wrap_i64_id (n := n - 16384) (by omega), wrap_i64_id (n := (n - 16384) * (n - 16384)) (by omega), wrap_i64_id (by omega)]
    have eB : IntKind.i64.wrap (IntKind.i64.wrap (n + 16384) * IntKind.i64.wrap (n + 16384)) = (n + 16384) * (n + 16384) := by
      rw [wrap_i64_id (n := n + 16384) (by omega), wrap_i64_id (by omega)]
    have e0 : IntKind.i64.wrap (16384 - c) = 16384 - c := wrap_i64_id (by omega)
    have e1 : IntKind.i64.wrap ((16384 - c) * (16384 - c)) = (16384 - c) * (16384 - c) := wrap_i64_id (by omega)
    have e2 : IntKind.i64.wrap ((16384 - c) * (16384 - c) / 16384 * ((16384 - c) * (16384 - c) / 16384)) = (16384 - c) * (16384 - c) / 16384 * ((16384 - c) * (16384 - c) / 16384) := wrap_i64_id (by omega)
    have e3 : IntKind.i64.wrap ((16384 - c) * (16384 - c) / 16384 * ((16384 - c) * (16384 - c) / 16384) / 16384 * (16384 - c)) = (16384 - c) * (16384 - c) / 16384 * ((16384 - c) * (16384 - c) / 16384) / 16384 * (16384 - c) := wrap_i64_id (by omega)
  
    have t1 : (1 : Int) ≤ 16384 := by decide
    have t2 : 1 ≤ (n + 16384) * (n + 16384) := by omega
    simp only [eA, eB, if_pos t1, if_pos t2, e0, e1, e2, e3]
    refine (run_f (decide_eq_false (by omega))).trans ((run_f (decide_eq_false (by omega))).trans ((run_t (decide_eq_true (by omega))).trans ((run_f (by rw [decide_eq_true (by omega)]; rfl)).trans (?_))))
    rw [show (n - 16384) * (n - 16384) * 65536 / ((n + 16384) * (n + 16384)) = backA n from rfl, wrap_i64_id (n := 65536 - backA n) (by omega),
      show (16384 - c) * (16384 - c) / 16384 * ((16384 - c) * (16384 - c) / 16384) / 16384 * (16384 - c) / 16384 = backM c from rfl, wrap_i64_id (n := (65536 - backA n) * backM c) (by omega), wrap_i64_id (by omega), backN_eq hc hn]
    rfl
  · rw [show backN c n = 0 by unfold backN cosB idxB; rw [if_neg]; simp only [decide_eq_true_eq]; exact h]
    repeat (first | (refine run_guard (fun _ => rfl) (fun _ => ?_)) | (refine run_guard (fun _ => ?_) (fun _ => rfl)))
    exfalso
    simp only [decide_eq_true_eq, decide_eq_false_iff_not, Bool.not_eq_true', Bool.not_eq_false', mx_gt, mx_le, mn_lt, mn_ge] at *
    omega

/-! bend.Cos -/
def tr_bend_Cos (n_x : Int) (n_y : Int) (n_z : Int) (d_x : Int) (d_y : Int) (d_z : Int) : Tr AV := Tr.node (decide (mm true (mm true n_x n_y) n_z > 16385)) (Tr.leaf (AV.int IntKind.i64 false 0)) (Tr.node (decide (mm false (mm false n_x n_y) n_z < -16385)) (Tr.leaf (AV.int IntKind.i64 false 0)) (Tr.node (decide (mm true (mm true d_x d_y) d_z > 16385)) (Tr.leaf (AV.int IntKind.i64 false 0)) (Tr.node (decide (mm false (mm false d_x d_y) d_z < -16385)) (Tr.leaf (AV.int IntKind.i64 false 0)) (Tr.leaf (AV.int IntKind.i64 false (hold (dv (IntKind.i64.wrap (0 - dotN (facC n_x n_x n_y n_z d_x d_y d_z) (facC n_y n_x n_y n_z d_x d_y d_z) (facC n_z n_x n_y n_z d_x d_y d_z) d_x d_y d_z)) 16384) 0 16384))))))
theorem run_bend_Cos (n_x : Int) (n_y : Int) (n_z : Int) (d_x : Int) (d_y : Int) (d_z : Int) (h_n_x : InR .i64 n_x) (h_n_y : InR .i64 n_y) (h_n_z : InR .i64 n_z) (h_d_x : InR .i64 d_x) (h_d_y : InR .i64 d_y) (h_d_z : InR .i64 d_z) : (tr_bend_Cos n_x n_y n_z d_x d_y d_z).run = some (i6 (cosN n_x n_y n_z d_x d_y d_z)) := by
  unfold tr_bend_Cos
  by_cases h : ((-16385 ≤ n_x ∧ n_x ≤ 16385) ∧ (-16385 ≤ n_y ∧ n_y ≤ 16385) ∧ (-16385 ≤ n_z ∧ n_z ≤ 16385)) ∧ ((-16385 ≤ d_x ∧ d_x ≤ 16385) ∧ (-16385 ≤ d_y ∧ d_y ≤ 16385) ∧ (-16385 ≤ d_z ∧ d_z ≤ 16385))
  · obtain ⟨hn, hd⟩ := h
    have sd : shortB d_x d_y d_z = true := decide_eq_true hd
    have sn : shortB n_x n_y n_z = true := decide_eq_true hn
    rw [cos_all (short_near sn) (short_near sd), cosN_eq sn sd]
    refine (run_f (decide_eq_false (by simp only [mx_gt, mx_le, mn_lt, mn_ge]; omega))).trans ((run_f (decide_eq_false (by simp only [mx_gt, mx_le, mn_lt, mn_ge]; omega))).trans ((run_f (decide_eq_false (by simp only [mx_gt, mx_le, mn_lt, mn_ge]; omega))).trans ((run_f (decide_eq_false (by simp only [mx_gt, mx_le, mn_lt, mn_ge]; omega))).trans (?_))))
    rfl
  · rw [show cosN n_x n_y n_z d_x d_y d_z = 0 by unfold cosN shortB; rw [if_neg]; simp only [decide_eq_true_eq]; exact h]
    repeat (first | (refine run_guard (fun _ => rfl) (fun _ => ?_)) | (refine run_guard (fun _ => ?_) (fun _ => rfl)))
    exfalso
    simp only [decide_eq_true_eq, decide_eq_false_iff_not, Bool.not_eq_true', Bool.not_eq_false', mx_gt, mx_le, mn_lt, mn_ge] at *
    omega

/-! skylightref24.Cos -/
def tr_skylightref24_Cos (n_x : Int) (n_y : Int) (n_z : Int) (d_x : Int) (d_y : Int) (d_z : Int) : Tr AV := Tr.node (decide (mm true (mm true n_x n_y) n_z ≤ 16385)) (Tr.node (!decide (mm false (mm false n_x n_y) n_z ≥ -16385)) (Tr.leaf (AV.int IntKind.i64 false 0)) (Tr.node (decide (mm true (mm true d_x d_y) d_z ≤ 16385)) (Tr.node (!decide (mm false (mm false d_x d_y) d_z ≥ -16385)) (Tr.leaf (AV.int IntKind.i64 false 0)) (Tr.leaf (AV.int IntKind.i64 false (hold (if (1 : Int) ≤ 16384 then IntKind.i64.wrap (0 - dotN (facC n_x n_x n_y n_z d_x d_y d_z) (facC n_y n_x n_y n_z d_x d_y d_z) (facC n_z n_x n_y n_z d_x d_y d_z) d_x d_y d_z) / 16384 else 0) 0 16384)))) (Tr.leaf (AV.int IntKind.i64 false 0)))) (Tr.leaf (AV.int IntKind.i64 false 0))
theorem run_skylightref24_Cos (n_x : Int) (n_y : Int) (n_z : Int) (d_x : Int) (d_y : Int) (d_z : Int) (h_n_x : InR .i64 n_x) (h_n_y : InR .i64 n_y) (h_n_z : InR .i64 n_z) (h_d_x : InR .i64 d_x) (h_d_y : InR .i64 d_y) (h_d_z : InR .i64 d_z) : (tr_skylightref24_Cos n_x n_y n_z d_x d_y d_z).run = some (i6 (cosN n_x n_y n_z d_x d_y d_z)) := by
  unfold tr_skylightref24_Cos
  by_cases h : ((-16385 ≤ n_x ∧ n_x ≤ 16385) ∧ (-16385 ≤ n_y ∧ n_y ≤ 16385) ∧ (-16385 ≤ n_z ∧ n_z ≤ 16385)) ∧ ((-16385 ≤ d_x ∧ d_x ≤ 16385) ∧ (-16385 ≤ d_y ∧ d_y ≤ 16385) ∧ (-16385 ≤ d_z ∧ d_z ≤ 16385))
  · obtain ⟨hn, hd⟩ := h
    have sd : shortB d_x d_y d_z = true := decide_eq_true hd
    have sn : shortB n_x n_y n_z = true := decide_eq_true hn
    have e := cos_all (short_near sn) (short_near sd)
    unfold dv at e
    rw [e, cosN_eq sn sd]
    refine (run_t (decide_eq_true (by simp only [mx_gt, mx_le, mn_lt, mn_ge]; omega))).trans ((run_f (by rw [decide_eq_true (by simp only [mx_gt, mx_le, mn_lt, mn_ge]; omega)]; rfl)).trans ((run_t (decide_eq_true (by simp only [mx_gt, mx_le, mn_lt, mn_ge]; omega))).trans ((run_f (by rw [decide_eq_true (by simp only [mx_gt, mx_le, mn_lt, mn_ge]; omega)]; rfl)).trans (?_))))
    rfl
  · rw [show cosN n_x n_y n_z d_x d_y d_z = 0 by unfold cosN shortB; rw [if_neg]; simp only [decide_eq_true_eq]; exact h]
    repeat (first | (refine run_guard (fun _ => rfl) (fun _ => ?_)) | (refine run_guard (fun _ => ?_) (fun _ => rfl)))
    exfalso
    simp only [decide_eq_true_eq, decide_eq_false_iff_not, Bool.not_eq_true', Bool.not_eq_false', mx_gt, mx_le, mn_lt, mn_ge] at *
    omega

/-! bend.Sine -/
def tr_bend_Sine (c : Int) (a : Int) (b : Int) : Tr AV := Tr.node (decide (0 ≤ c)) (Tr.node (!decide (c ≤ 16384)) (Tr.leaf (AV.int IntKind.i64 false 0)) (Tr.node (decide (a < 16384)) (Tr.leaf (AV.int IntKind.i64 false 0)) (Tr.node (decide (a > 65536)) (Tr.leaf (AV.int IntKind.i64 false 0)) (Tr.node (decide (b < 16384)) (Tr.leaf (AV.int IntKind.i64 false 0)) (Tr.node (decide (b > 65536)) (Tr.leaf (AV.int IntKind.i64 false 0)) (Tr.node (decide (IntKind.i64.wrap (b * b) = 0)) Tr.bad (Tr.leaf (AV.int IntKind.i64 false (IntKind.i64.wrap ((IntKind.i64.wrap (IntKind.i64.wrap (IntKind.i64.wrap (268435456 - IntKind.i64.wrap (c * c)) * a) * a)).tdiv (IntKind.i64.wrap (b * b)))))))))))) (Tr.leaf (AV.int IntKind.i64 false 0))
theorem run_bend_Sine (c : Int) (a : Int) (b : Int) (h_c : InR .i64 c) (h_a : InR .i64 a) (h_b : InR .i64 b) : (tr_bend_Sine c a b).run = some (i6 (sineN c a b)) := by
  unfold tr_bend_Sine
  by_cases h : (0 ≤ c ∧ c ≤ 16384) ∧ (16384 ≤ a ∧ a ≤ 65536) ∧ (16384 ≤ b ∧ b ≤ 65536)
  · obtain ⟨hc, ha, hb⟩ := h
    obtain ⟨s1, s2, s3, s4, s5⟩ := sine_r hc ha hb
    have s6 : (268435456 - c * c) * a * a / (b * b) ≤ (268435456 - c * c) * a * a := Int.ediv_le_self _ (by omega)
    rw [wrap_i64_id (n := b * b) (by omega), wrap_i64_id (n := c * c) (by omega), wrap_i64_id (n := 268435456 - c * c) (by omega), wrap_i64_id (n := (268435456 - c * c) * a) (by omega), wrap_i64_id (n := (268435456 - c * c) * a * a) (by omega),
      Int.tdiv_eq_ediv_of_nonneg (by omega), wrap_i64_id (by omega), sineN_eq hc ha hb]
    refine (run_t (decide_eq_true (by omega))).trans ((run_f (by rw [decide_eq_true (by omega)]; rfl)).trans ((run_f (decide_eq_false (by omega))).trans ((run_f (decide_eq_false (by omega))).trans ((run_f (decide_eq_false (by omega))).trans ((run_f (decide_eq_false (by omega))).trans ((run_f (decide_eq_false (by omega))).trans (?_)))))))
    rfl
  · rw [show sineN c a b = 0 by unfold sineN cosB idxB; rw [if_neg]; simp only [decide_eq_true_eq]; exact h]
    repeat (first | (refine run_guard (fun _ => rfl) (fun _ => ?_)) | (refine run_guard (fun _ => ?_) (fun _ => rfl)))
    exfalso
    simp only [decide_eq_true_eq, decide_eq_false_iff_not, Bool.not_eq_true', Bool.not_eq_false', mx_gt, mx_le, mn_lt, mn_ge] at *
    omega

/-! skylightref24.Sine -/
def tr_skylightref24_Sine (c : Int) (a : Int) (b : Int) : Tr AV := Tr.node (decide (c < 0)) (Tr.leaf (AV.int IntKind.i64 false 0)) (Tr.node (decide (c > 16384)) (Tr.leaf (AV.int IntKind.i64 false 0)) (Tr.node (decide (a ≥ 16384)) (Tr.node (!decide (a ≤ 65536)) (Tr.leaf (AV.int IntKind.i64 false 0)) (Tr.node (decide (b ≥ 16384)) (Tr.node (!decide (b ≤ 65536)) (Tr.leaf (AV.int IntKind.i64 false 0)) (Tr.leaf (AV.int IntKind.i64 false (if 1 ≤ IntKind.i64.wrap (b * b) then IntKind.i64.wrap (IntKind.i64.wrap (IntKind.i64.wrap (268435456 - IntKind.i64.wrap (c * c)) * a) * a) / IntKind.i64.wrap (b * b) else 0)))) (Tr.leaf (AV.int IntKind.i64 false 0)))) (Tr.leaf (AV.int IntKind.i64 false 0))))
theorem run_skylightref24_Sine (c : Int) (a : Int) (b : Int) (h_c : InR .i64 c) (h_a : InR .i64 a) (h_b : InR .i64 b) : (tr_skylightref24_Sine c a b).run = some (i6 (sineN c a b)) := by
  unfold tr_skylightref24_Sine
  by_cases h : (0 ≤ c ∧ c ≤ 16384) ∧ (16384 ≤ a ∧ a ≤ 65536) ∧ (16384 ≤ b ∧ b ≤ 65536)
  · obtain ⟨hc, ha, hb⟩ := h
    obtain ⟨s1, s2, s3, s4, s5⟩ := sine_r hc ha hb
    rw [wrap_i64_id (n := b * b) (by omega), wrap_i64_id (n := c * c) (by omega), wrap_i64_id (n := 268435456 - c * c) (by omega), wrap_i64_id (n := (268435456 - c * c) * a) (by omega), wrap_i64_id (n := (268435456 - c * c) * a * a) (by omega),
      if_pos (by omega), sineN_eq hc ha hb]
    refine (run_f (decide_eq_false (by omega))).trans ((run_f (decide_eq_false (by omega))).trans ((run_t (decide_eq_true (by omega))).trans ((run_f (by rw [decide_eq_true (by omega)]; rfl)).trans ((run_t (decide_eq_true (by omega))).trans ((run_f (by rw [decide_eq_true (by omega)]; rfl)).trans (?_))))))
    rfl
  · rw [show sineN c a b = 0 by unfold sineN cosB idxB; rw [if_neg]; simp only [decide_eq_true_eq]; exact h]
    repeat (first | (refine run_guard (fun _ => rfl) (fun _ => ?_)) | (refine run_guard (fun _ => ?_) (fun _ => rfl)))
    exfalso
    simp only [decide_eq_true_eq, decide_eq_false_iff_not, Bool.not_eq_true', Bool.not_eq_false', mx_gt, mx_le, mn_lt, mn_ge] at *
    omega

/-! bend.Bend -/
def tr_bend_Bend (d_x : Int) (d_y : Int) (d_z : Int) (n_x : Int) (n_y : Int) (n_z : Int) (a : Int) (b : Int) : Tr AV := Tr.node (decide (mm true (mm true d_x d_y) d_z > 16385)) (Tr.leaf (AV.tuple [AV.agg [AV.int IntKind.i64 false 0, AV.int IntKind.i64 false 0, AV.int IntKind.i64 false 0], AV.bool false false])) (Tr.node (decide (mm false (mm false d_x d_y) d_z < -16385)) (Tr.leaf (AV.tuple [AV.agg [AV.int IntKind.i64 false 0, AV.int IntKind.i64 false 0, AV.int IntKind.i64 false 0], AV.bool false false])) (Tr.node (decide (mm true (mm true n_x n_y) n_z > 16385)) (Tr.leaf (AV.tuple [AV.agg [AV.int IntKind.i64 false 0, AV.int IntKind.i64 false 0, AV.int IntKind.i64 false 0], AV.bool false false])) (Tr.node (decide (mm false (mm false n_x n_y) n_z < -16385)) (Tr.leaf (AV.tuple [AV.agg [AV.int IntKind.i64 false 0, AV.int IntKind.i64 false 0, AV.int IntKind.i64 false 0], AV.bool false false])) (Tr.node (decide (a < 16384)) (Tr.leaf (AV.tuple [AV.agg [AV.int IntKind.i64 false 0, AV.int IntKind.i64 false 0, AV.int IntKind.i64 false 0], AV.bool false false])) (Tr.node (decide (a > 65536)) (Tr.leaf (AV.tuple [AV.agg [AV.int IntKind.i64 false 0, AV.int IntKind.i64 false 0, AV.int IntKind.i64 false 0], AV.bool false false])) (Tr.node (decide (b < 16384)) (Tr.leaf (AV.tuple [AV.agg [AV.int IntKind.i64 false 0, AV.int IntKind.i64 false 0, AV.int IntKind.i64 false 0], AV.bool false false])) (Tr.node (decide (b > 65536)) (Tr.leaf (AV.tuple [AV.agg [AV.int IntKind.i64 false 0, AV.int IntKind.i64 false 0, AV.int IntKind.i64 false 0], AV.bool false false])) (Tr.node (decide (sineN (hold (dv (IntKind.i64.wrap (0 - dotN (facC n_x n_x n_y n_z d_x d_y d_z) (facC n_y n_x n_y n_z d_x d_y d_z) (facC n_z n_x n_y n_z d_x d_y d_z) d_x d_y d_z)) 16384) 0 16384) a b > 268435456)) (Tr.leaf (AV.tuple [AV.agg [AV.int IntKind.i64 false 0, AV.int IntKind.i64 false 0, AV.int IntKind.i64 false 0], AV.bool false false])) (Tr.node (decide (b = 0)) Tr.bad (Tr.leaf (AV.tuple [AV.agg [AV.int IntKind.i64 false (unitC (sat (atF d_x a b + atF (facC n_x n_x n_y n_z d_x d_y d_z) (IntKind.i64.wrap (IntKind.i64.wrap ((IntKind.i64.wrap (hold (dv (IntKind.i64.wrap (0 - dotN (facC n_x n_x n_y n_z d_x d_y d_z) (facC n_y n_x n_y n_z d_x d_y d_z) (facC n_z n_x n_y n_z d_x d_y d_z) d_x d_y d_z)) 16384) 0 16384 * a)).tdiv b) - isq (IntKind.u64.wrap (IntKind.i64.wrap (268435456 - sineN (hold (dv (IntKind.i64.wrap (0 - dotN (facC n_x n_x n_y n_z d_x d_y d_z) (facC n_y n_x n_y n_z d_x d_y d_z) (facC n_z n_x n_y n_z d_x d_y d_z) d_x d_y d_z)) 16384) 0 16384) a b))))) 16384)) (sat (atF d_y a b + atF (facC n_y n_x n_y n_z d_x d_y d_z) (IntKind.i64.wrap (IntKind.i64.wrap ((IntKind.i64.wrap (hold (dv (IntKind.i64.wrap (0 - dotN (facC n_x n_x n_y n_z d_x d_y d_z) (facC n_y n_x n_y n_z d_x d_y d_z) (facC n_z n_x n_y n_z d_x d_y d_z) d_x d_y d_z)) 16384) 0 16384 * a)).tdiv b) - isq (IntKind.u64.wrap (IntKind.i64.wrap (268435456 - sineN (hold (dv (IntKind.i64.wrap (0 - dotN (facC n_x n_x n_y n_z d_x d_y d_z) (facC n_y n_x n_y n_z d_x d_y d_z) (facC n_z n_x n_y n_z d_x d_y d_z) d_x d_y d_z)) 16384) 0 16384) a b))))) 16384)) (sat (atF d_z a b + atF (facC n_z n_x n_y n_z d_x d_y d_z) (IntKind.i64.wrap (IntKind.i64.wrap ((IntKind.i64.wrap (hold (dv (IntKind.i64.wrap (0 - dotN (facC n_x n_x n_y n_z d_x d_y d_z) (facC n_y n_x n_y n_z d_x d_y d_z) (facC n_z n_x n_y n_z d_x d_y d_z) d_x d_y d_z)) 16384) 0 16384 * a)).tdiv b) - isq (IntKind.u64.wrap (IntKind.i64.wrap (268435456 - sineN (hold (dv (IntKind.i64.wrap (0 - dotN (facC n_x n_x n_y n_z d_x d_y d_z) (facC n_y n_x n_y n_z d_x d_y d_z) (facC n_z n_x n_y n_z d_x d_y d_z) d_x d_y d_z)) 16384) 0 16384) a b))))) 16384)) (sat (atF d_x a b + atF (facC n_x n_x n_y n_z d_x d_y d_z) (IntKind.i64.wrap (IntKind.i64.wrap ((IntKind.i64.wrap (hold (dv (IntKind.i64.wrap (0 - dotN (facC n_x n_x n_y n_z d_x d_y d_z) (facC n_y n_x n_y n_z d_x d_y d_z) (facC n_z n_x n_y n_z d_x d_y d_z) d_x d_y d_z)) 16384) 0 16384 * a)).tdiv b) - isq (IntKind.u64.wrap (IntKind.i64.wrap (268435456 - sineN (hold (dv (IntKind.i64.wrap (0 - dotN (facC n_x n_x n_y n_z d_x d_y d_z) (facC n_y n_x n_y n_z d_x d_y d_z) (facC n_z n_x n_y n_z d_x d_y d_z) d_x d_y d_z)) 16384) 0 16384) a b))))) 16384))), AV.int IntKind.i64 false (unitC (sat (atF d_x a b + atF (facC n_x n_x n_y n_z d_x d_y d_z) (IntKind.i64.wrap (IntKind.i64.wrap ((IntKind.i64.wrap (hold (dv (IntKind.i64.wrap (0 - dotN (facC n_x n_x n_y n_z d_x d_y d_z) (facC n_y n_x n_y n_z d_x d_y d_z) (facC n_z n_x n_y n_z d_x d_y d_z) d_x d_y d_z)) 16384) 0 16384 * a)).tdiv b) - isq (IntKind.u64.wrap (IntKind.i64.wrap (268435456 - sineN (hold (dv (IntKind.i64.wrap (0 - dotN (facC n_x n_x n_y n_z d_x d_y d_z) (facC n_y n_x n_y n_z d_x d_y d_z) (facC n_z n_x n_y n_z d_x d_y d_z) d_x d_y d_z)) 16384) 0 16384) a b))))) 16384)) (sat (atF d_y a b + atF (facC n_y n_x n_y n_z d_x d_y d_z) (IntKind.i64.wrap (IntKind.i64.wrap ((IntKind.i64.wrap (hold (dv (IntKind.i64.wrap (0 - dotN (facC n_x n_x n_y n_z d_x d_y d_z) (facC n_y n_x n_y n_z d_x d_y d_z) (facC n_z n_x n_y n_z d_x d_y d_z) d_x d_y d_z)) 16384) 0 16384 * a)).tdiv b) - isq (IntKind.u64.wrap (IntKind.i64.wrap (268435456 - sineN (hold (dv (IntKind.i64.wrap (0 - dotN (facC n_x n_x n_y n_z d_x d_y d_z) (facC n_y n_x n_y n_z d_x d_y d_z) (facC n_z n_x n_y n_z d_x d_y d_z) d_x d_y d_z)) 16384) 0 16384) a b))))) 16384)) (sat (atF d_z a b + atF (facC n_z n_x n_y n_z d_x d_y d_z) (IntKind.i64.wrap (IntKind.i64.wrap ((IntKind.i64.wrap (hold (dv (IntKind.i64.wrap (0 - dotN (facC n_x n_x n_y n_z d_x d_y d_z) (facC n_y n_x n_y n_z d_x d_y d_z) (facC n_z n_x n_y n_z d_x d_y d_z) d_x d_y d_z)) 16384) 0 16384 * a)).tdiv b) - isq (IntKind.u64.wrap (IntKind.i64.wrap (268435456 - sineN (hold (dv (IntKind.i64.wrap (0 - dotN (facC n_x n_x n_y n_z d_x d_y d_z) (facC n_y n_x n_y n_z d_x d_y d_z) (facC n_z n_x n_y n_z d_x d_y d_z) d_x d_y d_z)) 16384) 0 16384) a b))))) 16384)) (sat (atF d_y a b + atF (facC n_y n_x n_y n_z d_x d_y d_z) (IntKind.i64.wrap (IntKind.i64.wrap ((IntKind.i64.wrap (hold (dv (IntKind.i64.wrap (0 - dotN (facC n_x n_x n_y n_z d_x d_y d_z) (facC n_y n_x n_y n_z d_x d_y d_z) (facC n_z n_x n_y n_z d_x d_y d_z) d_x d_y d_z)) 16384) 0 16384 * a)).tdiv b) - isq (IntKind.u64.wrap (IntKind.i64.wrap (268435456 - sineN (hold (dv (IntKind.i64.wrap (0 - dotN (facC n_x n_x n_y n_z d_x d_y d_z) (facC n_y n_x n_y n_z d_x d_y d_z) (facC n_z n_x n_y n_z d_x d_y d_z) d_x d_y d_z)) 16384) 0 16384) a b))))) 16384))), AV.int IntKind.i64 false (unitC (sat (atF d_x a b + atF (facC n_x n_x n_y n_z d_x d_y d_z) (IntKind.i64.wrap (IntKind.i64.wrap ((IntKind.i64.wrap (hold (dv (IntKind.i64.wrap (0 - dotN (facC n_x n_x n_y n_z d_x d_y d_z) (facC n_y n_x n_y n_z d_x d_y d_z) (facC n_z n_x n_y n_z d_x d_y d_z) d_x d_y d_z)) 16384) 0 16384 * a)).tdiv b) - isq (IntKind.u64.wrap (IntKind.i64.wrap (268435456 - sineN (hold (dv (IntKind.i64.wrap (0 - dotN (facC n_x n_x n_y n_z d_x d_y d_z) (facC n_y n_x n_y n_z d_x d_y d_z) (facC n_z n_x n_y n_z d_x d_y d_z) d_x d_y d_z)) 16384) 0 16384) a b))))) 16384)) (sat (atF d_y a b + atF (facC n_y n_x n_y n_z d_x d_y d_z) (IntKind.i64.wrap (IntKind.i64.wrap ((IntKind.i64.wrap (hold (dv (IntKind.i64.wrap (0 - dotN (facC n_x n_x n_y n_z d_x d_y d_z) (facC n_y n_x n_y n_z d_x d_y d_z) (facC n_z n_x n_y n_z d_x d_y d_z) d_x d_y d_z)) 16384) 0 16384 * a)).tdiv b) - isq (IntKind.u64.wrap (IntKind.i64.wrap (268435456 - sineN (hold (dv (IntKind.i64.wrap (0 - dotN (facC n_x n_x n_y n_z d_x d_y d_z) (facC n_y n_x n_y n_z d_x d_y d_z) (facC n_z n_x n_y n_z d_x d_y d_z) d_x d_y d_z)) 16384) 0 16384) a b))))) 16384)) (sat (atF d_z a b + atF (facC n_z n_x n_y n_z d_x d_y d_z) (IntKind.i64.wrap (IntKind.i64.wrap ((IntKind.i64.wrap (hold (dv (IntKind.i64.wrap (0 - dotN (facC n_x n_x n_y n_z d_x d_y d_z) (facC n_y n_x n_y n_z d_x d_y d_z) (facC n_z n_x n_y n_z d_x d_y d_z) d_x d_y d_z)) 16384) 0 16384 * a)).tdiv b) - isq (IntKind.u64.wrap (IntKind.i64.wrap (268435456 - sineN (hold (dv (IntKind.i64.wrap (0 - dotN (facC n_x n_x n_y n_z d_x d_y d_z) (facC n_y n_x n_y n_z d_x d_y d_z) (facC n_z n_x n_y n_z d_x d_y d_z) d_x d_y d_z)) 16384) 0 16384) a b))))) 16384)) (sat (atF d_z a b + atF (facC n_z n_x n_y n_z d_x d_y d_z) (IntKind.i64.wrap (IntKind.i64.wrap ((IntKind.i64.wrap (hold (dv (IntKind.i64.wrap (0 - dotN (facC n_x n_x n_y n_z d_x d_y d_z) (facC n_y n_x n_y n_z d_x d_y d_z) (facC n_z n_x n_y n_z d_x d_y d_z) d_x d_y d_z)) 16384) 0 16384 * a)).tdiv b) - isq (IntKind.u64.wrap (IntKind.i64.wrap (268435456 - sineN (hold (dv (IntKind.i64.wrap (0 - dotN (facC n_x n_x n_y n_z d_x d_y d_z) (facC n_y n_x n_y n_z d_x d_y d_z) (facC n_z n_x n_y n_z d_x d_y d_z) d_x d_y d_z)) 16384) 0 16384) a b))))) 16384)))], AV.bool false (okU (sat (atF d_x a b + atF (facC n_x n_x n_y n_z d_x d_y d_z) (IntKind.i64.wrap (IntKind.i64.wrap ((IntKind.i64.wrap (hold (dv (IntKind.i64.wrap (0 - dotN (facC n_x n_x n_y n_z d_x d_y d_z) (facC n_y n_x n_y n_z d_x d_y d_z) (facC n_z n_x n_y n_z d_x d_y d_z) d_x d_y d_z)) 16384) 0 16384 * a)).tdiv b) - isq (IntKind.u64.wrap (IntKind.i64.wrap (268435456 - sineN (hold (dv (IntKind.i64.wrap (0 - dotN (facC n_x n_x n_y n_z d_x d_y d_z) (facC n_y n_x n_y n_z d_x d_y d_z) (facC n_z n_x n_y n_z d_x d_y d_z) d_x d_y d_z)) 16384) 0 16384) a b))))) 16384)) (sat (atF d_y a b + atF (facC n_y n_x n_y n_z d_x d_y d_z) (IntKind.i64.wrap (IntKind.i64.wrap ((IntKind.i64.wrap (hold (dv (IntKind.i64.wrap (0 - dotN (facC n_x n_x n_y n_z d_x d_y d_z) (facC n_y n_x n_y n_z d_x d_y d_z) (facC n_z n_x n_y n_z d_x d_y d_z) d_x d_y d_z)) 16384) 0 16384 * a)).tdiv b) - isq (IntKind.u64.wrap (IntKind.i64.wrap (268435456 - sineN (hold (dv (IntKind.i64.wrap (0 - dotN (facC n_x n_x n_y n_z d_x d_y d_z) (facC n_y n_x n_y n_z d_x d_y d_z) (facC n_z n_x n_y n_z d_x d_y d_z) d_x d_y d_z)) 16384) 0 16384) a b))))) 16384)) (sat (atF d_z a b + atF (facC n_z n_x n_y n_z d_x d_y d_z) (IntKind.i64.wrap (IntKind.i64.wrap ((IntKind.i64.wrap (hold (dv (IntKind.i64.wrap (0 - dotN (facC n_x n_x n_y n_z d_x d_y d_z) (facC n_y n_x n_y n_z d_x d_y d_z) (facC n_z n_x n_y n_z d_x d_y d_z) d_x d_y d_z)) 16384) 0 16384 * a)).tdiv b) - isq (IntKind.u64.wrap (IntKind.i64.wrap (268435456 - sineN (hold (dv (IntKind.i64.wrap (0 - dotN (facC n_x n_x n_y n_z d_x d_y d_z) (facC n_y n_x n_y n_z d_x d_y d_z) (facC n_z n_x n_y n_z d_x d_y d_z) d_x d_y d_z)) 16384) 0 16384) a b))))) 16384)))])))))))))))
theorem run_bend_Bend (d_x : Int) (d_y : Int) (d_z : Int) (n_x : Int) (n_y : Int) (n_z : Int) (a : Int) (b : Int) (h_d_x : InR .i64 d_x) (h_d_y : InR .i64 d_y) (h_d_z : InR .i64 d_z) (h_n_x : InR .i64 n_x) (h_n_y : InR .i64 n_y) (h_n_z : InR .i64 n_z) (h_a : InR .i64 a) (h_b : InR .i64 b) : (tr_bend_Bend d_x d_y d_z n_x n_y n_z a b).run = some (.tuple [v3 (bendU (bndC d_x n_x d_x d_y d_z n_x n_y n_z a b) d_x d_y d_z n_x n_y n_z a b) (bendU (bndC d_y n_y d_x d_y d_z n_x n_y n_z a b) d_x d_y d_z n_x n_y n_z a b) (bendU (bndC d_z n_z d_x d_y d_z n_x n_y n_z a b) d_x d_y d_z n_x n_y n_z a b), bb (bendIs d_x d_y d_z n_x n_y n_z a b)]) := by
  unfold tr_bend_Bend
  by_cases h : (((-16385 ≤ d_x ∧ d_x ≤ 16385) ∧ (-16385 ≤ d_y ∧ d_y ≤ 16385) ∧ (-16385 ≤ d_z ∧ d_z ≤ 16385)) ∧ ((-16385 ≤ n_x ∧ n_x ≤ 16385) ∧ (-16385 ≤ n_y ∧ n_y ≤ 16385) ∧ (-16385 ≤ n_z ∧ n_z ≤ 16385))) ∧ (16384 ≤ a ∧ a ≤ 65536) ∧ (16384 ≤ b ∧ b ≤ 65536)
  rotate_left
  · have ok : bendOk d_x d_y d_z n_x n_y n_z a b = false := by
      unfold bendOk shortB idxB
      simp only [Bool.and_eq_false_iff, decide_eq_false_iff_not]
      omega
    unfold bendIs bendU
    simp only [ok, Bool.false_and, Bool.false_eq_true, if_false]
    repeat (first | (refine run_guard (fun _ => rfl) (fun _ => ?_)) | (refine run_guard (fun _ => ?_) (fun _ => rfl)))
    exfalso
    simp only [decide_eq_true_eq, decide_eq_false_iff_not, Bool.not_eq_true', Bool.not_eq_false', mx_gt, mx_le, mn_lt, mn_ge] at *
    omega
  obtain ⟨⟨hd, hn⟩, ha, hb⟩ := h
  have sd : shortB d_x d_y d_z = true := decide_eq_true hd
  have sn : shortB n_x n_y n_z = true := decide_eq_true hn
  have hc := @cosN_r n_x n_y n_z d_x d_y d_z
  have hcos := cos_all (short_near sn) (short_near sd)
  rw [← cosN_eq sn sd] at hcos
  refine (run_f (decide_eq_false (by simp only [mx_gt, mx_le, mn_lt, mn_ge]; omega))).trans ((run_f (decide_eq_false (by simp only [mx_gt, mx_le, mn_lt, mn_ge]; omega))).trans ((run_f (decide_eq_false (by simp only [mx_gt, mx_le, mn_lt, mn_ge]; omega))).trans ((run_f (decide_eq_false (by simp only [mx_gt, mx_le, mn_lt, mn_ge]; omega))).trans ((run_f (decide_eq_false (by omega))).trans ((run_f (decide_eq_false (by omega))).trans ((run_f (decide_eq_false (by omega))).trans ((run_f (decide_eq_false (by omega))).trans (?_))))))))
  simp only [hcos]
  obtain ⟨_, _, _, _, s0⟩ := sine_r hc ha hb
  rw [← sineN_eq hc ha hb] at s0
  by_cases hs : sineN (cosN n_x n_y n_z d_x d_y d_z) a b > 268435456
  · have ok : bendOk d_x d_y d_z n_x n_y n_z a b = false := by
      unfold bendOk; simp only [Bool.and_eq_false_iff]; exact .inr (decide_eq_false (by omega))
    unfold bendIs bendU
    simp only [ok, Bool.false_and, Bool.false_eq_true, if_false]
    exact run_t (decide_eq_true hs)
  refine (run_f (decide_eq_false hs)).trans ?_
  have ok : bendOk d_x d_y d_z n_x n_y n_z a b = true := by
    unfold bendOk idxB; simp only [Bool.and_eq_true]; exact ⟨⟨⟨⟨sd, sn⟩, decide_eq_true ha⟩, decide_eq_true hb⟩, decide_eq_true (by omega)⟩
  unfold bendIs bendU
  simp only [ok, Bool.true_and, if_true]
  have ex := bnd_prog hc ha hb ⟨s0, by omega⟩ hd.1 (facC_r (nx := n_x) (ny := n_y) (nz := n_z) (dx := d_x) (dy := d_y) (dz := d_z) hn.1)
  have ey := bnd_prog hc ha hb ⟨s0, by omega⟩ hd.2.1 (facC_r (nx := n_x) (ny := n_y) (nz := n_z) (dx := d_x) (dy := d_y) (dz := d_z) hn.2.1)
  have ez := bnd_prog hc ha hb ⟨s0, by omega⟩ hd.2.2 (facC_r (nx := n_x) (ny := n_y) (nz := n_z) (dx := d_x) (dy := d_y) (dz := d_z) hn.2.2)
  rw [ex, ey, ez]
  exact run_f (decide_eq_false (by omega))

/-! skylightref24.Bend -/
def tr_skylightref24_Bend (d_x : Int) (d_y : Int) (d_z : Int) (n_x : Int) (n_y : Int) (n_z : Int) (a : Int) (b : Int) : Tr AV := Tr.node (decide (mm true (mm true d_x d_y) d_z ≤ 16385)) (Tr.node (!decide (mm false (mm false d_x d_y) d_z ≥ -16385)) (Tr.leaf (AV.tuple [AV.agg [AV.int IntKind.i64 false 0, AV.int IntKind.i64 false 0, AV.int IntKind.i64 false 0], AV.bool false false])) (Tr.node (decide (mm true (mm true n_x n_y) n_z ≤ 16385)) (Tr.node (!decide (mm false (mm false n_x n_y) n_z ≥ -16385)) (Tr.leaf (AV.tuple [AV.agg [AV.int IntKind.i64 false 0, AV.int IntKind.i64 false 0, AV.int IntKind.i64 false 0], AV.bool false false])) (Tr.node (decide (a ≥ 16384)) (Tr.node (!decide (a ≤ 65536)) (Tr.leaf (AV.tuple [AV.agg [AV.int IntKind.i64 false 0, AV.int IntKind.i64 false 0, AV.int IntKind.i64 false 0], AV.bool false false])) (Tr.node (decide (b ≥ 16384)) (Tr.node (!decide (b ≤ 65536)) (Tr.leaf (AV.tuple [AV.agg [AV.int IntKind.i64 false 0, AV.int IntKind.i64 false 0, AV.int IntKind.i64 false 0], AV.bool false false])) (Tr.node (decide (sineN (cosN n_x n_y n_z d_x d_y d_z) a b > 268435456)) (Tr.leaf (AV.tuple [AV.agg [AV.int IntKind.i64 false 0, AV.int IntKind.i64 false 0, AV.int IntKind.i64 false 0], AV.bool false false])) (Tr.leaf (AV.tuple [AV.agg [AV.int IntKind.i64 false (unitC (IntKind.i64.wrap ((if 1 ≤ b then IntKind.i64.wrap (d_x * a) / b else 0) + if (1 : Int) ≤ 16384 then IntKind.i64.wrap (facC n_x n_x n_y n_z d_x d_y d_z * IntKind.i64.wrap ((if 1 ≤ b then IntKind.i64.wrap (cosN n_x n_y n_z d_x d_y d_z * a) / b else 0) - isq (IntKind.u64.wrap (IntKind.i64.wrap (268435456 - sineN (cosN n_x n_y n_z d_x d_y d_z) a b))))) / 16384 else 0)) (IntKind.i64.wrap ((if 1 ≤ b then IntKind.i64.wrap (d_y * a) / b else 0) + if (1 : Int) ≤ 16384 then IntKind.i64.wrap (facC n_y n_x n_y n_z d_x d_y d_z * IntKind.i64.wrap ((if 1 ≤ b then IntKind.i64.wrap (cosN n_x n_y n_z d_x d_y d_z * a) / b else 0) - isq (IntKind.u64.wrap (IntKind.i64.wrap (268435456 - sineN (cosN n_x n_y n_z d_x d_y d_z) a b))))) / 16384 else 0)) (IntKind.i64.wrap ((if 1 ≤ b then IntKind.i64.wrap (d_z * a) / b else 0) + if (1 : Int) ≤ 16384 then IntKind.i64.wrap (facC n_z n_x n_y n_z d_x d_y d_z * IntKind.i64.wrap ((if 1 ≤ b then IntKind.i64.wrap (cosN n_x n_y n_z d_x d_y d_z * a) / b else 0) - isq (IntKind.u64.wrap (IntKind.i64.wrap (268435456 - sineN (cosN n_x n_y n_z d_x d_y d_z) a b))))) / 16384 else 0)) (IntKind.i64.wrap ((if 1 ≤ b then IntKind.i64.wrap (d_x * a) / b else 0) + if (1 : Int) ≤ 16384 then IntKind.i64.wrap (facC n_x n_x n_y n_z d_x d_y d_z * IntKind.i64.wrap ((if 1 ≤ b then IntKind.i64.wrap (cosN n_x n_y n_z d_x d_y d_z * a) / b else 0) - isq (IntKind.u64.wrap (IntKind.i64.wrap (268435456 - sineN (cosN n_x n_y n_z d_x d_y d_z) a b))))) / 16384 else 0))), AV.int IntKind.i64 false (unitC (IntKind.i64.wrap ((if 1 ≤ b then IntKind.i64.wrap (d_x * a) / b else 0) + if (1 : Int) ≤ 16384 then IntKind.i64.wrap (facC n_x n_x n_y n_z d_x d_y d_z * IntKind.i64.wrap ((if 1 ≤ b then IntKind.i64.wrap (cosN n_x n_y n_z d_x d_y d_z * a) / b else 0) - isq (IntKind.u64.wrap (IntKind.i64.wrap (268435456 - sineN (cosN n_x n_y n_z d_x d_y d_z) a b))))) / 16384 else 0)) (IntKind.i64.wrap ((if 1 ≤ b then IntKind.i64.wrap (d_y * a) / b else 0) + if (1 : Int) ≤ 16384 then IntKind.i64.wrap (facC n_y n_x n_y n_z d_x d_y d_z * IntKind.i64.wrap ((if 1 ≤ b then IntKind.i64.wrap (cosN n_x n_y n_z d_x d_y d_z * a) / b else 0) - isq (IntKind.u64.wrap (IntKind.i64.wrap (268435456 - sineN (cosN n_x n_y n_z d_x d_y d_z) a b))))) / 16384 else 0)) (IntKind.i64.wrap ((if 1 ≤ b then IntKind.i64.wrap (d_z * a) / b else 0) + if (1 : Int) ≤ 16384 then IntKind.i64.wrap (facC n_z n_x n_y n_z d_x d_y d_z * IntKind.i64.wrap ((if 1 ≤ b then IntKind.i64.wrap (cosN n_x n_y n_z d_x d_y d_z * a) / b else 0) - isq (IntKind.u64.wrap (IntKind.i64.wrap (268435456 - sineN (cosN n_x n_y n_z d_x d_y d_z) a b))))) / 16384 else 0)) (IntKind.i64.wrap ((if 1 ≤ b then IntKind.i64.wrap (d_y * a) / b else 0) + if (1 : Int) ≤ 16384 then IntKind.i64.wrap (facC n_y n_x n_y n_z d_x d_y d_z * IntKind.i64.wrap ((if 1 ≤ b then IntKind.i64.wrap (cosN n_x n_y n_z d_x d_y d_z * a) / b else 0) - isq (IntKind.u64.wrap (IntKind.i64.wrap (268435456 - sineN (cosN n_x n_y n_z d_x d_y d_z) a b))))) / 16384 else 0))), AV.int IntKind.i64 false (unitC (IntKind.i64.wrap ((if 1 ≤ b then IntKind.i64.wrap (d_x * a) / b else 0) + if (1 : Int) ≤ 16384 then IntKind.i64.wrap (facC n_x n_x n_y n_z d_x d_y d_z * IntKind.i64.wrap ((if 1 ≤ b then IntKind.i64.wrap (cosN n_x n_y n_z d_x d_y d_z * a) / b else 0) - isq (IntKind.u64.wrap (IntKind.i64.wrap (268435456 - sineN (cosN n_x n_y n_z d_x d_y d_z) a b))))) / 16384 else 0)) (IntKind.i64.wrap ((if 1 ≤ b then IntKind.i64.wrap (d_y * a) / b else 0) + if (1 : Int) ≤ 16384 then IntKind.i64.wrap (facC n_y n_x n_y n_z d_x d_y d_z * IntKind.i64.wrap ((if 1 ≤ b then IntKind.i64.wrap (cosN n_x n_y n_z d_x d_y d_z * a) / b else 0) - isq (IntKind.u64.wrap (IntKind.i64.wrap (268435456 - sineN (cosN n_x n_y n_z d_x d_y d_z) a b))))) / 16384 else 0)) (IntKind.i64.wrap ((if 1 ≤ b then IntKind.i64.wrap (d_z * a) / b else 0) + if (1 : Int) ≤ 16384 then IntKind.i64.wrap (facC n_z n_x n_y n_z d_x d_y d_z * IntKind.i64.wrap ((if 1 ≤ b then IntKind.i64.wrap (cosN n_x n_y n_z d_x d_y d_z * a) / b else 0) - isq (IntKind.u64.wrap (IntKind.i64.wrap (268435456 - sineN (cosN n_x n_y n_z d_x d_y d_z) a b))))) / 16384 else 0)) (IntKind.i64.wrap ((if 1 ≤ b then IntKind.i64.wrap (d_z * a) / b else 0) + if (1 : Int) ≤ 16384 then IntKind.i64.wrap (facC n_z n_x n_y n_z d_x d_y d_z * IntKind.i64.wrap ((if 1 ≤ b then IntKind.i64.wrap (cosN n_x n_y n_z d_x d_y d_z * a) / b else 0) - isq (IntKind.u64.wrap (IntKind.i64.wrap (268435456 - sineN (cosN n_x n_y n_z d_x d_y d_z) a b))))) / 16384 else 0)))], AV.bool false (okU (IntKind.i64.wrap ((if 1 ≤ b then IntKind.i64.wrap (d_x * a) / b else 0) + if (1 : Int) ≤ 16384 then IntKind.i64.wrap (facC n_x n_x n_y n_z d_x d_y d_z * IntKind.i64.wrap ((if 1 ≤ b then IntKind.i64.wrap (cosN n_x n_y n_z d_x d_y d_z * a) / b else 0) - isq (IntKind.u64.wrap (IntKind.i64.wrap (268435456 - sineN (cosN n_x n_y n_z d_x d_y d_z) a b))))) / 16384 else 0)) (IntKind.i64.wrap ((if 1 ≤ b then IntKind.i64.wrap (d_y * a) / b else 0) + if (1 : Int) ≤ 16384 then IntKind.i64.wrap (facC n_y n_x n_y n_z d_x d_y d_z * IntKind.i64.wrap ((if 1 ≤ b then IntKind.i64.wrap (cosN n_x n_y n_z d_x d_y d_z * a) / b else 0) - isq (IntKind.u64.wrap (IntKind.i64.wrap (268435456 - sineN (cosN n_x n_y n_z d_x d_y d_z) a b))))) / 16384 else 0)) (IntKind.i64.wrap ((if 1 ≤ b then IntKind.i64.wrap (d_z * a) / b else 0) + if (1 : Int) ≤ 16384 then IntKind.i64.wrap (facC n_z n_x n_y n_z d_x d_y d_z * IntKind.i64.wrap ((if 1 ≤ b then IntKind.i64.wrap (cosN n_x n_y n_z d_x d_y d_z * a) / b else 0) - isq (IntKind.u64.wrap (IntKind.i64.wrap (268435456 - sineN (cosN n_x n_y n_z d_x d_y d_z) a b))))) / 16384 else 0)))])))) (Tr.leaf (AV.tuple [AV.agg [AV.int IntKind.i64 false 0, AV.int IntKind.i64 false 0, AV.int IntKind.i64 false 0], AV.bool false false])))) (Tr.leaf (AV.tuple [AV.agg [AV.int IntKind.i64 false 0, AV.int IntKind.i64 false 0, AV.int IntKind.i64 false 0], AV.bool false false])))) (Tr.leaf (AV.tuple [AV.agg [AV.int IntKind.i64 false 0, AV.int IntKind.i64 false 0, AV.int IntKind.i64 false 0], AV.bool false false])))) (Tr.leaf (AV.tuple [AV.agg [AV.int IntKind.i64 false 0, AV.int IntKind.i64 false 0, AV.int IntKind.i64 false 0], AV.bool false false]))
theorem run_skylightref24_Bend (d_x : Int) (d_y : Int) (d_z : Int) (n_x : Int) (n_y : Int) (n_z : Int) (a : Int) (b : Int) (h_d_x : InR .i64 d_x) (h_d_y : InR .i64 d_y) (h_d_z : InR .i64 d_z) (h_n_x : InR .i64 n_x) (h_n_y : InR .i64 n_y) (h_n_z : InR .i64 n_z) (h_a : InR .i64 a) (h_b : InR .i64 b) : (tr_skylightref24_Bend d_x d_y d_z n_x n_y n_z a b).run = some (.tuple [v3 (bendU (bndC d_x n_x d_x d_y d_z n_x n_y n_z a b) d_x d_y d_z n_x n_y n_z a b) (bendU (bndC d_y n_y d_x d_y d_z n_x n_y n_z a b) d_x d_y d_z n_x n_y n_z a b) (bendU (bndC d_z n_z d_x d_y d_z n_x n_y n_z a b) d_x d_y d_z n_x n_y n_z a b), bb (bendIs d_x d_y d_z n_x n_y n_z a b)]) := by
  unfold tr_skylightref24_Bend
  by_cases h : (((-16385 ≤ d_x ∧ d_x ≤ 16385) ∧ (-16385 ≤ d_y ∧ d_y ≤ 16385) ∧ (-16385 ≤ d_z ∧ d_z ≤ 16385)) ∧ ((-16385 ≤ n_x ∧ n_x ≤ 16385) ∧ (-16385 ≤ n_y ∧ n_y ≤ 16385) ∧ (-16385 ≤ n_z ∧ n_z ≤ 16385))) ∧ (16384 ≤ a ∧ a ≤ 65536) ∧ (16384 ≤ b ∧ b ≤ 65536)
  rotate_left
  · have ok : bendOk d_x d_y d_z n_x n_y n_z a b = false := by
      unfold bendOk shortB idxB
      simp only [Bool.and_eq_false_iff, decide_eq_false_iff_not]
      omega
    unfold bendIs bendU
    simp only [ok, Bool.false_and, Bool.false_eq_true, if_false]
    repeat (first | (refine run_guard (fun _ => rfl) (fun _ => ?_)) | (refine run_guard (fun _ => ?_) (fun _ => rfl)))
    exfalso
    simp only [decide_eq_true_eq, decide_eq_false_iff_not, Bool.not_eq_true', Bool.not_eq_false', mx_gt, mx_le, mn_lt, mn_ge] at *
    omega
  obtain ⟨⟨hd, hn⟩, ha, hb⟩ := h
  have sd : shortB d_x d_y d_z = true := decide_eq_true hd
  have sn : shortB n_x n_y n_z = true := decide_eq_true hn
  have hc := @cosN_r n_x n_y n_z d_x d_y d_z
  have hcos := cos_all (short_near sn) (short_near sd)
  rw [← cosN_eq sn sd] at hcos
  refine (run_t (decide_eq_true (by simp only [mx_gt, mx_le, mn_lt, mn_ge]; omega))).trans ((run_f (by rw [decide_eq_true (by simp only [mx_gt, mx_le, mn_lt, mn_ge]; omega)]; rfl)).trans ((run_t (decide_eq_true (by simp only [mx_gt, mx_le, mn_lt, mn_ge]; omega))).trans ((run_f (by rw [decide_eq_true (by simp only [mx_gt, mx_le, mn_lt, mn_ge]; omega)]; rfl)).trans ((run_t (decide_eq_true (by omega))).trans ((run_f (by rw [decide_eq_true (by omega)]; rfl)).trans ((run_t (decide_eq_true (by omega))).trans ((run_f (by rw [decide_eq_true (by omega)]; rfl)).trans (?_))))))))
  obtain ⟨_, _, _, _, s0⟩ := sine_r hc ha hb
  rw [← sineN_eq hc ha hb] at s0
  by_cases hs : sineN (cosN n_x n_y n_z d_x d_y d_z) a b > 268435456
  · have ok : bendOk d_x d_y d_z n_x n_y n_z a b = false := by
      unfold bendOk; simp only [Bool.and_eq_false_iff]; exact .inr (decide_eq_false (by omega))
    unfold bendIs bendU
    simp only [ok, Bool.false_and, Bool.false_eq_true, if_false]
    exact run_t (decide_eq_true hs)
  refine (run_f (decide_eq_false hs)).trans ?_
  have ok : bendOk d_x d_y d_z n_x n_y n_z a b = true := by
    unfold bendOk idxB; simp only [Bool.and_eq_true]; exact ⟨⟨⟨⟨sd, sn⟩, decide_eq_true ha⟩, decide_eq_true hb⟩, decide_eq_true (by omega)⟩
  unfold bendIs bendU
  simp only [ok, Bool.true_and, if_true]
  have ex := bnd_ref hc ha hb ⟨s0, by omega⟩ hd.1 (facC_r (nx := n_x) (ny := n_y) (nz := n_z) (dx := d_x) (dy := d_y) (dz := d_z) hn.1)
  have ey := bnd_ref hc ha hb ⟨s0, by omega⟩ hd.2.1 (facC_r (nx := n_x) (ny := n_y) (nz := n_z) (dx := d_x) (dy := d_y) (dz := d_z) hn.2.1)
  have ez := bnd_ref hc ha hb ⟨s0, by omega⟩ hd.2.2 (facC_r (nx := n_x) (ny := n_y) (nz := n_z) (dx := d_x) (dy := d_y) (dz := d_z) hn.2.2)
  rw [ex, ey, ez]
  rfl

/-! skylightlaw24.BendMore -/
def tr_skylightlaw24_BendMore (c : Int) (d : Int) (n : Int) (m : Int) : Tr AV := Tr.node (decide ((IntKind.i64.wrap c).tmod 16385 ≤ (IntKind.i64.wrap d).tmod 16385)) (Tr.node (decide (backN ((IntKind.i64.wrap c).tmod 16385) (IntKind.i64.wrap (16384 + (IntKind.i64.wrap n).tmod 49153)) < backN ((IntKind.i64.wrap d).tmod 16385) (IntKind.i64.wrap (16384 + (IntKind.i64.wrap n).tmod 49153)))) (Tr.leaf (AV.bool false false)) (Tr.node (decide (backN ((IntKind.i64.wrap c).tmod 16385) (IntKind.i64.wrap (16384 + (IntKind.i64.wrap n).tmod 49153)) < 0)) (Tr.leaf (AV.bool false false)) (Tr.node (decide (backN ((IntKind.i64.wrap c).tmod 16385) (IntKind.i64.wrap (16384 + (IntKind.i64.wrap n).tmod 49153)) > 65536)) (Tr.leaf (AV.bool false false)) (Tr.node (backN 0 (IntKind.i64.wrap (16384 + (IntKind.i64.wrap n).tmod 49153)) != 65536) (Tr.leaf (AV.bool false false)) (Tr.node (decide (IntKind.i64.wrap (16384 + (IntKind.i64.wrap n).tmod 49153) > IntKind.i64.wrap (16384 + (IntKind.i64.wrap m).tmod 49153))) (Tr.node (decide ((IntKind.i64.wrap c).tmod 16385 > (IntKind.i64.wrap d).tmod 16385)) (Tr.leaf (AV.bool false true)) (Tr.node (decide (sineN ((IntKind.i64.wrap c).tmod 16385) (IntKind.i64.wrap (16384 + (IntKind.i64.wrap n).tmod 49153)) (IntKind.i64.wrap (16384 + (IntKind.i64.wrap m).tmod 49153)) ≥ sineN ((IntKind.i64.wrap d).tmod 16385) (IntKind.i64.wrap (16384 + (IntKind.i64.wrap n).tmod 49153)) (IntKind.i64.wrap (16384 + (IntKind.i64.wrap m).tmod 49153)))) (Tr.leaf (AV.bool false true)) (Tr.leaf (AV.bool false false)))) (Tr.node (decide (backN 16384 (IntKind.i64.wrap (16384 + (IntKind.i64.wrap n).tmod 49153)) ≤ backN 16384 (IntKind.i64.wrap (16384 + (IntKind.i64.wrap m).tmod 49153)))) (Tr.node (decide ((IntKind.i64.wrap c).tmod 16385 > (IntKind.i64.wrap d).tmod 16385)) (Tr.leaf (AV.bool false true)) (Tr.node (decide (sineN ((IntKind.i64.wrap c).tmod 16385) (IntKind.i64.wrap (16384 + (IntKind.i64.wrap n).tmod 49153)) (IntKind.i64.wrap (16384 + (IntKind.i64.wrap m).tmod 49153)) ≥ sineN ((IntKind.i64.wrap d).tmod 16385) (IntKind.i64.wrap (16384 + (IntKind.i64.wrap n).tmod 49153)) (IntKind.i64.wrap (16384 + (IntKind.i64.wrap m).tmod 49153)))) (Tr.leaf (AV.bool false true)) (Tr.leaf (AV.bool false false)))) (Tr.leaf (AV.bool false false)))))))) (Tr.node (decide (backN ((IntKind.i64.wrap c).tmod 16385) (IntKind.i64.wrap (16384 + (IntKind.i64.wrap n).tmod 49153)) < 0)) (Tr.leaf (AV.bool false false)) (Tr.node (decide (backN ((IntKind.i64.wrap c).tmod 16385) (IntKind.i64.wrap (16384 + (IntKind.i64.wrap n).tmod 49153)) > 65536)) (Tr.leaf (AV.bool false false)) (Tr.node (backN 0 (IntKind.i64.wrap (16384 + (IntKind.i64.wrap n).tmod 49153)) != 65536) (Tr.leaf (AV.bool false false)) (Tr.node (decide (IntKind.i64.wrap (16384 + (IntKind.i64.wrap n).tmod 49153) > IntKind.i64.wrap (16384 + (IntKind.i64.wrap m).tmod 49153))) (Tr.node (decide ((IntKind.i64.wrap c).tmod 16385 > (IntKind.i64.wrap d).tmod 16385)) (Tr.leaf (AV.bool false true)) (Tr.node (decide (sineN ((IntKind.i64.wrap c).tmod 16385) (IntKind.i64.wrap (16384 + (IntKind.i64.wrap n).tmod 49153)) (IntKind.i64.wrap (16384 + (IntKind.i64.wrap m).tmod 49153)) ≥ sineN ((IntKind.i64.wrap d).tmod 16385) (IntKind.i64.wrap (16384 + (IntKind.i64.wrap n).tmod 49153)) (IntKind.i64.wrap (16384 + (IntKind.i64.wrap m).tmod 49153)))) (Tr.leaf (AV.bool false true)) (Tr.leaf (AV.bool false false)))) (Tr.node (decide (backN 16384 (IntKind.i64.wrap (16384 + (IntKind.i64.wrap n).tmod 49153)) ≤ backN 16384 (IntKind.i64.wrap (16384 + (IntKind.i64.wrap m).tmod 49153)))) (Tr.node (decide ((IntKind.i64.wrap c).tmod 16385 > (IntKind.i64.wrap d).tmod 16385)) (Tr.leaf (AV.bool false true)) (Tr.node (decide (sineN ((IntKind.i64.wrap c).tmod 16385) (IntKind.i64.wrap (16384 + (IntKind.i64.wrap n).tmod 49153)) (IntKind.i64.wrap (16384 + (IntKind.i64.wrap m).tmod 49153)) ≥ sineN ((IntKind.i64.wrap d).tmod 16385) (IntKind.i64.wrap (16384 + (IntKind.i64.wrap n).tmod 49153)) (IntKind.i64.wrap (16384 + (IntKind.i64.wrap m).tmod 49153)))) (Tr.leaf (AV.bool false true)) (Tr.leaf (AV.bool false false)))) (Tr.leaf (AV.bool false false)))))))
theorem run_skylightlaw24_BendMore (c : Int) (d : Int) (n : Int) (m : Int) (h_c : InR .u16 c) (h_d : InR .u16 d) (h_n : InR .u16 n) (h_m : InR .u16 m) : (tr_skylightlaw24_BendMore c d n m).run = some (bb true) := by
  unfold tr_skylightlaw24_BendMore
  have hc : 0 ≤ c ∧ c ≤ 65535 := h_c
  have hd : 0 ≤ d ∧ d ≤ 65535 := h_d
  have hn : 0 ≤ n ∧ n ≤ 65535 := h_n
  have hm : 0 ≤ m ∧ m ≤ 65535 := h_m
  rw [wrap_i64_id (n := c) (by omega), wrap_i64_id (n := d) (by omega), wrap_i64_id (n := n) (by omega), wrap_i64_id (n := m) (by omega),
    Int.tmod_eq_emod_of_nonneg hc.1, Int.tmod_eq_emod_of_nonneg hd.1, Int.tmod_eq_emod_of_nonneg hn.1, Int.tmod_eq_emod_of_nonneg hm.1, wrap_i64_id (n := 16384 + n % 49153) (by omega), wrap_i64_id (n := 16384 + m % 49153) (by omega)]
  have hx : 0 ≤ c % 16385 ∧ c % 16385 ≤ 16384 := by omega
  have hy : 0 ≤ d % 16385 ∧ d % 16385 ≤ 16384 := by omega
  have ha : 16384 ≤ 16384 + n % 49153 ∧ 16384 + n % 49153 ≤ 65536 := by omega
  have hb : 16384 ≤ 16384 + m % 49153 ∧ 16384 + m % 49153 ≤ 65536 := by omega
  generalize c % 16385 = x at *
  generalize d % 16385 = y at *
  generalize 16384 + n % 49153 = a at *
  generalize 16384 + m % 49153 = b at *
  have r := backN_r hx ha
  simp only [backN_0 ha, backN_1 ha, backN_1 hb, Tr.run, bb, decide_eq_true_eq, bne_self_eq_false, Bool.false_eq_true, if_false]
  have s : x ≤ y → sineN y a b ≤ sineN x a b := fun h => sineN_mono hx.1 h hy.2 ha hb
  have q : a ≤ b → backA a ≤ backA b := fun h => backA_mono ha.1 h
  have p : x ≤ y → backN y a ≤ backN x a := fun h => backN_mono hx.1 h hy.2 ha
  (repeat' split) <;> first | rfl | (exfalso; omega)

/-! skylightlaw24.BendTells -/
def tr_skylightlaw24_BendTells (d_x : Int) (d_y : Int) (d_z : Int) (n_x : Int) (n_y : Int) (n_z : Int) (a : Int) (b : Int) (c : Int) : Tr AV := Tr.node (backN c a == backN c a) (Tr.node (cosN n_x n_y n_z d_x d_y d_z == cosN n_x n_y n_z d_x d_y d_z) (Tr.node (sineN c a b == sineN c a b) (Tr.node (bendU (bndC d_x n_x d_x d_y d_z n_x n_y n_z a b) d_x d_y d_z n_x n_y n_z a b == bendU (bndC d_x n_x d_x d_y d_z n_x n_y n_z a b) d_x d_y d_z n_x n_y n_z a b && (bendU (bndC d_y n_y d_x d_y d_z n_x n_y n_z a b) d_x d_y d_z n_x n_y n_z a b == bendU (bndC d_y n_y d_x d_y d_z n_x n_y n_z a b) d_x d_y d_z n_x n_y n_z a b && (bendU (bndC d_z n_z d_x d_y d_z n_x n_y n_z a b) d_x d_y d_z n_x n_y n_z a b == bendU (bndC d_z n_z d_x d_y d_z n_x n_y n_z a b) d_x d_y d_z n_x n_y n_z a b && true))) (Tr.node (bendU (bndC d_x n_x d_x d_y d_z n_x n_y n_z a b) d_x d_y d_z n_x n_y n_z a b == bendU (bndC d_x n_x d_x d_y d_z n_x n_y n_z a b) d_x d_y d_z n_x n_y n_z a b && (bendU (bndC d_y n_y d_x d_y d_z n_x n_y n_z a b) d_x d_y d_z n_x n_y n_z a b == bendU (bndC d_y n_y d_x d_y d_z n_x n_y n_z a b) d_x d_y d_z n_x n_y n_z a b && (bendU (bndC d_z n_z d_x d_y d_z n_x n_y n_z a b) d_x d_y d_z n_x n_y n_z a b == bendU (bndC d_z n_z d_x d_y d_z n_x n_y n_z a b) d_x d_y d_z n_x n_y n_z a b && true))) (Tr.node (bendIs d_x d_y d_z n_x n_y n_z a b == bendIs d_x d_y d_z n_x n_y n_z a b) (Tr.leaf (AV.bool false true)) (Tr.leaf (AV.bool false false))) (Tr.leaf (AV.bool false false))) (Tr.node (bendU (bndC d_x n_x d_x d_y d_z n_x n_y n_z a b) d_x d_y d_z n_x n_y n_z a b == bendU (bndC d_x n_x d_x d_y d_z n_x n_y n_z a b) d_x d_y d_z n_x n_y n_z a b && (bendU (bndC d_y n_y d_x d_y d_z n_x n_y n_z a b) d_x d_y d_z n_x n_y n_z a b == bendU (bndC d_y n_y d_x d_y d_z n_x n_y n_z a b) d_x d_y d_z n_x n_y n_z a b && (bendU (bndC d_z n_z d_x d_y d_z n_x n_y n_z a b) d_x d_y d_z n_x n_y n_z a b == bendU (bndC d_z n_z d_x d_y d_z n_x n_y n_z a b) d_x d_y d_z n_x n_y n_z a b && true))) Tr.bad (Tr.leaf (AV.bool false false)))) (Tr.leaf (AV.bool false false))) (Tr.leaf (AV.bool false false))) (Tr.leaf (AV.bool false false))
theorem run_skylightlaw24_BendTells (d_x : Int) (d_y : Int) (d_z : Int) (n_x : Int) (n_y : Int) (n_z : Int) (a : Int) (b : Int) (c : Int) (h_d_x : InR .i64 d_x) (h_d_y : InR .i64 d_y) (h_d_z : InR .i64 d_z) (h_n_x : InR .i64 n_x) (h_n_y : InR .i64 n_y) (h_n_z : InR .i64 n_z) (h_a : InR .i64 a) (h_b : InR .i64 b) (h_c : InR .i64 c) : (tr_skylightlaw24_BendTells d_x d_y d_z n_x n_y n_z a b c).run = some (bb true) := by
  unfold tr_skylightlaw24_BendTells
  simp [Tr.run, bb]

end Go.Sky
