/- Trees of functions, and what they come to. -/
import Derived.Test.YtpljpbmkklcbkaaGreatQ3687df57
set_option linter.unusedSimpArgs false
set_option linter.unusedVariables false
namespace Go.Sky
set_option maxRecDepth 100000

/-! num.Div -/
def tr_num_Div (a : Int) (b : Int) : Tr AV := Tr.node (decide (b < 1)) (Tr.leaf (AV.int IntKind.i64 false 0)) (Tr.node (decide (a ≥ 0)) (Tr.node (decide (b = 0)) Tr.bad (Tr.leaf (AV.int IntKind.i64 false (IntKind.i64.wrap (a.tdiv b))))) (Tr.node (decide (b = 0)) Tr.bad (Tr.leaf (AV.int IntKind.i64 false (bits BinOp.xor IntKind.i64 (-1) (IntKind.i64.wrap ((bits BinOp.xor IntKind.i64 (-1) a).tdiv b)))))))
theorem run_num_Div (a : Int) (b : Int) (h_a : InR .i64 a) (h_b : InR .i64 b) : (tr_num_Div a b).run = some (i6 (dv a b)) := by
  unfold tr_num_Div
  have ha := inR_i64.1 h_a
  have hb := inR_i64.1 h_b
  
  unfold dv
  by_cases c0 : b < 1
  · rw [if_neg (by omega)]; exact run_t (decide_eq_true c0)
  refine (run_f (decide_eq_false c0)).trans ?_
  rw [if_pos (by omega)]
  by_cases c1 : a ≥ 0
  · refine (run_t (decide_eq_true c1)).trans ((run_f (decide_eq_false (by omega))).trans ?_)
    have d0 : 0 ≤ a / b := Int.ediv_nonneg c1 (by omega)
    have d1 : a / b ≤ a := Int.ediv_le_self _ (by omega)
    rw [Int.tdiv_eq_ediv_of_nonneg c1, wrap_i64_id (by omega)]; rfl
  · refine (run_f (decide_eq_false c1)).trans ((run_f (decide_eq_false (by omega))).trans ?_)
    have e := ediv_not a (d := b) (by omega)
    have d0 : 0 ≤ (-a - 1) / b := Int.ediv_nonneg (by omega) (by omega)
    have d1 : (-a - 1) / b ≤ -a - 1 := Int.ediv_le_self _ (by omega)
    rw [not_i64 (x := a) (by omega), show -1 - a = -a - 1 by omega, Int.tdiv_eq_ediv_of_nonneg (by omega), wrap_i64_id (by omega), not_i64 (by omega), e, show -1 - (-(a / b) - 1) = a / b by omega]; rfl

/-! num.Hold -/
def tr_num_Hold (n : Int) (low : Int) (high : Int) : Tr AV := Tr.node (decide (n < low)) (Tr.leaf (AV.int IntKind.i64 false low)) (Tr.node (decide (n > high)) (Tr.leaf (AV.int IntKind.i64 false high)) (Tr.leaf (AV.int IntKind.i64 false n)))
theorem run_num_Hold (n : Int) (low : Int) (high : Int) (h_n : InR .i64 n) (h_low : InR .i64 low) (h_high : InR .i64 high) : (tr_num_Hold n low high).run = some (i6 (hold n low high)) := by
  unfold tr_num_Hold
  simp only [Tr.run, decide_eq_true_eq, hold, i6]
  (repeat' split) <;> rfl

/-! skylightref01.Hold -/
def tr_skylightref01_Hold (n : Int) (low : Int) (high : Int) : Tr AV := Tr.node (decide (n < low)) (Tr.leaf (AV.int IntKind.i64 false low)) (Tr.node (decide (n > high)) (Tr.leaf (AV.int IntKind.i64 false high)) (Tr.leaf (AV.int IntKind.i64 false n)))
theorem run_skylightref01_Hold (n : Int) (low : Int) (high : Int) (h_n : InR .i64 n) (h_low : InR .i64 low) (h_high : InR .i64 high) : (tr_skylightref01_Hold n low high).run = some (i6 (hold n low high)) := by
  unfold tr_skylightref01_Hold
  simp only [Tr.run, decide_eq_true_eq, hold, i6]
  (repeat' split) <;> rfl

/-! basis.Facing -/
def tr_basis_Facing (n_x : Int) (n_y : Int) (n_z : Int) (d_x : Int) (d_y : Int) (d_z : Int) : Tr AV := Tr.node (!nearB d_x d_y d_z) (Tr.leaf (AV.agg [AV.int IntKind.i64 false 0, AV.int IntKind.i64 false 0, AV.int IntKind.i64 false 0])) (Tr.node (!nearB n_x n_y n_z) (Tr.leaf (AV.agg [AV.int IntKind.i64 false 0, AV.int IntKind.i64 false 0, AV.int IntKind.i64 false 0])) (Tr.node (decide (dotN n_x n_y n_z d_x d_y d_z > 0)) (Tr.leaf (AV.agg [AV.int IntKind.i64 false (IntKind.i64.wrap (n_x * -1)), AV.int IntKind.i64 false (IntKind.i64.wrap (n_y * -1)), AV.int IntKind.i64 false (IntKind.i64.wrap (n_z * -1))])) (Tr.leaf (AV.agg [AV.int IntKind.i64 false n_x, AV.int IntKind.i64 false n_y, AV.int IntKind.i64 false n_z]))))
theorem run_basis_Facing (n_x : Int) (n_y : Int) (n_z : Int) (d_x : Int) (d_y : Int) (d_z : Int) (h_n_x : InR .i64 n_x) (h_n_y : InR .i64 n_y) (h_n_z : InR .i64 n_z) (h_d_x : InR .i64 d_x) (h_d_y : InR .i64 d_y) (h_d_z : InR .i64 d_z) : (tr_basis_Facing n_x n_y n_z d_x d_y d_z).run = some (v3 (facC n_x n_x n_y n_z d_x d_y d_z) (facC n_y n_x n_y n_z d_x d_y d_z) (facC n_z n_x n_y n_z d_x d_y d_z)) := by
  unfold tr_basis_Facing
  have hn_x := inR_i64.1 h_n_x
  have hn_y := inR_i64.1 h_n_y
  have hn_z := inR_i64.1 h_n_z
  
  simp only [Tr.run, v3, i6, Bool.not_eq_true', decide_eq_true_eq]
  cases hd : nearB d_x d_y d_z
  · simp [facC, hd]
  cases hn : nearB n_x n_y n_z
  · simp [facC, hd, hn]
  have r := near_r hn
  simp only [facC_eq hn hd, Bool.true_eq_false, if_false]
  rw [show dotN n_x n_y n_z d_x d_y d_z = dotI n_x n_y n_z d_x d_y d_z by unfold dotN; rw [if_pos ⟨hn, hd⟩]]
  by_cases c : dotI n_x n_y n_z d_x d_y d_z > 0
  · simp only [if_pos c]
    rw [wrap_i64_id (n := n_x * -1) (by omega), wrap_i64_id (n := n_y * -1) (by omega), wrap_i64_id (n := n_z * -1) (by omega)]
    congr 4 <;> (try congr 1) <;> (try congr 1) <;> omega
  · simp only [if_neg c]

/-! skylightref07.Facing -/
def tr_skylightref07_Facing (n_x : Int) (n_y : Int) (n_z : Int) (d_x : Int) (d_y : Int) (d_z : Int) : Tr AV := Tr.node (!nearB d_x d_y d_z) (Tr.leaf (AV.agg [AV.int IntKind.i64 false 0, AV.int IntKind.i64 false 0, AV.int IntKind.i64 false 0])) (Tr.node (!nearB n_x n_y n_z) (Tr.leaf (AV.agg [AV.int IntKind.i64 false 0, AV.int IntKind.i64 false 0, AV.int IntKind.i64 false 0])) (Tr.node (decide (dotN n_x n_y n_z d_x d_y d_z > 0)) (Tr.leaf (AV.agg [AV.int IntKind.i64 false (IntKind.i64.wrap (0 - n_x)), AV.int IntKind.i64 false (IntKind.i64.wrap (0 - n_y)), AV.int IntKind.i64 false (IntKind.i64.wrap (0 - n_z))])) (Tr.leaf (AV.agg [AV.int IntKind.i64 false n_x, AV.int IntKind.i64 false n_y, AV.int IntKind.i64 false n_z]))))
theorem run_skylightref07_Facing (n_x : Int) (n_y : Int) (n_z : Int) (d_x : Int) (d_y : Int) (d_z : Int) (h_n_x : InR .i64 n_x) (h_n_y : InR .i64 n_y) (h_n_z : InR .i64 n_z) (h_d_x : InR .i64 d_x) (h_d_y : InR .i64 d_y) (h_d_z : InR .i64 d_z) : (tr_skylightref07_Facing n_x n_y n_z d_x d_y d_z).run = some (v3 (facC n_x n_x n_y n_z d_x d_y d_z) (facC n_y n_x n_y n_z d_x d_y d_z) (facC n_z n_x n_y n_z d_x d_y d_z)) := by
  unfold tr_skylightref07_Facing
  have hn_x := inR_i64.1 h_n_x
  have hn_y := inR_i64.1 h_n_y
  have hn_z := inR_i64.1 h_n_z
  
  simp only [Tr.run, v3, i6, Bool.not_eq_true', decide_eq_true_eq]
  cases hd : nearB d_x d_y d_z
  · simp [facC, hd]
  cases hn : nearB n_x n_y n_z
  · simp [facC, hd, hn]
  have r := near_r hn
  simp only [facC_eq hn hd, Bool.true_eq_false, if_false]
  rw [show dotN n_x n_y n_z d_x d_y d_z = dotI n_x n_y n_z d_x d_y d_z by unfold dotN; rw [if_pos ⟨hn, hd⟩]]
  by_cases c : dotI n_x n_y n_z d_x d_y d_z > 0
  · simp only [if_pos c]
    rw [wrap_i64_id (n := 0 - n_x) (by omega), wrap_i64_id (n := 0 - n_y) (by omega), wrap_i64_id (n := 0 - n_z) (by omega)]
    congr 4 <;> (try congr 1) <;> (try congr 1) <;> omega
  · simp only [if_neg c]

/-! bend.Back -/
def tr_bend_Back (c : Int) (n : Int) : Tr AV := Tr.node (decide (0 ≤ c)) (Tr.node (!decide (c ≤ 16384)) (Tr.leaf (AV.int IntKind.i64 false 0)) (Tr.node (decide (n < 16384)) (Tr.leaf (AV.int IntKind.i64 false 0)) (Tr.node (decide (n > 65536)) (Tr.leaf (AV.int IntKind.i64 false 0)) (Tr.node (decide (IntKind.i64.wrap (IntKind.i64.wrap (n + 16384) * IntKind.i64.wrap (n + 16384)) = 0)) Tr.bad (Tr.leaf (AV.int IntKind.i64 false (IntKind.i64.wrap (IntKind.i64.wrap ((IntKind.i64.wrap (IntKind.i64.wrap (IntKind.i64.wrap (n - 16384) * IntKind.i64.wrap (n - 16384)) * 65536)).tdiv (IntKind.i64.wrap (IntKind.i64.wrap (n + 16384) * IntKind.i64.wrap (n + 16384)))) + dv (IntKind.i64.wrap (IntKind.i64.wrap (65536 - IntKind.i64.wrap ((IntKind.i64.wrap (IntKind.i64.wrap (IntKind.i64.wrap (n - 16384) * IntKind.i64.wrap (n - 16384)) * 65536)).tdiv (IntKind.i64.wrap (IntKind.i64.wrap (n + 16384) * IntKind.i64.wrap (n + 16384))))) * dv (IntKind.i64.wrap (dv (IntKind.i64.wrap (dv (IntKind.i64.wrap (IntKind.i64.wrap (16384 - c) * IntKind.i64.wrap (16384 - c))) 16384 * dv (IntKind.i64.wrap (IntKind.i64.wrap (16384 - c) * IntKind.i64.wrap (16384 - c))) 16384)) 16384 * IntKind.i64.wrap (16384 - c))) 16384)) 16384)))))))) (Tr.leaf (AV.int IntKind.i64 false 0))
theorem run_bend_Back (c : Int) (n : Int) (h_c : InR .i64 c) (h_n : InR .i64 n) : (tr_bend_Back c n).run = some (i6 (backN c n)) := by
  unfold tr_bend_Back
  by_cases h : (0 ≤ c ∧ c ≤ 16384) ∧ (16384 ≤ n ∧ n ≤ 65536)
  · obtain ⟨hc, hn⟩ := h
  
    obtain ⟨a1, a2, a3, a4⟩ := backA_r hn
    obtain ⟨m1, m2, m3, m4, m5⟩ := backM_r hc
    have p := backP_r hc hn
    have eA : IntKind.i64.wrap (IntKind.i64.wrap (IntKind.i64.wrap (n - 16384) * IntKind.i64.wrap (n - 16384)) * 65536) = (n - 16384) * (n - 16384) * 65536 := by
      rw [wrap_i64_id (n := n - 16384) (by omega), wrap_i64_id (n := (n - 16384) * (n - 16384)) (by omega), wrap_i64_id (by omega)]
    have eB : IntKind.i64.wrap (IntKind.i64.wrap (n + 16384) * IntKind.i64.wrap (n + 16384)) = (n + 16384) * (n + 16384) := by
      rw [wrap_i64_id (n := n + 16384) (by omega), wrap_i64_id (by omega)]
    have e0 : IntKind.i64.wrap (16384 - c) = 16384 - c := wrap_i64_id (by omega)
    have e1 : IntKind.i64.wrap ((16384 - c) * (16384 - c)) = (16384 - c) * (16384 - c) := wrap_i64_id (by omega)
    have e2 : IntKind.i64.wrap ((16384 - c) * (16384 - c) / 16384 * ((16384 - c) * (16384 - c) / 16384)) = (16384 - c) * (16384 - c) / 16384 * ((16384 - c) * (16384 - c) / 16384) := wrap_i64_id (by omega)
    have e3 : IntKind.i64.wrap ((16384 - c) * (16384 - c) / 16384 * ((16384 - c) * (16384 - c) / 16384) / 16384 * (16384 - c)) = (16384 - c) * (16384 - c) / 16384 * ((16384 - c) * (16384 - c) / 16384) / 16384 * (16384 - c) := wrap_i64_id (by omega)
  
    simp only [eA, eB, e0, e1, dv_16384, e2, e3]
    refine (run_t (decide_eq_true (by omega))).trans ((run_f (by rw [decide_eq_true (by omega)]; rfl)).trans ((run_f (decide_eq_false (by omega))).trans ((run_f (decide_eq_false (by omega))).trans ((run_f (decide_eq_false (by omega))).trans (?_)))))
    rw [Int.tdiv_eq_ediv_of_nonneg (by omega), show (n - 16384) * (n - 16384) * 65536 / ((n + 16384) * (n + 16384)) = backA n from rfl, wrap_i64_id (n := backA n) (by omega), wrap_i64_id (n := 65536 - backA n) (by omega),
      show (16384 - c) * (16384 - c) / 16384 * ((16384 - c) * (16384 - c) / 16384) / 16384 * (16384 - c) / 16384 = backM c from rfl, wrap_i64_id (n := (65536 - backA n) * backM c) (by omega), wrap_i64_id (by omega), backN_eq hc hn]
    rfl
  · rw [show backN c n = 0 by unfold backN cosB idxB; rw [if_neg]; simp only [decide_eq_true_eq]; exact h]
    repeat (first | (refine run_guard (fun _ => rfl) (fun _ => ?_)) | (refine run_guard (fun _ => ?_) (fun _ => rfl)))
    exfalso
    simp only [decide_eq_true_eq, decide_eq_false_iff_not, Bool.not_eq_true', Bool.not_eq_false', mx_gt, mx_le, mn_lt, mn_ge] at *
    omega

/-! skylightref24.Back -/
def tr_skylightref24_Back (c : Int) (n : Int) : Tr AV := Tr.node (decide (c < 0)) (Tr.leaf (AV.int IntKind.i64 false 0)) (Tr.node (decide (c > 16384)) (Tr.leaf (AV.int IntKind.i64 false 0)) (Tr.node (decide (n ≥ 16384)) (Tr.node (!decide (n ≤ 65536)) (Tr.leaf (AV.int IntKind.i64 false 0)) (Tr.leaf (AV.int IntKind.i64 false (IntKind.i64.wrap ((if 1 ≤ IntKind.i64.wrap (IntKind.i64.wrap (n + 16384) * IntKind.i64.wrap (n + 16384)) then IntKind.i64.wrap (IntKind.i64.wrap (IntKind.i64.wrap (n - 16384) * IntKind.i64.wrap (n - 16384)) * 65536) / IntKind.i64.wrap (IntKind.i64.wrap (n + 16384) * IntKind.i64.wrap (n + 16384)) else 0) + if (1 : Int) ≤ 16384 then IntKind.i64.wrap (IntKind.i64.wrap (65536 - if 1 ≤ IntKind.i64.wrap (IntKind.i64.wrap (n + 16384) * IntKind.i64.wrap (n + 16384)) then IntKind.i64.wrap (IntKind.i64.wrap (IntKind.i64.wrap (n - 16384) * IntKind.i64.wrap (n - 16384)) * 65536) / IntKind.i64.wrap (IntKind.i64.wrap (n + 16384) * IntKind.i64.wrap (n + 16384)) else 0) * if (1 : Int) ≤ 16384 then IntKind.i64.wrap ((if (1 : Int) ≤ 16384 then IntKind.i64.wrap ((if (1 : Int) ≤ 16384 then IntKind.i64.wrap (IntKind.i64.wrap (16384 - c) * IntKind.i64.wrap (16384 - c)) / 16384 else 0) * if (1 : Int) ≤ 16384 then IntKind.i64.wrap (IntKind.i64.wrap (16384 - c) * IntKind.i64.wrap (16384 - c)) / 16384 else 0) / 16384 else 0) * IntKind.i64.wrap (16384 - c)) / 16384 else 0) / 16384 else 0))))) (Tr.leaf (AV.int IntKind.i64 false 0))))
theorem run_skylightref24_Back (c : Int) (n : Int) (h_c : InR .i64 c) (h_n : InR .i64 n) : (tr_skylightref24_Back c n).run = some (i6 (backN c n)) := by
  unfold tr_skylightref24_Back
  by_cases h : (0 ≤ c ∧ c ≤ 16384) ∧ (16384 ≤ n ∧ n ≤ 65536)
  · obtain ⟨hc, hn⟩ := h
  
    obtain ⟨a1, a2, a3, a4⟩ := backA_r hn
    obtain ⟨m1, m2, m3, m4, m5⟩ := backM_r hc
    have p := backP_r hc hn
    have eA : IntKind.i64.wrap (IntKind.i64.wrap (IntKind.i64.wrap (n - 16384) * IntKind.i64.wrap (n - 16384)) * 65536) = (n - 16384) * (n - 16384) * 65536 := by
      rw [wrap_i64_id (n := n - 16384) (by omega), wrap_i64_id (n := (n - 16384) * (n - 16384)) (by omega), wrap_i64_id (by omega)]
    have eB : IntKind.i64.wrap (IntKind.i64.wrap (n + 16384) * IntKind.i64.wrap (n + 16384)) = (n + 16384) * (n + 16384) := by
      rw [wrap_i64_id (n := n + 16384) (by omega), wrap_i64_id (by omega)]
    have e0 : IntKind.i64.wrap (16384 - c) = 16384 - c := wrap_i64_id (by omega)
    have e1 : IntKind.i64.wrap ((16384 - c) * (16384 - c)) = (16384 - c) * (16384 - c) := wrap_i64_id (by omega)
    have e2 : IntKind.i64.wrap ((16384 - c) * (16384 - c) / 16384 * ((16384 - c) * (16384 - c) / 16384)) = (16384 - c) * (16384 - c) / 16384 * ((16384 - c) * (16384 - c) / 16384) := wrap_i64_id (by omega)
    have e3 : IntKind.i64.wrap ((16384 - c) * (16384 - c) / 16384 * ((16384 - c) * (16384 - c) / 16384) / 16384 * (16384 - c)) = (16384 - c) * (16384 - c) / 16384 * ((16384 - c) * (16384 - c) / 16384) / 16384 * (16384 - c) := wrap_i64_id (by omega)
  
    have t1 : (1 : Int) ≤ 16384 := by decide
    have t2 : 1 ≤ (n + 16384) * (n + 16384) := by omega
    simp only [eA, eB, if_pos t1, if_pos t2, e0, e1, e2, e3]
    refine (run_f (decide_eq_false (by omega))).trans ((run_f (decide_eq_false (by omega))).trans ((run_t (decide_eq_true (by omega))).trans ((run_f (by rw [decide_eq_true (by omega)]; rfl)).trans (?_))))
    rw [show (n - 16384) * (n - 16384) * 65536 / ((n + 16384) * (n + 16384)) = backA n from rfl, wrap_i64_id (n := 65536 - backA n) (by omega),
      show (16384 - c) * (16384 - c) / 16384 * ((16384 - c) * (16384 - c) / 16384) / 16384 * (16384 - c) / 16384 = backM c from rfl, wrap_i64_id (n := (65536 - backA n) * backM c) (by omega), wrap_i64_id (by omega), backN_eq hc hn]
    rfl
  · rw [show backN c n = 0 by unfold backN cosB idxB; rw [if_neg]; simp only [decide_eq_true_eq]; exact h]
    repeat (first | (refine run_guard (fun _ => rfl) (fun _ => ?_)) | (refine run_guard (fun _ => ?_) (fun _ => rfl)))
    exfalso
    simp only [decide_eq_true_eq, decide_eq_false_iff_not, Bool.not_eq_true', Bool.not_eq_false', mx_gt, mx_le, mn_lt, mn_ge] at *
    omega

/-! bend.Cos -/
def tr_bend_Cos (n_x : Int) (n_y : Int) (n_z : Int) (d_x : Int) (d_y : Int) (d_z : Int) : Tr AV := Tr.node (decide (mm true (mm true n_x n_y) n_z > 16385)) (Tr.leaf (AV.int IntKind.i64 false 0)) (Tr.node (decide (mm false (mm false n_x n_y) n_z < -16385)) (Tr.leaf (AV.int IntKind.i64 false 0)) (Tr.node (decide (mm true (mm true d_x d_y) d_z > 16385)) (Tr.leaf (AV.int IntKind.i64 false 0)) (Tr.node (decide (mm false (mm false d_x d_y) d_z < -16385)) (Tr.leaf (AV.int IntKind.i64 false 0)) (Tr.leaf (AV.int IntKind.i64 false (hold (dv (IntKind.i64.wrap (0 - dotN (facC n_x n_x n_y n_z d_x d_y d_z) (facC n_y n_x n_y n_z d_x d_y d_z) (facC n_z n_x n_y n_z d_x d_y d_z) d_x d_y d_z)) 16384) 0 16384))))))
theorem run_bend_Cos (n_x : Int) (n_y : Int) (n_z : Int) (d_x : Int) (d_y : Int) (d_z : Int) (h_n_x : InR .i64 n_x) (h_n_y : InR .i64 n_y) (h_n_z : InR .i64 n_z) (h_d_x : InR .i64 d_x) (h_d_y : InR .i64 d_y) (h_d_z : InR .i64 d_z) : (tr_bend_Cos n_x n_y n_z d_x d_y d_z).run = some (i6 (cosN n_x n_y n_z d_x d_y d_z)) := by
  unfold tr_bend_Cos
  by_cases h : ((-16385 ≤ n_x ∧ n_x ≤ 16385) ∧ (-16385 ≤ n_y ∧ n_y ≤ 16385) ∧ (-16385 ≤ n_z ∧ n_z ≤ 16385)) ∧ ((-16385 ≤ d_x ∧ d_x ≤ 16385) ∧ (-16385 ≤ d_y ∧ d_y ≤ 16385) ∧ (-16385 ≤ d_z ∧ d_z ≤ 16385))
  · obtain ⟨hn, hd⟩ := h
    have sd : shortB d_x d_y d_z = true := decide_eq_true hd
    have sn : shortB n_x n_y n_z = true := decide_eq_true hn
    rw [cos_all (short_near sn) (short_near sd), cosN_eq sn sd]
    refine (run_f (decide_eq_false (by simp only [mx_gt, mx_le, mn_lt, mn_ge]; omega))).trans ((run_f (decide_eq_false (by simp only [mx_gt, mx_le, mn_lt, mn_ge]; omega))).trans ((run_f (decide_eq_false (by simp only [mx_gt, mx_le, mn_lt, mn_ge]; omega))).trans ((run_f (decide_eq_false (by simp only [mx_gt, mx_le, mn_lt, mn_ge]; omega))).trans (?_))))
    rfl
  · rw [show cosN n_x n_y n_z d_x d_y d_z = 0 by unfold cosN shortB; rw [if_neg]; simp only [decide_eq_true_eq]; exact h]
    repeat (first | (refine run_guard (fun _ => rfl) (fun _ => ?_)) | (refine run_guard (fun _ => ?_) (fun _ => rfl)))
    exfalso
    simp only [decide_eq_true_eq, decide_eq_false_iff_not, Bool.not_eq_true', Bool.not_eq_false', mx_gt, mx_le, mn_lt, mn_ge] at *
    omega

/-! skylightref24.Cos -/
def tr_skylightref24_Cos (n_x : Int) (n_y : Int) (n_z : Int) (d_x : Int) (d_y : Int) (d_z : Int) : Tr AV := Tr.node (decide (mm true (mm true n_x n_y) n_z ≤ 16385)) (Tr.node (!decide (mm false (mm false n_x n_y) n_z ≥ -16385)) (Tr.leaf (AV.int IntKind.i64 false 0)) (Tr.node (decide (mm true (mm true d_x d_y) d_z ≤ 16385)) (Tr.node (!decide (mm false (mm false d_x d_y) d_z ≥ -16385)) (Tr.leaf (AV.int IntKind.i64 false 0)) (Tr.leaf (AV.int IntKind.i64 false (hold (if (1 : Int) ≤ 16384 then IntKind.i64.wrap (0 - dotN (facC n_x n_x n_y n_z d_x d_y d_z) (facC n_y n_x n_y n_z d_x d_y d_z) (facC n_z n_x n_y n_z d_x d_y d_z) d_x d_y d_z) / 16384 else 0) 0 16384)))) (Tr.leaf (AV.int IntKind.i64 false 0)))) (Tr.leaf (AV.int IntKind.i64 false 0))
theorem run_skylightref24_Cos (n_x : Int) (n_y : Int) (n_z : Int) (d_x : Int) (d_y : Int) (d_z : Int) (h_n_x : InR .i64 n_x) (h_n_y : InR .i64 n_y) (h_n_z : InR .i64 n_z) (h_d_x : InR .i64 d_x) (h_d_y : InR .i64 d_y) (h_d_z : InR .i64 d_z) : (tr_skylightref24_Cos n_x n_y n_z d_x d_y d_z).run = some (i6 (cosN n_x n_y n_z d_x d_y d_z)) := by
  unfold tr_skylightref24_Cos
  by_cases h : ((-16385 ≤ n_x ∧ n_x ≤ 16385) ∧ (-16385 ≤ n_y ∧ n_y ≤ 16385) ∧ (-16385 ≤ n_z ∧ n_z ≤ 16385)) ∧ ((-16385 ≤ d_x ∧ d_x ≤ 16385) ∧ (-16385 ≤ d_y ∧ d_y ≤ 16385) ∧ (-16385 ≤ d_z ∧ d_z ≤ 16385))
  · obtain ⟨hn, hd⟩ := h
    have sd : shortB d_x d_y d_z = true := decide_eq_true hd
    have sn : shortB n_x n_y n_z = true := decide_eq_true hn
    have e := cos_all (short_near sn) (short_near sd)
    unfold dv at e
    rw [e, cosN_eq sn sd]
    refine (run_t (decide_eq_true (by simp only [mx_gt, mx_le, mn_lt, mn_ge]; omega))).trans ((run_f (by rw [decide_eq_true (by simp only [mx_gt, mx_le, mn_lt, mn_ge]; omega)]; rfl)).trans ((run_t (decide_eq_true (by simp only [mx_gt, mx_le, mn_lt, mn_ge]; omega))).trans ((run_f (by rw [decide_eq_true (by simp only [mx_gt, mx_le, mn_lt, mn_ge]; omega)]; rfl)).trans (?_))))
    rfl
  · rw [show cosN n_x n_y n_z d_x d_y d_z = 0 by unfold cosN shortB; rw [if_neg]; simp only [decide_eq_true_eq]; exact h]
    repeat (first | (refine run_guard (fun _ => rfl) (fun _ => ?_)) | (refine run_guard (fun _ => ?_) (fun _ => rfl)))
    exfalso
    simp only [decide_eq_true_eq, decide_eq_false_iff_not, Bool.not_eq_true', Bool.not_eq_false', mx_gt, mx_le, mn_lt, mn_ge] at *
    omega

/-! bend.Sine -/
def tr_bend_Sine (c : Int) (a : Int) (b : Int) : Tr AV := Tr.node (decide (0 ≤ c)) (Tr.node (!decide (c ≤ 16384)) (Tr.leaf (AV.int IntKind.i64 false 0)) (Tr.node (decide (a < 16384)) (Tr.leaf (AV.int IntKind.i64 false 0)) (Tr.node (decide (a > 65536)) (Tr.leaf (AV.int IntKind.i64 false 0)) (Tr.node (decide (b < 16384)) (Tr.leaf (AV.int IntKind.i64 false 0)) (Tr.node (decide (b > 65536)) (Tr.leaf (AV.int IntKind.i64 false 0)) (Tr.node (decide (IntKind.i64.wrap (b * b) = 0)) Tr.bad (Tr.leaf (AV.int IntKind.i64 false (IntKind.i64.wrap ((IntKind.i64.wrap (IntKind.i64.wrap (IntKind.i64.wrap (268435456 - IntKind.i64.wrap (c * c)) * a) * a)).tdiv (IntKind.i64.wrap (b * b)))))))))))) (Tr.leaf (AV.int IntKind.i64 false 0))
theorem run_bend_Sine (c : Int) (a : Int) (b : Int) (h_c : InR .i64 c) (h_a : InR .i64 a) (h_b : InR .i64 b) : (tr_bend_Sine c a b).run = some (i6 (sineN c a b)) := by
  unfold tr_bend_Sine
  by_cases h : (0 ≤ c ∧ c ≤ 16384) ∧ (16384 ≤ a ∧ a ≤ 65536) ∧ (16384 ≤ b ∧ b ≤ 65536)
  · obtain ⟨hc, ha, hb⟩ := h
    obtain ⟨s1, s2, s3, s4, s5⟩ := sine_r hc ha hb
    have s6 : (268435456 - c * c) * a * a / (b * b) ≤ (268435456 - c * c) * a * a := Int.ediv_le_self _ (by omega)
    rw [wrap_i64_id (n := b * b) (by omega), wrap_i64_id (n := c * c) (by omega), wrap_i64_id (n := 268435456 - c * c) (by omega), wrap_i64_id (n := (268435456 - c * c) * a) (by omega), wrap_i64_id (n := (268435456 - c * c) * a * a) (by omega),
      Int.tdiv_eq_ediv_of_nonneg (by omega), wrap_i64_id (by omega), sineN_eq hc ha hb]
    refine (run_t (decide_eq_true (by omega))).trans ((run_f (by rw [decide_eq_true (by omega)]; rfl)).trans ((run_f (decide_eq_false (by omega))).trans ((run_f (decide_eq_false (by omega))).trans ((run_f (decide_eq_false (by omega))).trans ((run_f (decide_eq_false (by omega))).trans ((run_f (decide_eq_false (by omega))).trans (?_)))))))
    rfl
  · rw [show sineN c a b = 0 by unfold sineN cosB idxB; rw [if_neg]; simp only [decide_eq_true_eq]; exact h]
    repeat (first | (refine run_guard (fun _ => rfl) (fun _ => ?_)) | (refine run_guard (fun _ => ?_) (fun _ => rfl)))
    exfalso
    simp only [decide_eq_true_eq, decide_eq_false_iff_not, Bool.not_eq_true', Bool.not_eq_false', mx_gt, mx_le, mn_lt, mn_ge] at *
    omega

/-! skylightref24.Sine -/
def tr_skylightref24_Sine (c : Int) (a : Int) (b : Int) : Tr AV := Tr.node (decide (c < 0)) (Tr.leaf (AV.int IntKind.i64 false 0)) (Tr.node (decide (c > 16384)) (Tr.leaf (AV.int IntKind.i64 false 0)) (Tr.node (decide (a ≥ 16384)) (Tr.node (!decide (a ≤ 65536)) (Tr.leaf (AV.int IntKind.i64 false 0)) (Tr.node (decide (b ≥ 16384)) (Tr.node (!decide (b ≤ 65536)) (Tr.leaf (AV.int IntKind.i64 false 0)) (Tr.leaf (AV.int IntKind.i64 false (if 1 ≤ IntKind.i64.wrap (b * b) then IntKind.i64.wrap (IntKind.i64.wrap (IntKind.i64.wrap (268435456 - IntKind.i64.wrap (c * c)) * a) * a) / IntKind.i64.wrap (b * b) else 0)))) (Tr.leaf (AV.int IntKind.i64 false 0)))) (Tr.leaf (AV.int IntKind.i64 false 0))))
theorem run_skylightref24_Sine (c : Int) (a : Int) (b : Int) (h_c : InR .i64 c) (h_a : InR .i64 a) (h_b : InR .i64 b) : (tr_skylightref24_Sine c a b).run = some (i6 (sineN c a b)) := by
  unfold tr_skylightref24_Sine
  by_cases h : (0 ≤ c ∧ c ≤ 16384) ∧ (16384 ≤ a ∧ a ≤ 65536) ∧ (16384 ≤ b ∧ b ≤ 65536)
  · obtain ⟨hc, ha, hb⟩ := h
    obtain ⟨s1, s2, s3, s4, s5⟩ := sine_r hc ha hb
    rw [wrap_i64_id (n := b * b) (by omega), wrap_i64_id (n := c * c) (by omega), wrap_i64_id (n := 268435456 - c * c) (by omega), wrap_i64_id (n := (268435456 - c * c) * a) (by omega), wrap_i64_id (n := (268435456 - c * c) * a * a) (by omega),
      if_pos (by omega), sineN_eq hc ha hb]
    refine (run_f (decide_eq_false (by omega))).trans ((run_f (decide_eq_false (by omega))).trans ((run_t (decide_eq_true (by omega))).trans ((run_f (by rw [decide_eq_true (by omega)]; rfl)).trans ((run_t (decide_eq_true (by omega))).trans ((run_f (by rw [decide_eq_true (by omega)]; rfl)).trans (?_))))))
    rfl
  · rw [show sineN c a b = 0 by unfold sineN cosB idxB; rw [if_neg]; simp only [decide_eq_true_eq]; exact h]
    repeat (first | (refine run_guard (fun _ => rfl) (fun _ => ?_)) | (refine run_guard (fun _ => ?_) (fun _ => rfl)))
    exfalso
    simp only [decide_eq_true_eq, decide_eq_false_iff_not, Bool.not_eq_true', Bool.not_eq_false', mx_gt, mx_le, mn_lt, mn_ge] at *
    omega

/-! bend.Bend -/
def tr_bend_Bend (d_x : Int) (d_y : Int) (d_z : Int) (n_x : Int) (n_y : Int) (n_z : Int) (a : Int) (b : Int) : Tr AV := Tr.node (decide (mm true (mm true d_x d_y) d_z > 16385)) (Tr.leaf (AV.tuple [AV.agg [AV.int IntKind.i64 false 0, AV.int IntKind.i64 false 0, AV.int IntKind.i64 false 0], AV.bool false false])) (Tr.node (decide (mm false (mm false d_x d_y) d_z < -16385)) (Tr.leaf (AV.tuple [AV.agg [AV.int IntKind.i64 false 0, AV.int IntKind.i64 false 0, AV.int IntKind.i64 false 0], AV.bool false false])) (Tr.node (decide (mm true (mm true n_x n_y) n_z > 16385)) (Tr.leaf (AV.tuple [AV.agg [AV.int IntKind.i64 false 0, AV.int IntKind.i64 false 0, AV.int IntKind.i64 false 0], AV.bool false false])) (Tr.node (decide (mm false (mm false n_x n_y) n_z < -16385)) (Tr.leaf (AV.tuple [AV.agg [AV.int IntKind.i64 false 0, AV.int IntKind.i64 false 0, AV.int IntKind.i64 false 0], AV.bool false false])) (Tr.node (decide (a < 16384)) (Tr.leaf (AV.tuple [AV.agg [AV.int IntKind.i64 false 0, AV.int IntKind.i64 false 0, AV.int IntKind.i64 false 0], AV.bool false false])) (Tr.node (decide (a > 65536)) (Tr.leaf (AV.tuple [AV.agg [AV.int IntKind.i64 false 0, AV.int IntKind.i64 false 0, AV.int IntKind.i64 false 0], AV.bool false false])) (Tr.node (decide (b < 16384)) (Tr.leaf (AV.tuple [AV.agg [AV.int IntKind.i64 false 0, AV.int IntKind.i64 false 0, AV.int IntKind.i64 false 0], AV.bool false false])) (Tr.node (decide (b > 65536)) (Tr.leaf (AV.tuple [AV.agg [AV.int IntKind.i64 false 0, AV.int IntKind.i64 false 0, AV.int IntKind.i64 false 0], AV.bool false false])) (Tr.node (decide (sineN (hold (dv (IntKind.i64.wrap (0 - dotN (facC n_x n_x n_y n_z d_x d_y d_z) (facC n_y n_x n_y n_z d_x d_y d_z) (facC n_z n_x n_y n_z d_x d_y d_z) d_x d_y d_z)) 16384) 0 16384) a b > 268435456)) (Tr.leaf (AV.tuple [AV.agg [AV.int IntKind.i64 false 0, AV.int IntKind.i64 false 0, AV.int IntKind.i64 false 0], AV.bool false false])) (Tr.node (decide (b = 0)) Tr.bad (Tr.leaf (AV.tuple [AV.agg [AV.int IntKind.i64 false (unitC (sat (atF d_x a b + atF (facC n_x n_x n_y n_z d_x d_y d_z) (IntKind.i64.wrap (IntKind.i64.wrap ((IntKind.i64.wrap (hold (dv (IntKind.i64.wrap (0 - dotN (facC n_x n_x n_y n_z d_x d_y d_z) (facC n_y n_x n_y n_z d_x d_y d_z) (facC n_z n_x n_y n_z d_x d_y d_z) d_x d_y d_z)) 16384) 0 16384 * a)).tdiv b) - isq (IntKind.u64.wrap (IntKind.i64.wrap (268435456 - sineN (hold (dv (IntKind.i64.wrap (0 - dotN (facC n_x n_x n_y n_z d_x d_y d_z) (facC n_y n_x n_y n_z d_x d_y d_z) (facC n_z n_x n_y n_z d_x d_y d_z) d_x d_y d_z)) 16384) 0 16384) a b))))) 16384)) (sat (atF d_y a b + atF (facC n_y n_x n_y n_z d_x d_y d_z) (IntKind.i64.wrap (IntKind.i64.wrap ((IntKind.i64.wrap (hold (dv (IntKind.i64.wrap (0 - dotN (facC n_x n_x n_y n_z d_x d_y d_z) (facC n_y n_x n_y n_z d_x d_y d_z) (facC n_z n_x n_y n_z d_x d_y d_z) d_x d_y d_z)) 16384) 0 16384 * a)).tdiv b) - isq (IntKind.u64.wrap (IntKind.i64.wrap (268435456 - sineN (hold (dv (IntKind.i64.wrap (0 - dotN (facC n_x n_x n_y n_z d_x d_y d_z) (facC n_y n_x n_y n_z d_x d_y d_z) (facC n_z n_x n_y n_z d_x d_y d_z) d_x d_y d_z)) 16384) 0 16384) a b))))) 16384)) (sat (atF d_z a b + atF (facC n_z n_x n_y n_z d_x d_y d_z) (IntKind.i64.wrap (IntKind.i64.wrap ((IntKind.i64.wrap (hold (dv (IntKind.i64.wrap (0 - dotN (facC n_x n_x n_y n_z d_x d_y d_z) (facC n_y n_x n_y n_z d_x d_y d_z) (facC n_z n_x n_y n_z d_x d_y d_z) d_x d_y d_z)) 16384) 0 16384 * a)).tdiv b) - isq (IntKind.u64.wrap (IntKind.i64.wrap (268435456 - sineN (hold (dv (IntKind.i64.wrap (0 - dotN (facC n_x n_x n_y n_z d_x d_y d_z) (facC n_y n_x n_y n_z d_x d_y d_z) (facC n_z n_x n_y n_z d_x d_y d_z) d_x d_y d_z)) 16384) 0 16384) a b))))) 16384)) (sat (atF d_x a b + atF (facC n_x n_x n_y n_z d_x d_y d_z) (IntKind.i64.wrap (IntKind.i64.wrap ((IntKind.i64.wrap (hold (dv (IntKind.i64.wrap (0 - dotN (facC n_x n_x n_y n_z d_x d_y d_z) (facC n_y n_x n_y n_z d_x d_y d_z) (facC n_z n_x n_y n_z d_x d_y d_z) d_x d_y d_z)) 16384) 0 16384 * a)).tdiv b) - isq (IntKind.u64.wrap (IntKind.i64.wrap (268435456 - sineN (hold (dv (IntKind.i64.wrap (0 - dotN (facC n_x n_x n_y n_z d_x d_y d_z) (facC n_y n_x n_y n_z d_x d_y d_z) (facC n_z n_x n_y n_z d_x d_y d_z) d_x d_y d_z)) 16384) 0 16384) a b))))) 16384))), AV.int IntKind.i64 false (unitC (sat (atF d_x a b + atF (facC n_x n_x n_y n_z d_x d_y d_z) (IntKind.i64.wrap (IntKind.i64.wrap ((IntKind.i64.wrap (hold (dv (IntKind.i64.wrap (0 - dotN (facC n_x n_x n_y n_z d_x d_y d_z) (facC n_y n_x n_y n_z d_x d_y d_z) (facC n_z n_x n_y n_z d_x d_y d_z) d_x d_y d_z)) 16384) 0 16384 * a)).tdiv b) - isq (IntKind.u64.wrap (IntKind.i64.wrap (268435456 - sineN (hold (dv (IntKind.i64.wrap (0 - dotN (facC n_x n_x n_y n_z d_x d_y d_z) (facC n_y n_x n_y n_z d_x d_y d_z) (facC n_z n_x n_y n_z d_x d_y d_z) d_x d_y d_z)) 16384) 0 16384) a b))))) 16384)) (sat (atF d_y a b + atF (facC n_y n_x n_y n_z d_x d_y d_z) (IntKind.i64.wrap (IntKind.i64.wrap ((IntKind.i64.wrap (hold (dv (IntKind.i64.wrap (0 - dotN (facC n_x n_x n_y n_z d_x d_y d_z) (facC n_y n_x n_y n_z d_x d_y d_z) (facC n_z n_x n_y n_z d_x d_y d_z) d_x d_y d_z)) 16384) 0 16384 * a)).tdiv b) - isq (IntKind.u64.wrap (IntKind.i64.wrap (268435456 - sineN (hold (dv (IntKind.i64.wrap (0 - dotN (facC n_x n_x n_y n_z d_x d_y d_z) (facC n_y n_x n_y n_z d_x d_y d_z) (facC n_z n_x n_y n_z d_x d_y d_z) d_x d_y d_z)) 16384) 0 16384) a b))))) 16384)) (sat (atF d_z a b + atF (facC n_z n_x n_y n_z d_x d_y d_z) (IntKind.i64.wrap (IntKind.i64.wrap ((IntKind.i64.wrap (hold (dv (IntKind.i64.wrap (0 - dotN (facC n_x n_x n_y n_z d_x d_y d_z) (facC n_y n_x n_y n_z d_x d_y d_z) (facC n_z n_x n_y n_z d_x d_y d_z) d_x d_y d_z)) 16384) 0 16384 * a)).tdiv b) - isq (IntKind.u64.wrap (IntKind.i64.wrap (268435456 - sineN (hold (dv (IntKind.i64.wrap (0 - dotN (facC n_x n_x n_y n_z d_x d_y d_z) (facC n_y n_x n_y n_z d_x d_y d_z) (facC n_z n_x n_y n_z d_x d_y d_z) d_x d_y d_z)) 16384) 0 16384) a b))))) 16384)) (sat (atF d_y a b + atF (facC n_y n_x n_y n_z d_x d_y d_z) (IntKind.i64.wrap (IntKind.i64.wrap ((IntKind.i64.wrap (hold (dv (IntKind.i64.wrap (0 - dotN (facC n_x n_x n_y n_z d_x d_y d_z) (facC n_y n_x n_y n_z d_x d_y d_z) (facC n_z n_x n_y n_z d_x d_y d_z) d_x d_y d_z)) 16384) 0 16384 * a)).tdiv b) - isq (IntKind.u64.wrap (IntKind.i64.wrap (268435456 - sineN (hold (dv (IntKind.i64.wrap (0 - dotN (facC n_x n_x n_y n_z d_x d_y d_z) (facC n_y n_x n_y n_z d_x d_y d_z) (facC n_z n_x n_y n_z d_x d_y d_z) d_x d_y d_z)) 16384) 0 16384) a b))))) 16384))), AV.int IntKind.i64 false (unitC (sat (atF d_x a b + atF (facC n_x n_x n_y n_z d_x d_y d_z) (IntKind.i64.wrap (IntKind.i64.wrap ((IntKind.i64.wrap (hold (dv (IntKind.i64.wrap (0 - dotN (facC n_x n_x n_y n_z d_x d_y d_z) (facC n_y n_x n_y n_z d_x d_y d_z) (facC n_z n_x n_y n_z d_x d_y d_z) d_x d_y d_z)) 16384) 0 16384 * a)).tdiv b) - isq (IntKind.u64.wrap (IntKind.i64.wrap (268435456 - sineN (hold (dv (IntKind.i64.wrap (0 - dotN (facC n_x n_x n_y n_z d_x d_y d_z) (facC n_y n_x n_y n_z d_x d_y d_z) (facC n_z n_x n_y n_z d_x d_y d_z) d_x d_y d_z)) 16384) 0 16384) a b))))) 16384)) (sat (atF d_y a b + atF (facC n_y n_x n_y n_z d_x d_y d_z) (IntKind.i64.wrap (IntKind.i64.wrap ((IntKind.i64.wrap (hold (dv (IntKind.i64.wrap (0 - dotN (facC n_x n_x n_y n_z d_x d_y d_z) (facC n_y n_x n_y n_z d_x d_y d_z) (facC n_z n_x n_y n_z d_x d_y d_z) d_x d_y d_z)) 16384) 0 16384 * a)).tdiv b) - isq (IntKind.u64.wrap (IntKind.i64.wrap (268435456 - sineN (hold (dv (IntKind.i64.wrap (0 - dotN (facC n_x n_x n_y n_z d_x d_y d_z) (facC n_y n_x n_y n_z d_x d_y d_z) (facC n_z n_x n_y n_z d_x d_y d_z) d_x d_y d_z)) 16384) 0 16384) a b))))) 16384)) (sat (atF d_z a b + atF (facC n_z n_x n_y n_z d_x d_y d_z) (IntKind.i64.wrap (IntKind.i64.wrap ((IntKind.i64.wrap (hold (dv (IntKind.i64.wrap (0 - dotN (facC n_x n_x n_y n_z d_x d_y d_z) (facC n_y n_x n_y n_z d_x d_y d_z) (facC n_z n_x n_y n_z d_x d_y d_z) d_x d_y d_z)) 16384) 0 16384 * a)).tdiv b) - isq (IntKind.u64.wrap (IntKind.i64.wrap (268435456 - sineN (hold (dv (IntKind.i64.wrap (0 - dotN (facC n_x n_x n_y n_z d_x d_y d_z) (facC n_y n_x n_y n_z d_x d_y d_z) (facC n_z n_x n_y n_z d_x d_y d_z) d_x d_y d_z)) 16384) 0 16384) a b))))) 16384)) (sat (atF d_z a b + atF (facC n_z n_x n_y n_z d_x d_y d_z) (IntKind.i64.wrap (IntKind.i64.wrap ((IntKind.i64.wrap (hold (dv (IntKind.i64.wrap (0 - dotN (facC n_x n_x n_y n_z d_x d_y d_z) (facC n_y n_x n_y n_z d_x d_y d_z) (facC n_z n_x n_y n_z d_x d_y d_z) d_x d_y d_z)) 16384) 0 16384 * a)).tdiv b) - isq (IntKind.u64.wrap (IntKind.i64.wrap (268435456 - sineN (hold (dv (IntKind.i64.wrap (0 - dotN (facC n_x n_x n_y n_z d_x d_y d_z) (facC n_y n_x n_y n_z d_x d_y d_z) (facC n_z n_x n_y n_z d_x d_y d_z) d_x d_y d_z)) 16384) 0 16384) a b))))) 16384)))], AV.bool false (okU (sat (atF d_x a b + atF (facC n_x n_x n_y n_z d_x d_y d_z) (IntKind.i64.wrap (IntKind.i64.wrap ((IntKind.i64.wrap (hold (dv (IntKind.i64.wrap (0 - dotN (facC n_x n_x n_y n_z d_x d_y d_z) (facC n_y n_x n_y n_z d_x d_y d_z) (facC n_z n_x n_y n_z d_x d_y d_z) d_x d_y d_z)) 16384) 0 16384 * a)).tdiv b) - isq (IntKind.u64.wrap (IntKind.i64.wrap (268435456 - sineN (hold (dv (IntKind.i64.wrap (0 - dotN (facC n_x n_x n_y n_z d_x d_y d_z) (facC n_y n_x n_y n_z d_x d_y d_z) (facC n_z n_x n_y n_z d_x d_y d_z) d_x d_y d_z)) 16384) 0 16384) a b))))) 16384)) (sat (atF d_y a b + atF (facC n_y n_x n_y n_z d_x d_y d_z) (IntKind.i64.wrap (IntKind.i64.wrap ((IntKind.i64.wrap (hold (dv (IntKind.i64.wrap (0 - dotN (facC n_x n_x n_y n_z d_x d_y d_z) (facC n_y n_x n_y n_z d_x d_y d_z) (facC n_z n_x n_y n_z d_x d_y d_z) d_x d_y d_z)) 16384) 0 16384 * a)).tdiv b) - isq (IntKind.u64.wrap (IntKind.i64.wrap (268435456 - sineN (hold (dv (IntKind.i64.wrap (0 - dotN (facC n_x n_x n_y n_z d_x d_y d_z) (facC n_y n_x n_y n_z d_x d_y d_z) (facC n_z n_x n_y n_z d_x d_y d_z) d_x d_y d_z)) 16384) 0 16384) a b))))) 16384)) (sat (atF d_z a b + atF (facC n_z n_x n_y n_z d_x d_y d_z) (IntKind.i64.wrap (IntKind.i64.wrap ((IntKind.i64.wrap (hold (dv (IntKind.i64.wrap (0 - dotN (facC n_x n_x n_y n_z d_x d_y d_z) (facC n_y n_x n_y n_z d_x d_y d_z) (facC n_z n_x n_y n_z d_x d_y d_z) d_x d_y d_z)) 16384) 0 16384 * a)).tdiv b) - isq (IntKind.u64.wrap (IntKind.i64.wrap (268435456 - sineN (hold (dv (IntKind.i64.wrap (0 - dotN (facC n_x n_x n_y n_z d_x d_y d_z) (facC n_y n_x n_y n_z d_x d_y d_z) (facC n_z n_x n_y n_z d_x d_y d_z) d_x d_y d_z)) 16384) 0 16384) a b))))) 16384)))])))))))))))
theorem run_bend_Bend (d_x : Int) (d_y : Int) (d_z : Int) (n_x : Int) (n_y : Int) (n_z : Int) (a : Int) (b : Int) (h_d_x : InR .i64 d_x) (h_d_y : InR .i64 d_y) (h_d_z : InR .i64 d_z) (h_n_x : InR .i64 n_x) (h_n_y : InR .i64 n_y) (h_n_z : InR .i64 n_z) (h_a : InR .i64 a) (h_b : InR .i64 b) : (tr_bend_Bend d_x d_y d_z n_x n_y n_z a b).run = some (.tuple [v3 (bendU (bndC d_x n_x d_x d_y d_z n_x n_y n_z a b) d_x d_y d_z n_x n_y n_z a b) (bendU (bndC d_y n_y d_x d_y d_z n_x n_y n_z a b) d_x d_y d_z n_x n_y n_z a b) (bendU (bndC d_z n_z d_x d_y d_z n_x n_y n_z a b) d_x d_y d_z n_x n_y n_z a b), bb (bendIs d_x d_y d_z n_x n_y n_z a b)]) := by
  unfold tr_bend_Bend
  by_cases h : (((-16385 ≤ d_x ∧ d_x ≤ 16385) ∧ (-16385 ≤ d_y ∧ d_y ≤ 16385) ∧ (-16385 ≤ d_z ∧ d_z ≤ 16385)) ∧ ((-16385 ≤ n_x ∧ n_x ≤ 16385) ∧ (-16385 ≤ n_y ∧ n_y ≤ 16385) ∧ (-16385 ≤ n_z ∧ n_z ≤ 16385))) ∧ (16384 ≤ a ∧ a ≤ 65536) ∧ (16384 ≤ b ∧ b ≤ 65536)
  rotate_left
  · have ok : bendOk d_x d_y d_z n_x n_y n_z a b = false := by
      unfold bendOk shortB idxB
      simp only [Bool.and_eq_false_iff, decide_eq_false_iff_not]
      omega
    unfold bendIs bendU
    simp only [ok, Bool.false_and, Bool.false_eq_true, if_false]
    repeat (first | (refine run_guard (fun _ => rfl) (fun _ => ?_)) | (refine run_guard (fun _ => ?_) (fun _ => rfl)))
    exfalso
    simp only [decide_eq_true_eq, decide_eq_false_iff_not, Bool.not_eq_true', Bool.not_eq_false', mx_gt, mx_le, mn_lt, mn_ge] at *
    omega
  obtain ⟨⟨hd, hn⟩, ha, hb⟩ := h
  have sd : shortB d_x d_y d_z = true := decide_eq_true hd
  have sn : shortB n_x n_y n_z = true := decide_eq_true hn
  have hc := @cosN_r n_x n_y n_z d_x d_y d_z
  have hcos := cos_all (short_near sn) (short_near sd)
  rw [← cosN_eq sn sd] at hcos
  refine (run_f (decide_eq_false (by simp only [mx_gt, mx_le, mn_lt, mn_ge]; omega))).trans ((run_f (decide_eq_false (by simp only [mx_gt, mx_le, mn_lt, mn_ge]; omega))).trans ((run_f (decide_eq_false (by simp only [mx_gt, mx_le, mn_lt, mn_ge]; omega))).trans ((run_f (decide_eq_false (by simp only [mx_gt, mx_le, mn_lt, mn_ge]; omega))).trans ((run_f (decide_eq_false (by omega))).trans ((run_f (decide_eq_false (by omega))).trans ((run_f (decide_eq_false (by omega))).trans ((run_f (decide_eq_false (by omega))).trans (?_))))))))
  simp only [hcos]
  obtain ⟨_, _, _, _, s0⟩ := sine_r hc ha hb
  rw [← sineN_eq hc ha hb] at s0
  by_cases hs : sineN (cosN n_x n_y n_z d_x d_y d_z) a b > 268435456
  · have ok : bendOk d_x d_y d_z n_x n_y n_z a b = false := by
      unfold bendOk; simp only [Bool.and_eq_false_iff]; exact .inr (decide_eq_false (by omega))
    unfold bendIs bendU
    simp only [ok, Bool.false_and, Bool.false_eq_true, if_false]
    exact run_t (decide_eq_true hs)
  refine (run_f (decide_eq_false hs)).trans ?_
  have ok : bendOk d_x d_y d_z n_x n_y n_z a b = true := by
    unfold bendOk idxB; simp only [Bool.and_eq_true]; exact ⟨⟨⟨⟨sd, sn⟩, decide_eq_true ha⟩, decide_eq_true hb⟩, decide_eq_true (by omega)⟩
  unfold bendIs bendU
  simp only [ok, Bool.true_and, if_true]
  have ex := bnd_prog hc ha hb ⟨s0, by omega⟩ hd.1 (facC_r (nx := n_x) (ny := n_y) (nz := n_z) (dx := d_x) (dy := d_y) (dz := d_z) hn.1)
  have ey := bnd_prog hc ha hb ⟨s0, by omega⟩ hd.2.1 (facC_r (nx := n_x) (ny := n_y) (nz := n_z) (dx := d_x) (dy := d_y) (dz := d_z) hn.2.1)
  have ez := bnd_prog hc ha hb ⟨s0, by omega⟩ hd.2.2 (facC_r (nx := n_x) (ny := n_y) (nz := n_z) (dx := d_x) (dy := d_y) (dz := d_z) hn.2.2)
  rw [ex, ey, ez]
  exact run_f (decide_eq_false (by omega))

/-! skylightref24.Bend -/
def tr_skylightref24_Bend (d_x : Int) (d_y : Int) (d_z : Int) (n_x : Int) (n_y : Int) (n_z : Int) (a : Int) (b : Int) : Tr AV := Tr.node (decide (mm true (mm true d_x d_y) d_z ≤ 16385)) (Tr.node (!decide (mm false (mm false d_x d_y) d_z ≥ -16385)) (Tr.leaf (AV.tuple [AV.agg [AV.int IntKind.i64 false 0, AV.int IntKind.i64 false 0, AV.int IntKind.i64 false 0], AV.bool false false])) (Tr.node (decide (mm true (mm true n_x n_y) n_z ≤ 16385)) (Tr.node (!decide (mm false (mm false n_x n_y) n_z ≥ -16385)) (Tr.leaf (AV.tuple [AV.agg [AV.int IntKind.i64 false 0, AV.int IntKind.i64 false 0, AV.int IntKind.i64 false 0], AV.bool false false])) (Tr.node (decide (a ≥ 16384)) (Tr.node (!decide (a ≤ 65536)) (Tr.leaf (AV.tuple [AV.agg [AV.int IntKind.i64 false 0, AV.int IntKind.i64 false 0, AV.int IntKind.i64 false 0], AV.bool false false])) (Tr.node (decide (b ≥ 16384)) (Tr.node (!decide (b ≤ 65536)) (Tr.leaf (AV.tuple [AV.agg [AV.int IntKind.i64 false 0, AV.int IntKind.i64 false 0, AV.int IntKind.i64 false 0], AV.bool false false])) (Tr.node (decide (sineN (cosN n_x n_y n_z d_x d_y d_z) a b > 268435456)) (Tr.leaf (AV.tuple [AV.agg [AV.int IntKind.i64 false 0, AV.int IntKind.i64 false 0, AV.int IntKind.i64 false 0], AV.bool false false])) (Tr.leaf (AV.tuple [AV.agg [AV.int IntKind.i64 false (unitC (IntKind.i64.wrap ((if 1 ≤ b then IntKind.i64.wrap (d_x * a) / b else 0) + if (1 : Int) ≤ 16384 then IntKind.i64.wrap (facC n_x n_x n_y n_z d_x d_y d_z * IntKind.i64.wrap ((if 1 ≤ b then IntKind.i64.wrap (cosN n_x n_y n_z d_x d_y d_z * a) / b else 0) - isq (IntKind.u64.wrap (IntKind.i64.wrap (268435456 - sineN (cosN n_x n_y n_z d_x d_y d_z) a b))))) / 16384 else 0)) (IntKind.i64.wrap ((if 1 ≤ b then IntKind.i64.wrap (d_y * a) / b else 0) + if (1 : Int) ≤ 16384 then IntKind.i64.wrap (facC n_y n_x n_y n_z d_x d_y d_z * IntKind.i64.wrap ((if 1 ≤ b then IntKind.i64.wrap (cosN n_x n_y n_z d_x d_y d_z * a) / b else 0) - isq (IntKind.u64.wrap (IntKind.i64.wrap (268435456 - sineN (cosN n_x n_y n_z d_x d_y d_z) a b))))) / 16384 else 0)) (IntKind.i64.wrap ((if 1 ≤ b then IntKind.i64.wrap (d_z * a) / b else 0) + if (1 : Int) ≤ 16384 then IntKind.i64.wrap (facC n_z n_x n_y n_z d_x d_y d_z * IntKind.i64.wrap ((if 1 ≤ b then IntKind.i64.wrap (cosN n_x n_y n_z d_x d_y d_z * a) / b else 0) - isq (IntKind.u64.wrap (IntKind.i64.wrap (268435456 - sineN (cosN n_x n_y n_z d_x d_y d_z) a b))))) / 16384 else 0)) (IntKind.i64.wrap ((if 1 ≤ b then IntKind.i64.wrap (d_x * a) / b else 0) + if (1 : Int) ≤ 16384 then IntKind.i64.wrap (facC n_x n_x n_y n_z d_x d_y d_z * IntKind.i64.wrap ((if 1 ≤ b then IntKind.i64.wrap (cosN n_x n_y n_z d_x d_y d_z * a) / b else 0) - isq (IntKind.u64.wrap (IntKind.i64.wrap (268435456 - sineN (cosN n_x n_y n_z d_x d_y d_z) a b))))) / 16384 else 0))), AV.int IntKind.i64 false (unitC (IntKind.i64.wrap ((if 1 ≤ b then IntKind.i64.wrap (d_x * a) / b else 0) + if (1 : Int) ≤ 16384 then IntKind.i64.wrap (facC n_x n_x n_y n_z d_x d_y d_z * IntKind.i64.wrap ((if 1 ≤ b then IntKind.i64.wrap (cosN n_x n_y n_z d_x d_y d_z * a) / b else 0) - isq (IntKind.u64.wrap (IntKind.i64.wrap (268435456 - sineN (cosN n_x n_y n_z d_x d_y d_z) a b))))) / 16384 else 0)) (IntKind.i64.wrap ((if 1 ≤ b then IntKind.i64.wrap (d_y * a) / b else 0) + if (1 : Int) ≤ 16384 then IntKind.i64.wrap (facC n_y n_x n_y n_z d_x d_y d_z * IntKind.i64.wrap ((if 1 ≤ b then IntKind.i64.wrap (cosN n_x n_y n_z d_x d_y d_z * a) / b else 0) - isq (IntKind.u64.wrap (IntKind.i64.wrap (268435456 - sineN (cosN n_x n_y n_z d_x d_y d_z) a b))))) / 16384 else 0)) (IntKind.i64.wrap ((if 1 ≤ b then IntKind.i64.wrap (d_z * a) / b else 0) + if (1 : Int) ≤ 16384 then IntKind.i64.wrap (facC n_z n_x n_y n_z d_x d_y d_z * IntKind.i64.wrap ((if 1 ≤ b then IntKind.i64.wrap (cosN n_x n_y n_z d_x d_y d_z * a) / b else 0) - isq (IntKind.u64.wrap (IntKind.i64.wrap (268435456 - sineN (cosN n_x n_y n_z d_x d_y d_z) a b))))) / 16384 else 0)) (IntKind.i64.wrap ((if 1 ≤ b then IntKind.i64.wrap (d_y * a) / b else 0) + if (1 : Int) ≤ 16384 then IntKind.i64.wrap (facC n_y n_x n_y n_z d_x d_y d_z * IntKind.i64.wrap ((if 1 ≤ b then IntKind.i64.wrap (cosN n_x n_y n_z d_x d_y d_z * a) / b else 0) - isq (IntKind.u64.wrap (IntKind.i64.wrap (268435456 - sineN (cosN n_x n_y n_z d_x d_y d_z) a b))))) / 16384 else 0))), AV.int IntKind.i64 false (unitC (IntKind.i64.wrap ((if 1 ≤ b then IntKind.i64.wrap (d_x * a) / b else 0) + if (1 : Int) ≤ 16384 then IntKind.i64.wrap (facC n_x n_x n_y n_z d_x d_y d_z * IntKind.i64.wrap ((if 1 ≤ b then IntKind.i64.wrap (cosN n_x n_y n_z d_x d_y d_z * a) / b else 0) - isq (IntKind.u64.wrap (IntKind.i64.wrap (268435456 - sineN (cosN n_x n_y n_z d_x d_y d_z) a b))))) / 16384 else 0)) (IntKind.i64.wrap ((if 1 ≤ b then IntKind.i64.wrap (d_y * a) / b else 0) + if (1 : Int) ≤ 16384 then IntKind.i64.wrap (facC n_y n_x n_y n_z d_x d_y d_z * IntKind.i64.wrap ((if 1 ≤ b then IntKind.i64.wrap (cosN n_x n_y n_z d_x d_y d_z * a) / b else 0) - isq (IntKind.u64.wrap (IntKind.i64.wrap (268435456 - sineN (cosN n_x n_y n_z d_x d_y d_z) a b))))) / 16384 else 0)) (IntKind.i64.wrap ((if 1 ≤ b then IntKind.i64.wrap (d_z * a) / b else 0) + if (1 : Int) ≤ 16384 then IntKind.i64.wrap (facC n_z n_x n_y n_z d_x d_y d_z * IntKind.i64.wrap ((if 1 ≤ b then IntKind.i64.wrap (cosN n_x n_y n_z d_x d_y d_z * a) / b else 0) - isq (IntKind.u64.wrap (IntKind.i64.wrap (268435456 - sineN (cosN n_x n_y n_z d_x d_y d_z) a b))))) / 16384 else 0)) (IntKind.i64.wrap ((if 1 ≤ b then IntKind.i64.wrap (d_z * a) / b else 0) + if (1 : Int) ≤ 16384 then IntKind.i64.wrap (facC n_z n_x n_y n_z d_x d_y d_z * IntKind.i64.wrap ((if 1 ≤ b then IntKind.i64.wrap (cosN n_x n_y n_z d_x d_y d_z * a) / b else 0) - isq (IntKind.u64.wrap (IntKind.i64.wrap (268435456 - sineN (cosN n_x n_y n_z d_x d_y d_z) a b))))) / 16384 else 0)))], AV.bool false (okU (IntKind.i64.wrap ((if 1 ≤ b then IntKind.i64.wrap (d_x * a) / b else 0) + if (1 : Int) ≤ 16384 then IntKind.i64.wrap (facC n_x n_x n_y n_z d_x d_y d_z * IntKind.i64.wrap ((if 1 ≤ b then IntKind.i64.wrap (cosN n_x n_y n_z d_x d_y d_z * a) / b else 0) - isq (IntKind.u64.wrap (IntKind.i64.wrap (268435456 - sineN (cosN n_x n_y n_z d_x d_y d_z) a b))))) / 16384 else 0)) (IntKind.i64.wrap ((if 1 ≤ b then IntKind.i64.wrap (d_y * a) / b else 0) + if (1 : Int) ≤ 16384 then IntKind.i64.wrap (facC n_y n_x n_y n_z d_x d_y d_z * IntKind.i64.wrap ((if 1 ≤ b then IntKind.i64.wrap (cosN n_x n_y n_z d_x d_y d_z * a) / b else 0) - isq (IntKind.u64.wrap (IntKind.i64.wrap (268435456 - sineN (cosN n_x n_y n_z d_x d_y d_z) a b))))) / 16384 else 0)) (IntKind.i64.wrap ((if 1 ≤ b then IntKind.i64.wrap (d_z * a) / b else 0) + if (1 : Int) ≤ 16384 then IntKind.i64.wrap (facC n_z n_x n_y n_z d_x d_y d_z * IntKind.i64.wrap ((if 1 ≤ b then IntKind.i64.wrap (cosN n_x n_y n_z d_x d_y d_z * a) / b else 0) - isq (IntKind.u64.wrap (IntKind.i64.wrap (268435456 - sineN (cosN n_x n_y n_z d_x d_y d_z) a b))))) / 16384 else 0)))])))) (Tr.leaf (AV.tuple [AV.agg [AV.int IntKind.i64 false 0, AV.int IntKind.i64 false 0, AV.int IntKind.i64 false 0], AV.bool false false])))) (Tr.leaf (AV.tuple [AV.agg [AV.int IntKind.i64 false 0, AV.int IntKind.i64 false 0, AV.int IntKind.i64 false 0], AV.bool false false])))) (Tr.leaf (AV.tuple [AV.agg [AV.int IntKind.i64 false 0, AV.int IntKind.i64 false 0, AV.int IntKind.i64 false 0], AV.bool false false])))) (Tr.leaf (AV.tuple [AV.agg [AV.int IntKind.i64 false 0, AV.int IntKind.i64 false 0, AV.int IntKind.i64 false 0], AV.bool false false]))
theorem run_skylightref24_Bend (d_x : Int) (d_y : Int) (d_z : Int) (n_x : Int) (n_y : Int) (n_z : Int) (a : Int) (b : Int) (h_d_x : InR .i64 d_x) (h_d_y : InR .i64 d_y) (h_d_z : InR .i64 d_z) (h_n_x : InR .i64 n_x) (h_n_y : InR .i64 n_y) (h_n_z : InR .i64 n_z) (h_a : InR .i64 a) (h_b : InR .i64 b) : (tr_skylightref24_Bend d_x d_y d_z n_x n_y n_z a b).run = some (.tuple [v3 (bendU (bndC d_x n_x d_x d_y d_z n_x n_y n_z a b) d_x d_y d_z n_x n_y n_z a b) (bendU (bndC d_y n_y d_x d_y d_z n_x n_y n_z a b) d_x d_y d_z n_x n_y n_z a b) (bendU (bndC d_z n_z d_x d_y d_z n_x n_y n_z a b) d_x d_y d_z n_x n_y n_z a b), bb (bendIs d_x d_y d_z n_x n_y n_z a b)]) := by
  unfold tr_skylightref24_Bend
  by_cases h : (((-16385 ≤ d_x ∧ d_x ≤ 16385) ∧ (-16385 ≤ d_y ∧ d_y ≤ 16385) ∧ (-16385 ≤ d_z ∧ d_z ≤ 16385)) ∧ ((-16385 ≤ n_x ∧ n_x ≤ 16385) ∧ (-16385 ≤ n_y ∧ n_y ≤ 16385) ∧ (-16385 ≤ n_z ∧ n_z ≤ 16385))) ∧ (16384 ≤ a ∧ a ≤ 65536) ∧ (16384 ≤ b ∧ b ≤ 65536)
  rotate_left
  · have ok : bendOk d_x d_y d_z n_x n_y n_z a b = false := by
      unfold bendOk shortB idxB
      simp only [Bool.and_eq_false_iff, decide_eq_false_iff_not]
      omega
    unfold bendIs bendU
    simp only [ok, Bool.false_and, Bool.false_eq_true, if_false]
    repeat (first | (refine run_guard (fun _ => rfl) (fun _ => ?_)) | (refine run_guard (fun _ => ?_) (fun _ => rfl)))
    exfalso
    simp only [decide_eq_true_eq, decide_eq_false_iff_not, Bool.not_eq_true', Bool.not_eq_false', mx_gt, mx_le, mn_lt, mn_ge] at *
    omega
  obtain ⟨⟨hd, hn⟩, ha, hb⟩ := h
  have sd : shortB d_x d_y d_z = true := decide_eq_true hd
  have sn : shortB n_x n_y n_z = true := decide_eq_true hn
  have hc := @cosN_r n_x n_y n_z d_x d_y d_z
  have hcos := cos_all (short_near sn) (short_near sd)
  rw [← cosN_eq sn sd] at hcos
  refine (run_t (decide_eq_true (by simp only [mx_gt, mx_le, mn_lt, mn_ge]; omega))).trans ((run_f (by rw [decide_eq_true (by simp only [mx_gt, mx_le, mn_lt, mn_ge]; omega)]; rfl)).trans ((run_t (decide_eq_true (by simp only [mx_gt, mx_le, mn_lt, mn_ge]; omega))).trans ((run_f (by rw [decide_eq_true (by simp only [mx_gt, mx_le, mn_lt, mn_ge]; omega)]; rfl)).trans ((run_t (decide_eq_true (by omega))).trans ((run_f (by rw [decide_eq_true (by omega)]; rfl)).trans ((run_t (decide_eq_true (by omega))).trans ((run_f (by rw [decide_eq_true (by omega)]; rfl)).trans (?_))))))))
  obtain ⟨_, _, _, _, s0⟩ := sine_r hc ha hb
  rw [← sineN_eq hc ha hb] at s0
  by_cases hs : sineN (cosN n_x n_y n_z d_x d_y d_z) a b > 268435456
  · have ok : bendOk d_x d_y d_z n_x n_y n_z a b = false := by
      unfold bendOk; simp only [Bool.and_eq_false_iff]; exact .inr (decide_eq_false (by omega))
    unfold bendIs bendU
    simp only [ok, Bool.false_and, Bool.false_eq_true, if_false]
    exact run_t (decide_eq_true hs)
  refine (run_f (decide_eq_false hs)).trans ?_
  have ok : bendOk d_x d_y d_z n_x n_y n_z a b = true := by
    unfold bendOk idxB; simp only [Bool.and_eq_true]; exact ⟨⟨⟨⟨sd, sn⟩, decide_eq_true ha⟩, decide_eq_true hb⟩, decide_eq_true (by omega)⟩
  unfold bendIs bendU
  simp only [ok, Bool.true_and, if_true]
  have ex := bnd_ref hc ha hb ⟨s0, by omega⟩ hd.1 (facC_r (nx := n_x) (ny := n_y) (nz := n_z) (dx := d_x) (dy := d_y) (dz := d_z) hn.1)
  have ey := bnd_ref hc ha hb ⟨s0, by omega⟩ hd.2.1 (facC_r (nx := n_x) (ny := n_y) (nz := n_z) (dx := d_x) (dy := d_y) (dz := d_z) hn.2.1)
  have ez := bnd_ref hc ha hb ⟨s0, by omega⟩ hd.2.2 (facC_r (nx := n_x) (ny := n_y) (nz := n_z) (dx := d_x) (dy := d_y) (dz := d_z) hn.2.2)
  rw [ex, ey, ez]
  rfl

end Go.Sky

/- Materials: powers. -/
set_option linter.unusedSimpArgs false
set_option linter.unusedVariables false
namespace Go.Sky

def pwGo : Nat → Int → Int → Int
  | 0, _, p => p
  | k + 1, c, p => pwGo k c (p * c / 16384)
def powN (c e : Int) : Int := if (0 ≤ c ∧ c ≤ 16384) ∧ (0 ≤ e ∧ e ≤ 64) then pwGo e.toNat c 16384 else 0

theorem pwGo_succ : ∀ (k : Nat) (c p : Int), pwGo (k + 1) c p = pwGo k c p * c / 16384
  | 0, c, p => rfl
  | k + 1, c, p => by
    have := pwGo_succ k c (p * c / 16384)
    simp only [pwGo] at this ⊢
    exact this

theorem pw_step {c p : Int} (hc : 0 ≤ c ∧ c ≤ 16384) (hp : 0 ≤ p ∧ p ≤ 16384) : (0 ≤ p * c ∧ p * c ≤ 268435456) ∧ 0 ≤ p * c / 16384 ∧ p * c / 16384 ≤ p := by
  have h1 := mul_mono (a := p) (b := 16384) (c := c) (d := 16384) hp.1 hp.2 hc.1 hc.2
  have h2 : p * c ≤ p * 16384 := Int.mul_le_mul_of_nonneg_left hc.2 hp.1
  omega

theorem pwGo_r : ∀ (k : Nat) {c p : Int}, (0 ≤ c ∧ c ≤ 16384) → (0 ≤ p ∧ p ≤ 16384) → 0 ≤ pwGo k c p ∧ pwGo k c p ≤ 16384
  | 0, c, p, _, h => h
  | k + 1, c, p, hc, hp => by
    have := pw_step hc hp
    exact pwGo_r k hc (by omega)

theorem pwGo_mono : ∀ (k : Nat) {c d : Int}, 0 ≤ c → c ≤ d → d ≤ 16384 → pwGo k c 16384 ≤ pwGo k d 16384
  | 0, c, d, _, _, _ => Int.le_refl _
  | k + 1, c, d, h0, h1, h2 => by
    rw [pwGo_succ, pwGo_succ]
    have ih := pwGo_mono k h0 h1 h2
    have r := pwGo_r k (c := c) (p := 16384) ⟨h0, by omega⟩ (by decide)
    have := mul_mono r.1 ih h0 h1
    omega

theorem pwGo_all : ∀ k : Nat, pwGo k 16384 16384 = 16384
  | 0 => rfl
  | k + 1 => by simp only [pwGo]; exact pwGo_all k

theorem powN_eq {c e : Int} (hc : 0 ≤ c ∧ c ≤ 16384) (he : 0 ≤ e ∧ e ≤ 64) : powN c e = pwGo e.toNat c 16384 := by unfold powN; rw [if_pos ⟨hc, he⟩]

end Go.Sky

/- Trees of functions, and what they come to. -/
set_option linter.unusedSimpArgs false
set_option linter.unusedVariables false
namespace Go.Sky
set_option maxRecDepth 100000

/-! matter.Power, block 0 -/
def st_matter_Power_0 (c : Int) (pw : Int) (en : Int) (j : Int) (x1 x2 x3 x4 x6 x7 x8 x9 x10 x11 x12 x13 x14 x15 x16 x17 x18 x19 x22 x23 x24 x25 x26 x27 x28 : AV) (h : AH) : St := ⟨[.int .i64 false c, x1, x2, x3, x4, .int .i64 false pw, x6, x7, x8, x9, x10, x11, x12, x13, x14, x15, x16, x17, x18, x19, .int .i64 false en, .int .i64 false j, x22, x23, x24, x25, x26, x27, x28], h⟩
def kl_matter_Power_0 (c : Int) (pw : Int) (en : Int) (j : Int) (x1 x2 x3 x4 x6 x7 x8 x9 x10 x11 x12 x13 x14 x15 x16 x17 x18 x19 x22 x23 x24 x25 x26 x27 x28 : AV) (h : AH) : List AV := [untag (.int .i64 false c), untag x1, untag x2, untag x3, untag x4, .undef, untag x6, untag x7, untag x8, untag x9, untag x10, untag x11, untag x12, untag x13, untag x14, untag x15, untag x16, untag x17, untag x18, untag x19, untag (.int .i64 false en), .undef, .undef, .undef, .undef, .undef, .undef, .undef, untag x28]
def sl_matter_Power_0_0 (c : Int) (pw : Int) (en : Int) (j : Int) (x1 x2 x3 x4 x6 x7 x8 x9 x10 x11 x12 x13 x14 x15 x16 x17 x18 x19 x22 x23 x24 x25 x26 x27 x28 : AV) (h : AH) : St := ⟨[AV.int IntKind.i64 false c, x1, x2, x3, x4, AV.int IntKind.i64 false (IntKind.i64.wrap ((IntKind.i64.wrap (pw * c)).tdiv 16384)), x6, x7, x8, x9, x10, x11, x12, x13, x14, x15, x16, x17, x18, x19, AV.int IntKind.i64 false en, AV.int IntKind.i64 false (IntKind.i64.wrap (j + 1)), AV.bool false (decide (j < en)), AV.int IntKind.i64 false pw, AV.int IntKind.i64 false c, AV.int IntKind.i64 false (IntKind.i64.wrap (pw * c)), AV.int IntKind.i64 false (IntKind.i64.wrap ((IntKind.i64.wrap (pw * c)).tdiv 16384)), AV.int IntKind.i64 false (IntKind.i64.wrap (j + 1)), x28], h⟩
def sl_matter_Power_0_1 (c : Int) (pw : Int) (en : Int) (j : Int) (x1 x2 x3 x4 x6 x7 x8 x9 x10 x11 x12 x13 x14 x15 x16 x17 x18 x19 x22 x23 x24 x25 x26 x27 x28 : AV) (h : AH) : St := ⟨[AV.int IntKind.i64 false c, x1, x2, x3, x4, AV.int IntKind.i64 false pw, x6, x7, x8, x9, x10, x11, x12, x13, x14, x15, x16, x17, x18, x19, AV.int IntKind.i64 false en, AV.int IntKind.i64 false j, AV.bool false (decide (j < en)), x23, x24, x25, x26, x27, x28], h⟩
def rd_matter_Power_0 (c : Int) (pw : Int) (en : Int) (j : Int) (x1 x2 x3 x4 x6 x7 x8 x9 x10 x11 x12 x13 x14 x15 x16 x17 x18 x19 x22 x23 x24 x25 x26 x27 x28 : AV) (h : AH) : Tr (Ex × St) := Tr.node (decide (j < en)) (Tr.leaf (Ex.normal, sl_matter_Power_0_0 c pw en j x1 x2 x3 x4 x6 x7 x8 x9 x10 x11 x12 x13 x14 x15 x16 x17 x18 x19 x22 x23 x24 x25 x26 x27 x28 h)) (Tr.leaf (Ex.exit 0, sl_matter_Power_0_1 c pw en j x1 x2 x3 x4 x6 x7 x8 x9 x10 x11 x12 x13 x14 x15 x16 x17 x18 x19 x22 x23 x24 x25 x26 x27 x28 h))
def g_matter_Power_0 : PieceTold := fun l h => match l with | [.int .i64 false c, .int .i64 false pw, .int .i64 false en, .int .i64 false j] => .node (decide ((0 ≤ c ∧ c ≤ 16384) ∧ (0 ≤ pw ∧ pw ≤ 16384) ∧ 0 ≤ j ∧ j ≤ en ∧ en ≤ 64)) (.leaf (.normal, [(5, i6 (pwGo (en - j).toNat c pw))], h)) .bad | _ => .bad
def HR_matter_Power_0 (rnd : Nat → St → Tr (Ex × St)) : Prop := ∀ L (c : Int) (pw : Int) (en : Int) (j : Int) (x1 x2 x3 x4 x6 x7 x8 x9 x10 x11 x12 x13 x14 x15 x16 x17 x18 x19 x22 x23 x24 x25 x26 x27 x28 : AV) (h : AH), rnd L (st_matter_Power_0 c pw en j x1 x2 x3 x4 x6 x7 x8 x9 x10 x11 x12 x13 x14 x15 x16 x17 x18 x19 x22 x23 x24 x25 x26 x27 x28 h) = rd_matter_Power_0 c pw en j x1 x2 x3 x4 x6 x7 x8 x9 x10 x11 x12 x13 x14 x15 x16 x17 x18 x19 x22 x23 x24 x25 x26 x27 x28 h
/-- From here the loop ends so. -/
def Fin_matter_Power_0 (rnd : Nat → St → Tr (Ex × St)) (c : Int) (pw : Int) (en : Int) (j : Int) (e : Ex) (outs : List (Nat × AV)) (hp : AH → AH) : Prop := ∀ (x1 x2 x3 x4 x6 x7 x8 x9 x10 x11 x12 x13 x14 x15 x16 x17 x18 x19 x22 x23 x24 x25 x26 x27 x28 : AV) (h : AH),
    ∃ N s', (∀ L, (loopIterG none (rnd L) (N + 1) (st_matter_Power_0 c pw en j x1 x2 x3 x4 x6 x7 x8 x9 x10 x11 x12 x13 x14 x15 x16 x17 x18 x19 x22 x23 x24 x25 x26 x27 x28 h)).run = some (e, s')) ∧ Leaves none 29 [5, 21, 22, 23, 24, 25, 26, 27] (st_matter_Power_0 c pw en j x1 x2 x3 x4 x6 x7 x8 x9 x10 x11 x12 x13 x14 x15 x16 x17 x18 x19 x22 x23 x24 x25 x26 x27 x28 h).tmps outs (hp h) s'
theorem step_matter_Power_0_0 {rnd : Nat → St → Tr (Ex × St)} (hr : HR_matter_Power_0 rnd) (c : Int) (pw : Int) (en : Int) (j : Int) (c0 : (decide (j < en)) = true) {e : Ex} {outs : List (Nat × AV)} {hp : AH → AH} (hn : Fin_matter_Power_0 rnd (c) ((IntKind.i64.wrap ((IntKind.i64.wrap (pw * c)).tdiv 16384))) (en) ((IntKind.i64.wrap (j + 1))) e outs hp) : Fin_matter_Power_0 rnd c pw en j e outs hp := by
  intro x1 x2 x3 x4 x6 x7 x8 x9 x10 x11 x12 x13 x14 x15 x16 x17 x18 x19 x22 x23 x24 x25 x26 x27 x28 h
  obtain ⟨N, s', h1, h2⟩ := hn (x1) (x2) (x3) (x4) (x6) (x7) (x8) (x9) (x10) (x11) (x12) (x13) (x14) (x15) (x16) (x17) (x18) (x19) (AV.bool false (decide (j < en))) (AV.int IntKind.i64 false pw) (AV.int IntKind.i64 false c) (AV.int IntKind.i64 false (IntKind.i64.wrap (pw * c))) (AV.int IntKind.i64 false (IntKind.i64.wrap ((IntKind.i64.wrap (pw * c)).tdiv 16384))) (AV.int IntKind.i64 false (IntKind.i64.wrap (j + 1))) (x28) h
  refine ⟨N + 1, s', fun L => ?_, h2.of (s1 := sl_matter_Power_0_0 c pw en j x1 x2 x3 x4 x6 x7 x8 x9 x10 x11 x12 x13 x14 x15 x16 x17 x18 x19 x22 x23 x24 x25 x26 x27 x28 h) rfl ((show _ = kl_matter_Power_0 c pw en j x1 x2 x3 x4 x6 x7 x8 x9 x10 x11 x12 x13 x14 x15 x16 x17 x18 x19 x22 x23 x24 x25 x26 x27 x28 h from rfl).trans (show kl_matter_Power_0 c pw en j x1 x2 x3 x4 x6 x7 x8 x9 x10 x11 x12 x13 x14 x15 x16 x17 x18 x19 x22 x23 x24 x25 x26 x27 x28 h = _ from rfl))⟩
  rw [loopIterG, hr L c pw en j x1 x2 x3 x4 x6 x7 x8 x9 x10 x11 x12 x13 x14 x15 x16 x17 x18 x19 x22 x23 x24 x25 x26 x27 x28 h, Tr.run_bind, show (rd_matter_Power_0 c pw en j x1 x2 x3 x4 x6 x7 x8 x9 x10 x11 x12 x13 x14 x15 x16 x17 x18 x19 x22 x23 x24 x25 x26 x27 x28 h).run = some (.normal, sl_matter_Power_0_0 c pw en j x1 x2 x3 x4 x6 x7 x8 x9 x10 x11 x12 x13 x14 x15 x16 x17 x18 x19 x22 x23 x24 x25 x26 x27 x28 h) from (run_t c0).trans (rfl)]
  exact h1 L
theorem stop_matter_Power_0_1 {rnd : Nat → St → Tr (Ex × St)} (hr : HR_matter_Power_0 rnd) (c : Int) (pw : Int) (en : Int) (j : Int) (c0 : (decide (j < en)) = false) {outs : List (Nat × AV)} {hp : AH → AH} (ho : ∀ (x1 x2 x3 x4 x6 x7 x8 x9 x10 x11 x12 x13 x14 x15 x16 x17 x18 x19 x22 x23 x24 x25 x26 x27 x28 : AV) (h : AH), outs.map (fun p => untag ((sl_matter_Power_0_1 c pw en j x1 x2 x3 x4 x6 x7 x8 x9 x10 x11 x12 x13 x14 x15 x16 x17 x18 x19 x22 x23 x24 x25 x26 x27 x28 h).tmps.getD p.1 .undef)) = outs.map (fun p => untag p.2)) (hh : ∀ h : AH, (h).map untagL = (hp h).map untagL) : Fin_matter_Power_0 rnd c pw en j (.exit 0) outs hp := by
  intro x1 x2 x3 x4 x6 x7 x8 x9 x10 x11 x12 x13 x14 x15 x16 x17 x18 x19 x22 x23 x24 x25 x26 x27 x28 h
  refine ⟨0, gcSt none (sl_matter_Power_0_1 c pw en j x1 x2 x3 x4 x6 x7 x8 x9 x10 x11 x12 x13 x14 x15 x16 x17 x18 x19 x22 x23 x24 x25 x26 x27 x28 h), fun L => ?_, Leaves.stop (s1 := sl_matter_Power_0_1 c pw en j x1 x2 x3 x4 x6 x7 x8 x9 x10 x11 x12 x13 x14 x15 x16 x17 x18 x19 x22 x23 x24 x25 x26 x27 x28 h) (hh h) rfl (ho x1 x2 x3 x4 x6 x7 x8 x9 x10 x11 x12 x13 x14 x15 x16 x17 x18 x19 x22 x23 x24 x25 x26 x27 x28 h) ((show _ = kl_matter_Power_0 c pw en j x1 x2 x3 x4 x6 x7 x8 x9 x10 x11 x12 x13 x14 x15 x16 x17 x18 x19 x22 x23 x24 x25 x26 x27 x28 h from rfl).trans (show kl_matter_Power_0 c pw en j x1 x2 x3 x4 x6 x7 x8 x9 x10 x11 x12 x13 x14 x15 x16 x17 x18 x19 x22 x23 x24 x25 x26 x27 x28 h = _ from rfl))⟩
  rw [loopIterG, hr L c pw en j x1 x2 x3 x4 x6 x7 x8 x9 x10 x11 x12 x13 x14 x15 x16 x17 x18 x19 x22 x23 x24 x25 x26 x27 x28 h, Tr.run_bind, show (rd_matter_Power_0 c pw en j x1 x2 x3 x4 x6 x7 x8 x9 x10 x11 x12 x13 x14 x15 x16 x17 x18 x19 x22 x23 x24 x25 x26 x27 x28 h).run = some (.exit 0, sl_matter_Power_0_1 c pw en j x1 x2 x3 x4 x6 x7 x8 x9 x10 x11 x12 x13 x14 x15 x16 x17 x18 x19 x22 x23 x24 x25 x26 x27 x28 h) from (run_f c0).trans (rfl)]
  rfl
theorem core_matter_Power_0 (rnd : Nat → St → Tr (Ex × St)) (hr : HR_matter_Power_0 rnd) : ∀ (c : Int) (pw : Int) (en : Int) (j : Int), (0 ≤ c ∧ c ≤ 16384) ∧ (0 ≤ pw ∧ pw ≤ 16384) ∧ 0 ≤ j ∧ j ≤ en ∧ en ≤ 64 → Fin_matter_Power_0 rnd c pw en j (.exit 0) [(5, i6 (pwGo (en - j).toNat c pw))] (fun h => h) := by
  have key : ∀ (m : Nat) (c pw en j : Int), (en - j).toNat = m → (0 ≤ c ∧ c ≤ 16384) ∧ (0 ≤ pw ∧ pw ≤ 16384) ∧ 0 ≤ j ∧ j ≤ en ∧ en ≤ 64 → Fin_matter_Power_0 rnd c pw en j (.exit 0) [(5, i6 (pwGo (en - j).toNat c pw))] (fun h => h) := by
    intro m
    induction m with
    | zero =>
      intro c pw en j hm ⟨h1, h2, h3, h4, h5⟩
      refine stop_matter_Power_0_1 hr c pw en j (decide_eq_false (by omega)) ?_ (fun h => rfl)
      intros
      rw [hm]; rfl
    | succ m ih =>
      intro c pw en j hm ⟨h1, h2, h3, h4, h5⟩
      have st := pw_step h1 h2
      refine step_matter_Power_0_0 hr c pw en j (decide_eq_true (by omega)) ?_
      rw [wrap_i64_id (n := pw * c) (by omega), Int.tdiv_eq_ediv_of_nonneg (by omega), wrap_i64_id (n := pw * c / 16384) (by omega), wrap_i64_id (n := j + 1) (by omega)]
      have := ih c (pw * c / 16384) en (j + 1) (by omega) ⟨h1, by omega, by omega, by omega, h5⟩
      rw [show (en - (j + 1)).toNat = m by omega] at this
      rw [hm]
      exact this
  exact fun c pw en j hc => key _ c pw en j rfl hc
theorem piece_matter_Power_0 {P : Program} {T : Table} {O' : Known} {f : FuncId} (hb : blockOf P f 0 = .loop (loopOf P f 0)) (hid : O' 0 = none)
    (hr : HR_matter_Power_0 (fun L => evCode P (evCall P T 16 4) L O' (loopOf P f 0))) :
    ∀ (s : St) (e : Ex) (outs : List (Nat × AV)) (hp : AH), s.tmps.length = 29 → (g_matter_Power_0 (([0, 5, 20, 21] : List Nat).map fun j => untag (s.tmps.getD j .undef)) (s.heap.map untagL)).run = some (e, outs, hp) → ∃ s', Good P T O' f 0 29 [5, 21, 22, 23, 24, 25, 26, 27] s e outs hp s' := by
  intro s e outs hp hk hg
  obtain ⟨tm, h⟩ := s
  have htm : untagL tm = [untag (tm.getD 0 .undef), untag (tm.getD 1 .undef), untag (tm.getD 2 .undef), untag (tm.getD 3 .undef), untag (tm.getD 4 .undef), untag (tm.getD 5 .undef), untag (tm.getD 6 .undef), untag (tm.getD 7 .undef), untag (tm.getD 8 .undef), untag (tm.getD 9 .undef), untag (tm.getD 10 .undef), untag (tm.getD 11 .undef), untag (tm.getD 12 .undef), untag (tm.getD 13 .undef), untag (tm.getD 14 .undef), untag (tm.getD 15 .undef), untag (tm.getD 16 .undef), untag (tm.getD 17 .undef), untag (tm.getD 18 .undef), untag (tm.getD 19 .undef), untag (tm.getD 20 .undef), untag (tm.getD 21 .undef), untag (tm.getD 22 .undef), untag (tm.getD 23 .undef), untag (tm.getD 24 .undef), untag (tm.getD 25 .undef), untag (tm.getD 26 .undef), untag (tm.getD 27 .undef), untag (tm.getD 28 .undef)] := tmps_eq hk
  unfold g_matter_Power_0 at hg
  simp only [List.map_cons, List.map_nil] at hg
  split at hg
  · rename_i c pw en j heq
    simp only [List.cons.injEq, and_true] at heq
    obtain ⟨e0, e5, e20, e21⟩ := heq
    simp only [Tr.run] at hg
    split at hg
    · rename_i hc
      simp only [Option.some.injEq, Prod.mk.injEq] at hg
      obtain ⟨rfl, rfl, rfl⟩ := hg
      rw [e0, e5, e20, e21] at htm
      obtain ⟨N, s', h1, h2⟩ := core_matter_Power_0 (fun L => evCode P (evCall P T 16 4) L O' (loopOf P f 0)) hr c pw en j (of_decide_eq_true hc) (untag (tm.getD 1 .undef)) (untag (tm.getD 2 .undef)) (untag (tm.getD 3 .undef)) (untag (tm.getD 4 .undef)) (untag (tm.getD 6 .undef)) (untag (tm.getD 7 .undef)) (untag (tm.getD 8 .undef)) (untag (tm.getD 9 .undef)) (untag (tm.getD 10 .undef)) (untag (tm.getD 11 .undef)) (untag (tm.getD 12 .undef)) (untag (tm.getD 13 .undef)) (untag (tm.getD 14 .undef)) (untag (tm.getD 15 .undef)) (untag (tm.getD 16 .undef)) (untag (tm.getD 17 .undef)) (untag (tm.getD 18 .undef)) (untag (tm.getD 19 .undef)) (untag (tm.getD 22 .undef)) (untag (tm.getD 23 .undef)) (untag (tm.getD 24 .undef)) (untag (tm.getD 25 .undef)) (untag (tm.getD 26 .undef)) (untag (tm.getD 27 .undef)) (untag (tm.getD 28 .undef)) (h.map untagL)
      exact ⟨s', good_loop (g := none) (e1 := .exit 0) hb (fun k e => by cases e) 16 4 N (by rw [htm]; exact h1) (by rw [htm]; exact h2)⟩
    · cases hg
  · cases hg

/-! matter.Power -/
def tr_matter_Power (c : Int) (e : Int) : Tr AV := Tr.node (decide (c < 0)) (Tr.leaf (AV.int IntKind.i64 false 0)) (Tr.node (decide (c > 16384)) (Tr.leaf (AV.int IntKind.i64 false 0)) (Tr.node (decide (e < 0)) (Tr.leaf (AV.int IntKind.i64 false 0)) (Tr.node (decide (e > 64)) (Tr.leaf (AV.int IntKind.i64 false 0)) (Tr.node (decide ((0 ≤ c ∧ c ≤ 16384) ∧ ((0 : Int) ≤ 16384 ∧ (16384 : Int) ≤ 16384) ∧ (0 : Int) ≤ 0 ∧ 0 ≤ e ∧ e ≤ 64)) (Tr.leaf (AV.int IntKind.i64 false (pwGo (e - 0).toNat c 16384))) Tr.bad))))
theorem run_matter_Power (c : Int) (e : Int) (h_c : InR .i64 c) (h_e : InR .i64 e) : (tr_matter_Power c e).run = some (i6 (powN c e)) := by
  unfold tr_matter_Power
  by_cases h : (0 ≤ c ∧ c ≤ 16384) ∧ (0 ≤ e ∧ e ≤ 64)
  · rw [powN_eq h.1 h.2]
    (repeat (first | refine (run_t (by first | rfl | (simp only [decide_eq_true_eq]; omega))).trans ?_ | refine (run_f (by first | rfl | (simp only [decide_eq_false_iff_not]; omega))).trans ?_))
    rw [show (e - 0).toNat = e.toNat by omega]; rfl
  · have e0 : powN c e = 0 := by unfold powN; rw [if_neg h]
    rw [e0]
    (repeat' (first | rfl | (refine run_guard (fun _ => ?_) (fun _ => ?_)))) <;> (exfalso; simp only [decide_eq_true_eq, decide_eq_false_iff_not] at *; omega)

/-! skylightlaw25.awake -/
def tr_skylightlaw25_awake  : Tr AV := Tr.leaf (AV.bool false true)
theorem run_skylightlaw25_awake   : (tr_skylightlaw25_awake ).run = some (bb true) := by
  unfold tr_skylightlaw25_awake
  rfl

end Go.Sky

/- Matter: what is reckoned of colors, angles, bases and spreads. -/
set_option linter.unusedSimpArgs false
set_option linter.unusedVariables false
namespace Go.Sky

instance : DecidableEq V3 := fun a b =>
  if h : a.x = b.x ∧ a.y = b.y ∧ a.z = b.z then isTrue (by cases a; cases b; simp_all) else isFalse (fun e => h (by subst e; exact ⟨rfl, rfl, rfl⟩))
def near3 (v : V3) : Bool := nearB v.x v.y v.z
def unit3 (v : V3) : V3 := ⟨unitC v.x v.y v.z v.x, unitC v.x v.y v.z v.y, unitC v.x v.y v.z v.z⟩
def ok3 (v : V3) : Bool := okU v.x v.y v.z
def cross3 (a b : V3) : V3 := ⟨crN a.y a.z b.y b.z a.x b.x, crN a.z a.x b.z b.x a.y b.y, crN a.x a.y b.x b.y a.z b.z⟩
/-- The axis along which least is. -/
def axis3 (v : V3) : V3 :=
  if sz v.x ≤ sz v.y ∧ sz v.x ≤ sz v.z then ⟨1, 0, 0⟩ else if sz v.y ≤ sz v.z then ⟨0, 1, 0⟩ else ⟨0, 0, 1⟩
def basN (n : V3) : V3 := if ok3 n = true then unit3 n else (⟨0, 0, 0⟩ : V3)
def basU (n : V3) : V3 := if ok3 n = true then unit3 (cross3 (axis3 (basN n)) (basN n)) else (⟨0, 0, 0⟩ : V3)
def basV (n : V3) : V3 := if ok3 n = true then unit3 (cross3 (basN n) (basU n)) else (⟨0, 0, 0⟩ : V3)
/-- A coordinate out of a basis. -/
def outC (u v n x y z : Int) : Int := (x * u + y * v + z * n) / 16384
def out3 (u v n w : V3) : V3 :=
  if near3 u = true ∧ near3 v = true ∧ near3 n = true ∧ near3 w = true then ⟨outC u.x v.x n.x w.x w.y w.z, outC u.y v.y n.y w.x w.y w.z, outC u.z v.z n.z w.x w.y w.z⟩ else (⟨0, 0, 0⟩ : V3)
def mirC (d n : Int) (dv nv : V3) : Int :=
  if near3 dv = true ∧ near3 nv = true then d - n * (2 * dotI dv.x dv.y dv.z nv.x nv.y nv.z) / 268435456 else 0
def mir3 (d n : V3) : V3 := ⟨mirC d.x n.x d n, mirC d.y n.y d n, mirC d.z n.z d n⟩

def bowN (a : Int) : Int := 262144 * (a * (32768 - a)) / (5368709120 - 4 * (a * (32768 - a)))
def sinT (a : Int) : Int := if a % 65536 < 32768 then bowN (a % 65536) else -(bowN (a % 65536 - 32768))
def cosT (a : Int) : Int := sinT (a % 65536 + 16384)
def ringC (c r : Int) : Int := if 0 ≤ r ∧ r ≤ 16384 then c * r / 16384 else 0
def discR (u : Int) : Int := isq (u % 65536 * 4096)
def halfZ (u : Int) : Int := isq (268435456 - u % 65536 * 4096)
def upC (c z : Int) : Int := if -16384 ≤ z ∧ z ≤ 16384 then ringC c (isq (268435456 - z * z)) else 0
def upZ (z : Int) : Int := if -16384 ≤ z ∧ z ≤ 16384 then z else 0
def about3 (n w : V3) : V3 := if ok3 n = true then unit3 (out3 (basU n) (basV n) (basN n) w) else (⟨0, 0, 0⟩ : V3)
def half3 (n : V3) (u a : Int) : V3 := about3 n ⟨ringC (cosT a) (discR u), ringC (sinT a) (discR u), halfZ u⟩
def coneZ (c u : Int) : Int := 16384 - u % 65536 * (16384 - c) / 65536
def cone3 (n : V3) (c u a : Int) : V3 := if 0 ≤ c ∧ c ≤ 16384 then about3 n ⟨upC (cosT a) (coneZ c u), upC (sinT a) (coneZ c u), upZ (coneZ c u)⟩ else (⟨0, 0, 0⟩ : V3)

def colB (r g b : Int) : Bool := decide ((0 ≤ r ∧ r ≤ 65536) ∧ (0 ≤ g ∧ g ≤ 65536) ∧ (0 ≤ b ∧ b ≤ 65536))
def wgtB (r g b : Int) : Bool := decide ((0 ≤ r ∧ r ≤ 1099511627776) ∧ (0 ≤ g ∧ g ≤ 1099511627776) ∧ (0 ≤ b ∧ b ≤ 1099511627776))
def partC (c r g b n d : Int) : Int := if wgtB r g b = true ∧ 1 ≤ d ∧ 0 ≤ n then min 1099511627776 (atF c n d) else 0
def matB (k r g b x : Int) : Bool := colB r g b && (decide ((k = 1 ∨ k = 2) ∧ x = 0) || decide (k = 3 ∧ 16384 ≤ x ∧ x ≤ 65536) || decide (k = 4 ∧ 1 ≤ x ∧ x ≤ 64))
def upon3 (a b : V3) : Int := hold (dotN a.x a.y a.z b.x b.y b.z / 16384) 0 16384
def fac3 (n d : V3) : V3 := ⟨facC n.x n.x n.y n.z d.x d.y d.z, facC n.y n.x n.y n.z d.x d.y d.z, facC n.z n.x n.y n.z d.x d.y d.z⟩
def short3 (v : V3) : Bool := shortB v.x v.y v.z
def valG (k x : Int) (n i o : V3) : Int :=
  if k = 1 then upon3 (fac3 n i) o else if k = 4 then (if upon3 (fac3 n i) o = 0 then 0 else powN (upon3 (mir3 i (fac3 n i)) o) x) else 0
def valC (c k r g b x : Int) (n i o : V3) : Int :=
  if matB k r g b x = true ∧ short3 n = true ∧ short3 i = true ∧ short3 o = true then c * valG k x n i o / 16384 else 0
def bend3 (d n : V3) (a b : Int) : V3 :=
  ⟨bendU (bndC d.x n.x d.x d.y d.z n.x n.y n.z a b) d.x d.y d.z n.x n.y n.z a b, bendU (bndC d.y n.y d.x d.y d.z n.x n.y n.z a b) d.x d.y d.z n.x n.y n.z a b,
    bendU (bndC d.z n.z d.x d.y d.z n.x n.y n.z a b) d.x d.y d.z n.x n.y n.z a b⟩
def bendB (d n : V3) (a b : Int) : Bool := bendIs d.x d.y d.z n.x n.y n.z a b
def thrOk (k r g b x : Int) (n i : V3) : Bool := matB k r g b x && short3 n && short3 i && decide (n ≠ (⟨0, 0, 0⟩ : V3)) && decide (i ≠ (⟨0, 0, 0⟩ : V3))
def dot3 (a b : V3) : Int := dotN a.x a.y a.z b.x b.y b.z
/-- Where glass bends, and not throws back. -/
def glB (x : Int) (n i : V3) (w : Int) : Bool :=
  decide (backN (cosN n.x n.y n.z i.x i.y i.z) x ≤ w % 65536) && bendB i n (if dot3 n i > 0 then x else 16384) (if dot3 n i > 0 then 16384 else x)
def glossD (x : Int) (n i : V3) (u a : Int) : V3 := cone3 (unit3 (mir3 i (fac3 n i))) (16384 - 16384 / x) u a
def thr3 (k r g b x : Int) (n i : V3) (u a w : Int) : V3 × Bool :=
  if thrOk k r g b x n i = true then
    (if k = 1 then (half3 (fac3 n i) u a, decide (half3 (fac3 n i) u a ≠ (⟨0, 0, 0⟩ : V3)))
     else if k = 2 then (unit3 (mir3 i (fac3 n i)), ok3 (mir3 i (fac3 n i)))
     else if k = 3 then (if glB x n i w = true then (bend3 i n (if dot3 n i > 0 then x else 16384) (if dot3 n i > 0 then 16384 else x), true) else (unit3 (mir3 i (fac3 n i)), ok3 (mir3 i (fac3 n i))))
     else (if ok3 (mir3 i (fac3 n i)) = true ∧ dot3 (fac3 n i) (glossD x n i u a) > 0 then (glossD x n i u a, true) else ((⟨0, 0, 0⟩ : V3), false)))
  else ((⟨0, 0, 0⟩ : V3), false)

end Go.Sky

/- Matter: plain lemmas about angles, bases and spreads. -/
set_option linter.unusedSimpArgs false
set_option linter.unusedVariables false
namespace Go.Sky

theorem and_sign {b r : Int} (hb : InR .i64 b) (hr : InR .i64 r) : Go.bits .and .i64 b (r.fdiv 9223372036854775808) = if r < 0 then b else 0 := by
  have h1 := inR_i64.1 hb
  have h2 := inR_i64.1 hr
  rw [bits_and]
  by_cases h : r < 0
  · rw [if_pos h, show r.fdiv 9223372036854775808 = -1 by rw [Int.fdiv_eq_ediv_of_nonneg _ (by decide)]; omega, show BitVec.ofInt 64 (-1) = BitVec.allOnes 64 by decide, BitVec.and_allOnes, BitVec.toInt_ofInt]
    apply Int.bmod_eq_of_le <;> omega
  · rw [if_neg h, show r.fdiv 9223372036854775808 = 0 by rw [Int.fdiv_eq_ediv_of_nonneg _ (by decide)]; omega, show BitVec.ofInt 64 0 = 0#64 by decide, BitVec.and_zero]; rfl

theorem md_prog {a b : Int} (ha : InR .i64 a) (hb : InR .i64 b) (h : 1 ≤ b) : IntKind.i64.wrap (a.tmod b + Go.bits .and .i64 b ((a.tmod b).fdiv 9223372036854775808)) = a % b := by
  have h1 := inR_i64.1 ha
  have h2 := inR_i64.1 hb
  have e1 := Int.tmod_eq_emod (a := a) (b := b)
  have e2 := Int.emod_nonneg a (show b ≠ 0 by omega)
  have e3 := Int.emod_lt_of_pos a (show 0 < b by omega)
  have e4 : (b.natAbs : Int) = b := by omega
  have hr : InR .i64 (a.tmod b) := inR_i64.2 (by rw [e1]; split <;> omega)
  rw [and_sign hb hr]
  by_cases d : 0 ≤ a ∨ b ∣ a
  · rw [if_pos d] at e1
    rw [if_neg (by omega), wrap_i64_id (by omega)]; omega
  · rw [if_neg d] at e1
    have : a % b ≠ 0 := fun h => d (.inr (Int.dvd_of_emod_eq_zero h))
    rw [if_pos (by omega), wrap_i64_id (by omega)]; omega

theorem md_ref {a b : Int} (h : 1 ≤ b) : (if a.tmod b < 0 then a.tmod b + b else a.tmod b) = a % b := by
  have e1 := Int.tmod_eq_emod (a := a) (b := b)
  have e2 := Int.emod_nonneg a (show b ≠ 0 by omega)
  have e3 := Int.emod_lt_of_pos a (show 0 < b by omega)
  have e4 : (b.natAbs : Int) = b := by omega
  by_cases d : 0 ≤ a ∨ b ∣ a
  · rw [if_pos d] at e1
    rw [if_neg (by omega)]; omega
  · rw [if_neg d] at e1
    have : a % b ≠ 0 := fun h => d (.inr (Int.dvd_of_emod_eq_zero h))
    rw [if_pos (by omega)]; omega

/-- What is under a bow. -/
theorem bowA_r {a : Int} (h : 0 ≤ a ∧ a < 32768) : 0 ≤ a * (32768 - a) ∧ a * (32768 - a) ≤ 268435456 := by
  refine ⟨Int.mul_nonneg (by omega) (by omega), ?_⟩
  have : (a - 16384) * (a - 16384) = 268435456 - a * (32768 - a) := by grind
  have := sq_nonneg (a - 16384)
  omega

theorem bowN_r {a : Int} (h : 0 ≤ a ∧ a < 32768) : 0 ≤ bowN a ∧ bowN a ≤ 16384 := by
  have b := bowA_r h
  unfold bowN
  generalize a * (32768 - a) = A at *
  constructor
  · exact Int.ediv_nonneg (by omega) (by omega)
  · have : 262144 * A / (5368709120 - 4 * A) < 16385 := Int.ediv_lt_of_lt_mul (by omega) (by omega)
    omega

theorem sinT_r (a : Int) : -16384 ≤ sinT a ∧ sinT a ≤ 16384 := by
  unfold sinT
  split
  · have := bowN_r (a := a % 65536) (by omega); omega
  · have := bowN_r (a := a % 65536 - 32768) (by omega); omega

theorem cosT_r (a : Int) : -16384 ≤ cosT a ∧ cosT a ≤ 16384 := sinT_r _

theorem ringC_r {c r : Int} (hc : -16384 ≤ c ∧ c ≤ 16384) : -16384 ≤ ringC c r ∧ ringC c r ≤ 16384 := by
  unfold ringC
  split
  · rename_i h
    have := mul_abs hc (show -16384 ≤ r ∧ r ≤ 16384 by omega)
    omega
  · omega

theorem discR_r (u : Int) : 0 ≤ discR u ∧ discR u ≤ 16384 := isq_28 (by omega) (by omega)
theorem halfZ_r (u : Int) : 0 ≤ halfZ u ∧ halfZ u ≤ 16384 := isq_28 (by omega) (by omega)

end Go.Sky
namespace Go.Sky

theorem md_64k (a : Int) : md a 65536 = a % 65536 := by unfold md; rw [if_pos (by decide)]

theorem bow_prog {a : Int} (h : 0 ≤ a ∧ a < 32768) : IntKind.i64.wrap (5368709120 - IntKind.i64.wrap (4 * IntKind.i64.wrap (a * IntKind.i64.wrap (32768 - a)))) ≠ 0 ∧
    IntKind.i64.wrap ((IntKind.i64.wrap (262144 * IntKind.i64.wrap (a * IntKind.i64.wrap (32768 - a)))).tdiv (IntKind.i64.wrap (5368709120 - IntKind.i64.wrap (4 * IntKind.i64.wrap (a * IntKind.i64.wrap (32768 - a)))))) = bowN a := by
  have b := bowA_r h
  have r := bowN_r h
  unfold bowN at *
  rw [wrap_i64_id (n := 32768 - a) (by omega)]
  generalize a * (32768 - a) = A at *
  rw [wrap_i64_id (n := A) (by omega), wrap_i64_id (n := 4 * A) (by omega), wrap_i64_id (n := 5368709120 - 4 * A) (by omega), wrap_i64_id (n := 262144 * A) (by omega), Int.tdiv_eq_ediv_of_nonneg (by omega), wrap_i64_id (by omega)]
  exact ⟨by omega, rfl⟩

theorem ok3_no {x y z : Int} (h : okU x y z = false) : ok3 ⟨x, y, z⟩ = false := h
theorem ok3_yes {x y z : Int} (h : okU x y z = true) : ok3 ⟨x, y, z⟩ = true := h
theorem bas_no {n : V3} (h : ok3 n = false) : basN n = ⟨0, 0, 0⟩ ∧ basU n = ⟨0, 0, 0⟩ ∧ basV n = ⟨0, 0, 0⟩ := by
  unfold basN basU basV; rw [h]; exact ⟨rfl, rfl, rfl⟩
theorem bas_yes {n : V3} (h : ok3 n = true) : basN n = unit3 n ∧ basU n = unit3 (cross3 (axis3 (unit3 n)) (unit3 n)) ∧ basV n = unit3 (cross3 (unit3 n) (unit3 (cross3 (axis3 (unit3 n)) (unit3 n)))) := by
  have h1 : basN n = unit3 n := by unfold basN; rw [if_pos h]
  have h2 : basU n = unit3 (cross3 (axis3 (unit3 n)) (unit3 n)) := by unfold basU; rw [if_pos h, h1]
  refine ⟨h1, h2, ?_⟩
  unfold basV; rw [if_pos h, h1, h2]

theorem sz_max {x : Int} (h : -1048576 ≤ x ∧ x ≤ 1048576) : mm true x (IntKind.i64.wrap (0 - x)) = sz x := by
  rw [wrap_i64_id (by omega), max_r]; unfold sz; omega

theorem reach_x {x y z : Int} (h : nearB x y z = true) : dotN x y z 1 0 0 = x := by rw [dotN_eq h (by decide)]; omega
theorem reach_y {x y z : Int} (h : nearB x y z = true) : dotN x y z 0 1 0 = y := by rw [dotN_eq h (by decide)]; omega
theorem reach_z {x y z : Int} (h : nearB x y z = true) : dotN x y z 0 0 1 = z := by rw [dotN_eq h (by decide)]; omega

theorem unit_near {x y z : Int} (h : okU x y z = true) : nearB (unitC x y z x) (unitC x y z y) (unitC x y z z) = true := by
  obtain ⟨_, _, rx, ry, rz⟩ := unitC_r h
  exact decide_eq_true (by omega)

theorem out_prog {u v n x y z : Int} (hu : -1048576 ≤ u ∧ u ≤ 1048576) (hv : -1048576 ≤ v ∧ v ≤ 1048576) (hn : -1048576 ≤ n ∧ n ≤ 1048576) (hx : -1048576 ≤ x ∧ x ≤ 1048576) (hy : -1048576 ≤ y ∧ y ≤ 1048576) (hz : -1048576 ≤ z ∧ z ≤ 1048576) :
    dv (sat (sat (sat (0 + IntKind.i64.wrap (u * x)) + IntKind.i64.wrap (v * y)) + IntKind.i64.wrap (n * z))) 16384 = outC u v n x y z := by
  have a := mul_near hu hx; have b := mul_near hv hy; have c := mul_near hn hz
  rw [wrap_i64_id (n := u * x) (by omega), wrap_i64_id (n := v * y) (by omega), wrap_i64_id (n := n * z) (by omega), sat_id (n := 0 + u * x) (by omega), sat_id (n := 0 + u * x + v * y) (by omega), sat_id (by omega), dv_16384]
  unfold outC
  rw [Int.mul_comm x u, Int.mul_comm y v, Int.mul_comm z n]
  congr 1; omega

theorem out_ref {u v n x y z : Int} (hu : -1048576 ≤ u ∧ u ≤ 1048576) (hv : -1048576 ≤ v ∧ v ≤ 1048576) (hn : -1048576 ≤ n ∧ n ≤ 1048576) (hw : nearB x y z = true) :
    dotN u v n x y z / 16384 = outC u v n x y z := by
  rw [dotN_eq (decide_eq_true ⟨hu, hv, hn⟩) hw]
  unfold outC
  rw [Int.mul_comm x u, Int.mul_comm y v, Int.mul_comm z n]

theorem mir_r {a b c x y z n : Int} (hd : nearB a b c = true) (hn : nearB x y z = true) (h : -1048576 ≤ n ∧ n ≤ 1048576) :
    -6597069766656 ≤ 2 * dotI a b c x y z ∧ 2 * dotI a b c x y z ≤ 6597069766656 ∧ -6917529027641081856 ≤ n * (2 * dotI a b c x y z) ∧ n * (2 * dotI a b c x y z) ≤ 6917529027641081856 := by
  have k := dotI_r hd hn
  have := mul_abs h (show -6597069766656 ≤ 2 * dotI a b c x y z ∧ 2 * dotI a b c x y z ≤ 6597069766656 by omega)
  omega

theorem mir_prog {a b c x y z d n : Int} (hd : nearB a b c = true) (hn : nearB x y z = true) (h1 : -1048576 ≤ d ∧ d ≤ 1048576) (h : -1048576 ≤ n ∧ n ≤ 1048576) :
    sat (d + sat (dv (IntKind.i64.wrap (n * IntKind.i64.wrap (2 * dotN a b c x y z))) 268435456 * -1)) = mirC d n ⟨a, b, c⟩ ⟨x, y, z⟩ := by
  have k := mir_r hd hn h
  unfold mirC near3
  rw [if_pos ⟨hd, hn⟩]
  unfold dotN
  rw [if_pos ⟨hd, hn⟩]
  rw [wrap_i64_id (n := 2 * dotI a b c x y z) (by omega), wrap_i64_id (n := n * (2 * dotI a b c x y z)) (by omega)]
  unfold dv
  rw [if_pos (by decide)]
  generalize n * (2 * dotI a b c x y z) = q at *
  rw [sat_id (n := q / 268435456 * -1) (by omega), sat_id (by omega)]
  omega

theorem mir_ref {a b c x y z d n : Int} (hd : nearB a b c = true) (hn : nearB x y z = true) (h1 : -1048576 ≤ d ∧ d ≤ 1048576) (h : -1048576 ≤ n ∧ n ≤ 1048576) :
    IntKind.i64.wrap (d - IntKind.i64.wrap (n * IntKind.i64.wrap (2 * dotN a b c x y z)) / 268435456) = mirC d n ⟨a, b, c⟩ ⟨x, y, z⟩ := by
  have k := mir_r hd hn h
  unfold mirC near3
  rw [if_pos ⟨hd, hn⟩]
  unfold dotN
  rw [if_pos ⟨hd, hn⟩]
  rw [wrap_i64_id (n := 2 * dotI a b c x y z) (by omega), wrap_i64_id (n := n * (2 * dotI a b c x y z)) (by omega)]
  generalize n * (2 * dotI a b c x y z) = q at *
  rw [wrap_i64_id (by omega)]

theorem mir_no {a b c x y z d n : Int} (h : nearB a b c = false ∨ nearB x y z = false) : mirC d n ⟨a, b, c⟩ ⟨x, y, z⟩ = 0 := by
  unfold mirC near3
  rw [if_neg]
  rintro ⟨h1, h2⟩
  rcases h with h | h
  · rw [show nearB a b c = true from h1] at h; cases h
  · rw [show nearB x y z = true from h2] at h; cases h

theorem out_no {u v n w : V3} (h : near3 u = false ∨ near3 v = false ∨ near3 n = false ∨ near3 w = false) : out3 u v n w = ⟨0, 0, 0⟩ := by
  unfold out3
  rw [if_neg]
  rintro ⟨h1, h2, h3, h4⟩
  rcases h with h | h | h | h <;> simp_all

/-- One bit of a quotient more. -/
theorem bit_step {q low up w : Int} (h2 : up < (q + 2 * w) * low) : ((q + w) * low ≤ up → up < (q + w + w) * low) ∧ (¬ (q + w) * low ≤ up → up < (q + w) * low) := by
  constructor
  · intro _; rw [show q + w + w = q + 2 * w by omega]; exact h2
  · intro h; omega

theorem upon_r (a b : V3) : 0 ≤ upon3 a b ∧ upon3 a b ≤ 16384 := by unfold upon3 hold; omega

end Go.Sky

/- Trees of functions, and what they come to. -/
set_option linter.unusedSimpArgs false
set_option linter.unusedVariables false
namespace Go.Sky
set_option maxRecDepth 100000

/-! num.Mod -/
def tr_num_Mod (a : Int) (b : Int) : Tr AV := Tr.node (decide (b < 1)) (Tr.leaf (AV.int IntKind.i64 false 0)) (Tr.node (decide (b = 0)) Tr.bad (Tr.leaf (AV.int IntKind.i64 false (IntKind.i64.wrap (a.tmod b + bits BinOp.and IntKind.i64 b ((a.tmod b).fdiv 9223372036854775808))))))
theorem run_num_Mod (a : Int) (b : Int) (h_a : InR .i64 a) (h_b : InR .i64 b) : (tr_num_Mod a b).run = some (i6 (md a b)) := by
  unfold tr_num_Mod
  have ha := inR_i64.1 h_a
  have hb := inR_i64.1 h_b
  
  unfold md
  by_cases c0 : b < 1
  · rw [if_neg (by omega)]; exact run_t (decide_eq_true c0)
  refine (run_f (decide_eq_false c0)).trans ((run_f (decide_eq_false (by omega))).trans ?_)
  rw [if_pos (by omega), md_prog h_a h_b (by omega)]; rfl

/-! skylightref01.Mod -/
def tr_skylightref01_Mod (a : Int) (b : Int) : Tr AV := Tr.node (decide (b < 1)) (Tr.leaf (AV.int IntKind.i64 false 0)) (Tr.node (decide (b = 0)) Tr.bad (Tr.node (decide (a.tmod b < 0)) (Tr.leaf (AV.int IntKind.i64 false (IntKind.i64.wrap (a.tmod b + b)))) (Tr.leaf (AV.int IntKind.i64 false (a.tmod b)))))
theorem run_skylightref01_Mod (a : Int) (b : Int) (h_a : InR .i64 a) (h_b : InR .i64 b) : (tr_skylightref01_Mod a b).run = some (i6 (md a b)) := by
  unfold tr_skylightref01_Mod
  have ha := inR_i64.1 h_a
  have hb := inR_i64.1 h_b
  
  unfold md
  by_cases c0 : b < 1
  · rw [if_neg (by omega)]; exact run_t (decide_eq_true c0)
  refine (run_f (decide_eq_false c0)).trans ((run_f (decide_eq_false (by omega))).trans ?_)
  have q := md_ref (a := a) (b := b) (by omega)
  have q1 := Int.emod_nonneg a (show b ≠ 0 by omega)
  have q2 := Int.emod_lt_of_pos a (show 0 < b by omega)
  rw [if_pos (by omega)]
  by_cases c1 : a.tmod b < 0
  · rw [if_pos c1] at q
    refine (run_t (decide_eq_true c1)).trans ?_
    rw [q, wrap_i64_id (by omega)]; rfl
  · rw [if_neg c1] at q
    refine (run_f (decide_eq_false c1)).trans ?_
    rw [q]; rfl

/-! hue.Color -/
def tr_hue_Color (c_r : Int) (c_g : Int) (c_b : Int) : Tr AV := Tr.node (decide (c_r < 0)) (Tr.leaf (AV.bool false false)) (Tr.node (decide (c_r > 65536)) (Tr.leaf (AV.bool false false)) (Tr.node (decide (c_g < 0)) (Tr.leaf (AV.bool false false)) (Tr.node (decide (c_g > 65536)) (Tr.leaf (AV.bool false false)) (Tr.node (decide (c_b < 0)) (Tr.leaf (AV.bool false false)) (Tr.node (decide (c_b > 65536)) (Tr.leaf (AV.bool false false)) (Tr.leaf (AV.bool false true)))))))
theorem run_hue_Color (c_r : Int) (c_g : Int) (c_b : Int) (h_c_r : InR .i64 c_r) (h_c_g : InR .i64 c_g) (h_c_b : InR .i64 c_b) : (tr_hue_Color c_r c_g c_b).run = some (bb (colB c_r c_g c_b)) := by
  unfold tr_hue_Color
  (repeat' (refine run_guard (fun _ => ?_) (fun _ => ?_)))
  all_goals (simp only [decide_eq_true_eq, decide_eq_false_iff_not] at *)
  
  all_goals first | (rw [show colB c_r c_g c_b = true from by unfold colB; exact decide_eq_true (by omega)]; rfl) | (rw [show colB c_r c_g c_b = false from by unfold colB; exact decide_eq_false (by omega)]; rfl)

/-! skylightref09.Color -/
def tr_skylightref09_Color (c_r : Int) (c_g : Int) (c_b : Int) : Tr AV := Tr.node (decide (c_r ≥ 0)) (Tr.node (decide (c_r ≤ 65536)) (Tr.node (decide (c_g ≥ 0)) (Tr.node (decide (c_g ≤ 65536)) (Tr.node (decide (c_b ≥ 0)) (Tr.leaf (AV.bool false (decide (c_b ≤ 65536)))) (Tr.leaf (AV.bool false false))) (Tr.leaf (AV.bool false false))) (Tr.leaf (AV.bool false false))) (Tr.leaf (AV.bool false false))) (Tr.leaf (AV.bool false false))
theorem run_skylightref09_Color (c_r : Int) (c_g : Int) (c_b : Int) (h_c_r : InR .i64 c_r) (h_c_g : InR .i64 c_g) (h_c_b : InR .i64 c_b) : (tr_skylightref09_Color c_r c_g c_b).run = some (bb (colB c_r c_g c_b)) := by
  unfold tr_skylightref09_Color
  (repeat' (refine run_guard (fun _ => ?_) (fun _ => ?_)))
  all_goals (simp only [decide_eq_true_eq, decide_eq_false_iff_not] at *)
  
  all_goals first | (rw [show colB c_r c_g c_b = false from by unfold colB; exact decide_eq_false (by omega)]; rfl) | (rw [show colB c_r c_g c_b = decide (c_b ≤ 65536) from by unfold colB; exact decide_eq_decide.2 (by omega)]; rfl)

/-! hue.Part -/
def tr_hue_Part (w_r : Int) (w_g : Int) (w_b : Int) (f_n : Int) (f_d : Int) : Tr AV := Tr.node (decide (w_r < 0)) (Tr.leaf (AV.agg [AV.int IntKind.i64 false 0, AV.int IntKind.i64 false 0, AV.int IntKind.i64 false 0])) (Tr.node (decide (w_r > 1099511627776)) (Tr.leaf (AV.agg [AV.int IntKind.i64 false 0, AV.int IntKind.i64 false 0, AV.int IntKind.i64 false 0])) (Tr.node (decide (w_g < 0)) (Tr.leaf (AV.agg [AV.int IntKind.i64 false 0, AV.int IntKind.i64 false 0, AV.int IntKind.i64 false 0])) (Tr.node (decide (w_g > 1099511627776)) (Tr.leaf (AV.agg [AV.int IntKind.i64 false 0, AV.int IntKind.i64 false 0, AV.int IntKind.i64 false 0])) (Tr.node (decide (w_b < 0)) (Tr.leaf (AV.agg [AV.int IntKind.i64 false 0, AV.int IntKind.i64 false 0, AV.int IntKind.i64 false 0])) (Tr.node (decide (w_b > 1099511627776)) (Tr.leaf (AV.agg [AV.int IntKind.i64 false 0, AV.int IntKind.i64 false 0, AV.int IntKind.i64 false 0])) (Tr.node (decide (f_d < 1)) (Tr.leaf (AV.agg [AV.int IntKind.i64 false 0, AV.int IntKind.i64 false 0, AV.int IntKind.i64 false 0])) (Tr.node (decide (f_n < 0)) (Tr.leaf (AV.agg [AV.int IntKind.i64 false 0, AV.int IntKind.i64 false 0, AV.int IntKind.i64 false 0])) (Tr.leaf (AV.agg [AV.int IntKind.i64 false (mm false 1099511627776 (atF w_r f_n f_d)), AV.int IntKind.i64 false (mm false 1099511627776 (atF w_g f_n f_d)), AV.int IntKind.i64 false (mm false 1099511627776 (atF w_b f_n f_d))])))))))))
theorem run_hue_Part (w_r : Int) (w_g : Int) (w_b : Int) (f_n : Int) (f_d : Int) (h_w_r : InR .i64 w_r) (h_w_g : InR .i64 w_g) (h_w_b : InR .i64 w_b) (h_f_n : InR .i64 f_n) (h_f_d : InR .i64 f_d) : (tr_hue_Part w_r w_g w_b f_n f_d).run = some (v3 (partC w_r w_r w_g w_b f_n f_d) (partC w_g w_r w_g w_b f_n f_d) (partC w_b w_r w_g w_b f_n f_d)) := by
  unfold tr_hue_Part
  (repeat' (refine run_guard (fun _ => ?_) (fun _ => ?_)))
  all_goals (simp only [decide_eq_true_eq, decide_eq_false_iff_not] at *)
  
  all_goals first | (have z : ∀ c, partC c w_r w_g w_b f_n f_d = 0 := fun c => by unfold partC wgtB; rw [if_neg (by simp only [decide_eq_true_eq]; omega)]
                     rw [z, z, z]; rfl) | skip
  have y : ∀ c, partC c w_r w_g w_b f_n f_d = mm false 1099511627776 (atF c f_n f_d) := fun c => by
    unfold partC wgtB
    rw [if_pos (by simp only [decide_eq_true_eq]; omega), min_r]
    omega
  rw [y, y, y]; rfl

/-! trig.Sin -/
def tr_trig_Sin (a : Int) : Tr AV := Tr.node (decide (md a (65536 : Int) < 32768)) (Tr.node (decide (IntKind.i64.wrap (5368709120 - IntKind.i64.wrap (4 * IntKind.i64.wrap (md a 65536 * IntKind.i64.wrap (32768 - md a 65536)))) = 0)) Tr.bad (Tr.leaf (AV.int IntKind.i64 false (IntKind.i64.wrap ((IntKind.i64.wrap (262144 * IntKind.i64.wrap (md a 65536 * IntKind.i64.wrap (32768 - md a 65536)))).tdiv (IntKind.i64.wrap (5368709120 - IntKind.i64.wrap (4 * IntKind.i64.wrap (md a 65536 * IntKind.i64.wrap (32768 - md a 65536)))))))))) (Tr.node (decide (IntKind.i64.wrap (5368709120 - IntKind.i64.wrap (4 * IntKind.i64.wrap (IntKind.i64.wrap (md a 65536 - 32768) * IntKind.i64.wrap (32768 - IntKind.i64.wrap (md a 65536 - 32768))))) = 0)) Tr.bad (Tr.leaf (AV.int IntKind.i64 false (IntKind.i64.wrap (0 - IntKind.i64.wrap ((IntKind.i64.wrap (262144 * IntKind.i64.wrap (IntKind.i64.wrap (md a 65536 - 32768) * IntKind.i64.wrap (32768 - IntKind.i64.wrap (md a 65536 - 32768))))).tdiv (IntKind.i64.wrap (5368709120 - IntKind.i64.wrap (4 * IntKind.i64.wrap (IntKind.i64.wrap (md a 65536 - 32768) * IntKind.i64.wrap (32768 - IntKind.i64.wrap (md a 65536 - 32768))))))))))))
theorem run_trig_Sin (a : Int) (h_a : InR .i64 a) : (tr_trig_Sin a).run = some (i6 (sinT a)) := by
  unfold tr_trig_Sin
  rw [md_64k]
  unfold sinT
  by_cases c : a % 65536 < 32768
  · have b := bow_prog (a := a % 65536) (by omega)
    rw [if_pos c]
    refine (run_t (decide_eq_true c)).trans ((run_f (decide_eq_false b.1)).trans ?_)
    rw [b.2]; rfl
  · have b := bow_prog (a := a % 65536 - 32768) (by omega)
    have r := bowN_r (a := a % 65536 - 32768) (by omega)
    rw [if_neg c]
    rw [wrap_i64_id (n := a % 65536 - 32768) (by omega)]
    refine (run_f (decide_eq_false c)).trans ((run_f (decide_eq_false b.1)).trans ?_)
    rw [b.2, wrap_i64_id (by omega)]
    show some (i6 (0 - _)) = some (i6 (-_))
    rw [Int.zero_sub]

/-! trig.Cos -/
def tr_trig_Cos (a : Int) : Tr AV := Tr.leaf (AV.int IntKind.i64 false (sinT (IntKind.i64.wrap (md a 65536 + 16384))))
theorem run_trig_Cos (a : Int) (h_a : InR .i64 a) : (tr_trig_Cos a).run = some (i6 (cosT a)) := by
  unfold tr_trig_Cos
  rw [md_64k, wrap_i64_id (by omega)]; rfl

/-! skylightref05.Sin, block 0 -/
def st_ref05_SinLow_0 (q : Int) (j : Int) (low : Int) (up : Int) (x0 x1 x2 x3 x8 x9 x10 x11 x12 x13 x14 x15 x16 x17 x18 x19 x20 x21 x22 x23 x24 x25 x26 x27 x28 x29 x30 x31 x32 x33 x34 x35 x36 x37 x38 x39 x40 x41 : AV) (h : AH) : St := ⟨[x0, x1, x2, x3, .int .i64 false up, .int .i64 false low, .int .i64 false q, .int .i64 false j, x8, x9, x10, x11, x12, x13, x14, x15, x16, x17, x18, x19, x20, x21, x22, x23, x24, x25, x26, x27, x28, x29, x30, x31, x32, x33, x34, x35, x36, x37, x38, x39, x40, x41], h⟩
def kl_ref05_SinLow_0 (q : Int) (j : Int) (low : Int) (up : Int) (x0 x1 x2 x3 x8 x9 x10 x11 x12 x13 x14 x15 x16 x17 x18 x19 x20 x21 x22 x23 x24 x25 x26 x27 x28 x29 x30 x31 x32 x33 x34 x35 x36 x37 x38 x39 x40 x41 : AV) (h : AH) : List AV := [untag x0, untag x1, untag x2, untag x3, untag (.int .i64 false up), untag (.int .i64 false low), .undef, .undef, untag x8, untag x9, untag x10, untag x11, untag x12, untag x13, untag x14, untag x15, untag x16, untag x17, untag x18, untag x19, untag x20, untag x21, untag x22, untag x23, untag x24, .undef, .undef, .undef, .undef, .undef, .undef, .undef, .undef, .undef, .undef, .undef, .undef, .undef, .undef, .undef, .undef, untag x41]
def sl_ref05_SinLow_0_2 (q : Int) (j : Int) (low : Int) (up : Int) (x0 x1 x2 x3 x8 x9 x10 x11 x12 x13 x14 x15 x16 x17 x18 x19 x20 x21 x22 x23 x24 x25 x26 x27 x28 x29 x30 x31 x32 x33 x34 x35 x36 x37 x38 x39 x40 x41 : AV) (h : AH) : St := ⟨[x0, x1, x2, x3, AV.int IntKind.i64 false up, AV.int IntKind.i64 false low, AV.int IntKind.i64 false (IntKind.i64.wrap (q + IntKind.i64.wrap (1 * 2 ^ min j.toNat 64))), AV.int IntKind.i64 false (IntKind.i64.wrap (j - 1)), x8, x9, x10, x11, x12, x13, x14, x15, x16, x17, x18, x19, x20, x21, x22, x23, x24, AV.int IntKind.i64 false j, AV.bool false (decide (j ≥ 0)), AV.int IntKind.i64 false j, AV.int IntKind.i64 false (IntKind.i64.wrap (j - 1)), AV.int IntKind.i64 false q, AV.int IntKind.i64 false j, AV.int IntKind.i64 false (IntKind.i64.wrap (1 * 2 ^ min j.toNat 64)), AV.int IntKind.i64 false (IntKind.i64.wrap (q + IntKind.i64.wrap (1 * 2 ^ min j.toNat 64))), AV.int IntKind.i64 false low, AV.int IntKind.i64 false (IntKind.i64.wrap (IntKind.i64.wrap (q + IntKind.i64.wrap (1 * 2 ^ min j.toNat 64)) * low)), AV.int IntKind.i64 false up, AV.bool false (decide (IntKind.i64.wrap (IntKind.i64.wrap (q + IntKind.i64.wrap (1 * 2 ^ min j.toNat 64)) * low) ≤ up)), AV.int IntKind.i64 false q, AV.int IntKind.i64 false j, AV.int IntKind.i64 false (IntKind.i64.wrap (1 * 2 ^ min j.toNat 64)), AV.int IntKind.i64 false (IntKind.i64.wrap (q + IntKind.i64.wrap (1 * 2 ^ min j.toNat 64))), x41], h⟩
def sl_ref05_SinLow_0_3 (q : Int) (j : Int) (low : Int) (up : Int) (x0 x1 x2 x3 x8 x9 x10 x11 x12 x13 x14 x15 x16 x17 x18 x19 x20 x21 x22 x23 x24 x25 x26 x27 x28 x29 x30 x31 x32 x33 x34 x35 x36 x37 x38 x39 x40 x41 : AV) (h : AH) : St := ⟨[x0, x1, x2, x3, AV.int IntKind.i64 false up, AV.int IntKind.i64 false low, AV.int IntKind.i64 false q, AV.int IntKind.i64 false (IntKind.i64.wrap (j - 1)), x8, x9, x10, x11, x12, x13, x14, x15, x16, x17, x18, x19, x20, x21, x22, x23, x24, AV.int IntKind.i64 false j, AV.bool false (decide (j ≥ 0)), AV.int IntKind.i64 false j, AV.int IntKind.i64 false (IntKind.i64.wrap (j - 1)), AV.int IntKind.i64 false q, AV.int IntKind.i64 false j, AV.int IntKind.i64 false (IntKind.i64.wrap (1 * 2 ^ min j.toNat 64)), AV.int IntKind.i64 false (IntKind.i64.wrap (q + IntKind.i64.wrap (1 * 2 ^ min j.toNat 64))), AV.int IntKind.i64 false low, AV.int IntKind.i64 false (IntKind.i64.wrap (IntKind.i64.wrap (q + IntKind.i64.wrap (1 * 2 ^ min j.toNat 64)) * low)), AV.int IntKind.i64 false up, AV.bool false (decide (IntKind.i64.wrap (IntKind.i64.wrap (q + IntKind.i64.wrap (1 * 2 ^ min j.toNat 64)) * low) ≤ up)), x37, x38, x39, x40, x41], h⟩
def sl_ref05_SinLow_0_4 (q : Int) (j : Int) (low : Int) (up : Int) (x0 x1 x2 x3 x8 x9 x10 x11 x12 x13 x14 x15 x16 x17 x18 x19 x20 x21 x22 x23 x24 x25 x26 x27 x28 x29 x30 x31 x32 x33 x34 x35 x36 x37 x38 x39 x40 x41 : AV) (h : AH) : St := ⟨[x0, x1, x2, x3, AV.int IntKind.i64 false up, AV.int IntKind.i64 false low, AV.int IntKind.i64 false q, AV.int IntKind.i64 false j, x8, x9, x10, x11, x12, x13, x14, x15, x16, x17, x18, x19, x20, x21, x22, x23, x24, AV.int IntKind.i64 false j, AV.bool false (decide (j ≥ 0)), x27, x28, x29, x30, x31, x32, x33, x34, x35, x36, x37, x38, x39, x40, x41], h⟩
def rd_ref05_SinLow_0 (q : Int) (j : Int) (low : Int) (up : Int) (x0 x1 x2 x3 x8 x9 x10 x11 x12 x13 x14 x15 x16 x17 x18 x19 x20 x21 x22 x23 x24 x25 x26 x27 x28 x29 x30 x31 x32 x33 x34 x35 x36 x37 x38 x39 x40 x41 : AV) (h : AH) : Tr (Ex × St) := Tr.node (decide (j ≥ 0)) (Tr.node (decide (j < 0)) (Tr.bad) (Tr.node (decide (IntKind.i64.wrap (IntKind.i64.wrap (q + IntKind.i64.wrap (1 * 2 ^ min j.toNat 64)) * low) ≤ up)) (Tr.node (decide (j < 0)) (Tr.bad) (Tr.leaf (Ex.normal, sl_ref05_SinLow_0_2 q j low up x0 x1 x2 x3 x8 x9 x10 x11 x12 x13 x14 x15 x16 x17 x18 x19 x20 x21 x22 x23 x24 x25 x26 x27 x28 x29 x30 x31 x32 x33 x34 x35 x36 x37 x38 x39 x40 x41 h))) (Tr.leaf (Ex.normal, sl_ref05_SinLow_0_3 q j low up x0 x1 x2 x3 x8 x9 x10 x11 x12 x13 x14 x15 x16 x17 x18 x19 x20 x21 x22 x23 x24 x25 x26 x27 x28 x29 x30 x31 x32 x33 x34 x35 x36 x37 x38 x39 x40 x41 h)))) (Tr.leaf (Ex.exit 0, sl_ref05_SinLow_0_4 q j low up x0 x1 x2 x3 x8 x9 x10 x11 x12 x13 x14 x15 x16 x17 x18 x19 x20 x21 x22 x23 x24 x25 x26 x27 x28 x29 x30 x31 x32 x33 x34 x35 x36 x37 x38 x39 x40 x41 h))
def g_ref05_SinLow_0 : PieceTold := fun l h => match l with | [.int .i64 false q, .int .i64 false j, .int .i64 false low, .int .i64 false up] => .node (decide ((0 < low ∧ low ≤ 5368709120) ∧ (0 ≤ up ∧ up ≤ 70368744177664) ∧ (-1 ≤ j ∧ j ≤ 14) ∧ 0 ≤ q ∧ q * low ≤ up ∧ up < (q + 2 ^ (j + 1).toNat) * low ∧ q + 2 ^ (j + 1).toNat ≤ 32768)) (.leaf (.normal, [(6, i6 (up / low))], h)) .bad | _ => .bad
def HR_ref05_SinLow_0 (rnd : Nat → St → Tr (Ex × St)) : Prop := ∀ L (q : Int) (j : Int) (low : Int) (up : Int) (x0 x1 x2 x3 x8 x9 x10 x11 x12 x13 x14 x15 x16 x17 x18 x19 x20 x21 x22 x23 x24 x25 x26 x27 x28 x29 x30 x31 x32 x33 x34 x35 x36 x37 x38 x39 x40 x41 : AV) (h : AH), rnd L (st_ref05_SinLow_0 q j low up x0 x1 x2 x3 x8 x9 x10 x11 x12 x13 x14 x15 x16 x17 x18 x19 x20 x21 x22 x23 x24 x25 x26 x27 x28 x29 x30 x31 x32 x33 x34 x35 x36 x37 x38 x39 x40 x41 h) = rd_ref05_SinLow_0 q j low up x0 x1 x2 x3 x8 x9 x10 x11 x12 x13 x14 x15 x16 x17 x18 x19 x20 x21 x22 x23 x24 x25 x26 x27 x28 x29 x30 x31 x32 x33 x34 x35 x36 x37 x38 x39 x40 x41 h
/-- From here the loop ends so. -/
def Fin_ref05_SinLow_0 (rnd : Nat → St → Tr (Ex × St)) (q : Int) (j : Int) (low : Int) (up : Int) (e : Ex) (outs : List (Nat × AV)) (hp : AH → AH) : Prop := ∀ (x0 x1 x2 x3 x8 x9 x10 x11 x12 x13 x14 x15 x16 x17 x18 x19 x20 x21 x22 x23 x24 x25 x26 x27 x28 x29 x30 x31 x32 x33 x34 x35 x36 x37 x38 x39 x40 x41 : AV) (h : AH),
    ∃ N s', (∀ L, (loopIterG none (rnd L) (N + 1) (st_ref05_SinLow_0 q j low up x0 x1 x2 x3 x8 x9 x10 x11 x12 x13 x14 x15 x16 x17 x18 x19 x20 x21 x22 x23 x24 x25 x26 x27 x28 x29 x30 x31 x32 x33 x34 x35 x36 x37 x38 x39 x40 x41 h)).run = some (e, s')) ∧ Leaves none 42 [6, 7, 25, 26, 27, 28, 29, 30, 31, 32, 33, 34, 35, 36, 37, 38, 39, 40] (st_ref05_SinLow_0 q j low up x0 x1 x2 x3 x8 x9 x10 x11 x12 x13 x14 x15 x16 x17 x18 x19 x20 x21 x22 x23 x24 x25 x26 x27 x28 x29 x30 x31 x32 x33 x34 x35 x36 x37 x38 x39 x40 x41 h).tmps outs (hp h) s'
theorem step_ref05_SinLow_0_2 {rnd : Nat → St → Tr (Ex × St)} (hr : HR_ref05_SinLow_0 rnd) (q : Int) (j : Int) (low : Int) (up : Int) (c0 : (decide (j ≥ 0)) = true) (c1 : (decide (j < 0)) = false) (c2 : (decide (IntKind.i64.wrap (IntKind.i64.wrap (q + IntKind.i64.wrap (1 * 2 ^ min j.toNat 64)) * low) ≤ up)) = true) (c3 : (decide (j < 0)) = false) {e : Ex} {outs : List (Nat × AV)} {hp : AH → AH} (hn : Fin_ref05_SinLow_0 rnd ((IntKind.i64.wrap (q + IntKind.i64.wrap (1 * 2 ^ min j.toNat 64)))) ((IntKind.i64.wrap (j - 1))) (low) (up) e outs hp) : Fin_ref05_SinLow_0 rnd q j low up e outs hp := by
  intro x0 x1 x2 x3 x8 x9 x10 x11 x12 x13 x14 x15 x16 x17 x18 x19 x20 x21 x22 x23 x24 x25 x26 x27 x28 x29 x30 x31 x32 x33 x34 x35 x36 x37 x38 x39 x40 x41 h
  obtain ⟨N, s', h1, h2⟩ := hn (x0) (x1) (x2) (x3) (x8) (x9) (x10) (x11) (x12) (x13) (x14) (x15) (x16) (x17) (x18) (x19) (x20) (x21) (x22) (x23) (x24) (AV.int IntKind.i64 false j) (AV.bool false (decide (j ≥ 0))) (AV.int IntKind.i64 false j) (AV.int IntKind.i64 false (IntKind.i64.wrap (j - 1))) (AV.int IntKind.i64 false q) (AV.int IntKind.i64 false j) (AV.int IntKind.i64 false (IntKind.i64.wrap (1 * 2 ^ min j.toNat 64))) (AV.int IntKind.i64 false (IntKind.i64.wrap (q + IntKind.i64.wrap (1 * 2 ^ min j.toNat 64)))) (AV.int IntKind.i64 false low) (AV.int IntKind.i64 false (IntKind.i64.wrap (IntKind.i64.wrap (q + IntKind.i64.wrap (1 * 2 ^ min j.toNat 64)) * low))) (AV.int IntKind.i64 false up) (AV.bool false (decide (IntKind.i64.wrap (IntKind.i64.wrap (q + IntKind.i64.wrap (1 * 2 ^ min j.toNat 64)) * low) ≤ up))) (AV.int IntKind.i64 false q) (AV.int IntKind.i64 false j) (AV.int IntKind.i64 false (IntKind.i64.wrap (1 * 2 ^ min j.toNat 64))) (AV.int IntKind.i64 false (IntKind.i64.wrap (q + IntKind.i64.wrap (1 * 2 ^ min j.toNat 64)))) (x41) h
  refine ⟨N + 1, s', fun L => ?_, h2.of (s1 := sl_ref05_SinLow_0_2 q j low up x0 x1 x2 x3 x8 x9 x10 x11 x12 x13 x14 x15 x16 x17 x18 x19 x20 x21 x22 x23 x24 x25 x26 x27 x28 x29 x30 x31 x32 x33 x34 x35 x36 x37 x38 x39 x40 x41 h) rfl ((show _ = kl_ref05_SinLow_0 q j low up x0 x1 x2 x3 x8 x9 x10 x11 x12 x13 x14 x15 x16 x17 x18 x19 x20 x21 x22 x23 x24 x25 x26 x27 x28 x29 x30 x31 x32 x33 x34 x35 x36 x37 x38 x39 x40 x41 h from rfl).trans (show kl_ref05_SinLow_0 q j low up x0 x1 x2 x3 x8 x9 x10 x11 x12 x13 x14 x15 x16 x17 x18 x19 x20 x21 x22 x23 x24 x25 x26 x27 x28 x29 x30 x31 x32 x33 x34 x35 x36 x37 x38 x39 x40 x41 h = _ from rfl))⟩
  rw [loopIterG, hr L q j low up x0 x1 x2 x3 x8 x9 x10 x11 x12 x13 x14 x15 x16 x17 x18 x19 x20 x21 x22 x23 x24 x25 x26 x27 x28 x29 x30 x31 x32 x33 x34 x35 x36 x37 x38 x39 x40 x41 h, Tr.run_bind, show (rd_ref05_SinLow_0 q j low up x0 x1 x2 x3 x8 x9 x10 x11 x12 x13 x14 x15 x16 x17 x18 x19 x20 x21 x22 x23 x24 x25 x26 x27 x28 x29 x30 x31 x32 x33 x34 x35 x36 x37 x38 x39 x40 x41 h).run = some (.normal, sl_ref05_SinLow_0_2 q j low up x0 x1 x2 x3 x8 x9 x10 x11 x12 x13 x14 x15 x16 x17 x18 x19 x20 x21 x22 x23 x24 x25 x26 x27 x28 x29 x30 x31 x32 x33 x34 x35 x36 x37 x38 x39 x40 x41 h) from (run_t c0).trans ((run_f c1).trans ((run_t c2).trans ((run_f c3).trans (rfl))))]
  exact h1 L
theorem step_ref05_SinLow_0_3 {rnd : Nat → St → Tr (Ex × St)} (hr : HR_ref05_SinLow_0 rnd) (q : Int) (j : Int) (low : Int) (up : Int) (c0 : (decide (j ≥ 0)) = true) (c1 : (decide (j < 0)) = false) (c2 : (decide (IntKind.i64.wrap (IntKind.i64.wrap (q + IntKind.i64.wrap (1 * 2 ^ min j.toNat 64)) * low) ≤ up)) = false) {e : Ex} {outs : List (Nat × AV)} {hp : AH → AH} (hn : Fin_ref05_SinLow_0 rnd (q) ((IntKind.i64.wrap (j - 1))) (low) (up) e outs hp) : Fin_ref05_SinLow_0 rnd q j low up e outs hp := by
  intro x0 x1 x2 x3 x8 x9 x10 x11 x12 x13 x14 x15 x16 x17 x18 x19 x20 x21 x22 x23 x24 x25 x26 x27 x28 x29 x30 x31 x32 x33 x34 x35 x36 x37 x38 x39 x40 x41 h
  obtain ⟨N, s', h1, h2⟩ := hn (x0) (x1) (x2) (x3) (x8) (x9) (x10) (x11) (x12) (x13) (x14) (x15) (x16) (x17) (x18) (x19) (x20) (x21) (x22) (x23) (x24) (AV.int IntKind.i64 false j) (AV.bool false (decide (j ≥ 0))) (AV.int IntKind.i64 false j) (AV.int IntKind.i64 false (IntKind.i64.wrap (j - 1))) (AV.int IntKind.i64 false q) (AV.int IntKind.i64 false j) (AV.int IntKind.i64 false (IntKind.i64.wrap (1 * 2 ^ min j.toNat 64))) (AV.int IntKind.i64 false (IntKind.i64.wrap (q + IntKind.i64.wrap (1 * 2 ^ min j.toNat 64)))) (AV.int IntKind.i64 false low) (AV.int IntKind.i64 false (IntKind.i64.wrap (IntKind.i64.wrap (q + IntKind.i64.wrap (1 * 2 ^ min j.toNat 64)) * low))) (AV.int IntKind.i64 false up) (AV.bool false (decide (IntKind.i64.wrap (IntKind.i64.wrap (q + IntKind.i64.wrap (1 * 2 ^ min j.toNat 64)) * low) ≤ up))) (x37) (x38) (x39) (x40) (x41) h
  refine ⟨N + 1, s', fun L => ?_, h2.of (s1 := sl_ref05_SinLow_0_3 q j low up x0 x1 x2 x3 x8 x9 x10 x11 x12 x13 x14 x15 x16 x17 x18 x19 x20 x21 x22 x23 x24 x25 x26 x27 x28 x29 x30 x31 x32 x33 x34 x35 x36 x37 x38 x39 x40 x41 h) rfl ((show _ = kl_ref05_SinLow_0 q j low up x0 x1 x2 x3 x8 x9 x10 x11 x12 x13 x14 x15 x16 x17 x18 x19 x20 x21 x22 x23 x24 x25 x26 x27 x28 x29 x30 x31 x32 x33 x34 x35 x36 x37 x38 x39 x40 x41 h from rfl).trans (show kl_ref05_SinLow_0 q j low up x0 x1 x2 x3 x8 x9 x10 x11 x12 x13 x14 x15 x16 x17 x18 x19 x20 x21 x22 x23 x24 x25 x26 x27 x28 x29 x30 x31 x32 x33 x34 x35 x36 x37 x38 x39 x40 x41 h = _ from rfl))⟩
  rw [loopIterG, hr L q j low up x0 x1 x2 x3 x8 x9 x10 x11 x12 x13 x14 x15 x16 x17 x18 x19 x20 x21 x22 x23 x24 x25 x26 x27 x28 x29 x30 x31 x32 x33 x34 x35 x36 x37 x38 x39 x40 x41 h, Tr.run_bind, show (rd_ref05_SinLow_0 q j low up x0 x1 x2 x3 x8 x9 x10 x11 x12 x13 x14 x15 x16 x17 x18 x19 x20 x21 x22 x23 x24 x25 x26 x27 x28 x29 x30 x31 x32 x33 x34 x35 x36 x37 x38 x39 x40 x41 h).run = some (.normal, sl_ref05_SinLow_0_3 q j low up x0 x1 x2 x3 x8 x9 x10 x11 x12 x13 x14 x15 x16 x17 x18 x19 x20 x21 x22 x23 x24 x25 x26 x27 x28 x29 x30 x31 x32 x33 x34 x35 x36 x37 x38 x39 x40 x41 h) from (run_t c0).trans ((run_f c1).trans ((run_f c2).trans (rfl)))]
  exact h1 L
theorem stop_ref05_SinLow_0_4 {rnd : Nat → St → Tr (Ex × St)} (hr : HR_ref05_SinLow_0 rnd) (q : Int) (j : Int) (low : Int) (up : Int) (c0 : (decide (j ≥ 0)) = false) {outs : List (Nat × AV)} {hp : AH → AH} (ho : ∀ (x0 x1 x2 x3 x8 x9 x10 x11 x12 x13 x14 x15 x16 x17 x18 x19 x20 x21 x22 x23 x24 x25 x26 x27 x28 x29 x30 x31 x32 x33 x34 x35 x36 x37 x38 x39 x40 x41 : AV) (h : AH), outs.map (fun p => untag ((sl_ref05_SinLow_0_4 q j low up x0 x1 x2 x3 x8 x9 x10 x11 x12 x13 x14 x15 x16 x17 x18 x19 x20 x21 x22 x23 x24 x25 x26 x27 x28 x29 x30 x31 x32 x33 x34 x35 x36 x37 x38 x39 x40 x41 h).tmps.getD p.1 .undef)) = outs.map (fun p => untag p.2)) (hh : ∀ h : AH, (h).map untagL = (hp h).map untagL) : Fin_ref05_SinLow_0 rnd q j low up (.exit 0) outs hp := by
  intro x0 x1 x2 x3 x8 x9 x10 x11 x12 x13 x14 x15 x16 x17 x18 x19 x20 x21 x22 x23 x24 x25 x26 x27 x28 x29 x30 x31 x32 x33 x34 x35 x36 x37 x38 x39 x40 x41 h
  refine ⟨0, gcSt none (sl_ref05_SinLow_0_4 q j low up x0 x1 x2 x3 x8 x9 x10 x11 x12 x13 x14 x15 x16 x17 x18 x19 x20 x21 x22 x23 x24 x25 x26 x27 x28 x29 x30 x31 x32 x33 x34 x35 x36 x37 x38 x39 x40 x41 h), fun L => ?_, Leaves.stop (s1 := sl_ref05_SinLow_0_4 q j low up x0 x1 x2 x3 x8 x9 x10 x11 x12 x13 x14 x15 x16 x17 x18 x19 x20 x21 x22 x23 x24 x25 x26 x27 x28 x29 x30 x31 x32 x33 x34 x35 x36 x37 x38 x39 x40 x41 h) (hh h) rfl (ho x0 x1 x2 x3 x8 x9 x10 x11 x12 x13 x14 x15 x16 x17 x18 x19 x20 x21 x22 x23 x24 x25 x26 x27 x28 x29 x30 x31 x32 x33 x34 x35 x36 x37 x38 x39 x40 x41 h) ((show _ = kl_ref05_SinLow_0 q j low up x0 x1 x2 x3 x8 x9 x10 x11 x12 x13 x14 x15 x16 x17 x18 x19 x20 x21 x22 x23 x24 x25 x26 x27 x28 x29 x30 x31 x32 x33 x34 x35 x36 x37 x38 x39 x40 x41 h from rfl).trans (show kl_ref05_SinLow_0 q j low up x0 x1 x2 x3 x8 x9 x10 x11 x12 x13 x14 x15 x16 x17 x18 x19 x20 x21 x22 x23 x24 x25 x26 x27 x28 x29 x30 x31 x32 x33 x34 x35 x36 x37 x38 x39 x40 x41 h = _ from rfl))⟩
  rw [loopIterG, hr L q j low up x0 x1 x2 x3 x8 x9 x10 x11 x12 x13 x14 x15 x16 x17 x18 x19 x20 x21 x22 x23 x24 x25 x26 x27 x28 x29 x30 x31 x32 x33 x34 x35 x36 x37 x38 x39 x40 x41 h, Tr.run_bind, show (rd_ref05_SinLow_0 q j low up x0 x1 x2 x3 x8 x9 x10 x11 x12 x13 x14 x15 x16 x17 x18 x19 x20 x21 x22 x23 x24 x25 x26 x27 x28 x29 x30 x31 x32 x33 x34 x35 x36 x37 x38 x39 x40 x41 h).run = some (.exit 0, sl_ref05_SinLow_0_4 q j low up x0 x1 x2 x3 x8 x9 x10 x11 x12 x13 x14 x15 x16 x17 x18 x19 x20 x21 x22 x23 x24 x25 x26 x27 x28 x29 x30 x31 x32 x33 x34 x35 x36 x37 x38 x39 x40 x41 h) from (run_f c0).trans (rfl)]
  rfl
theorem core_ref05_SinLow_0 (rnd : Nat → St → Tr (Ex × St)) (hr : HR_ref05_SinLow_0 rnd) : ∀ (q : Int) (j : Int) (low : Int) (up : Int), (0 < low ∧ low ≤ 5368709120) ∧ (0 ≤ up ∧ up ≤ 70368744177664) ∧ (-1 ≤ j ∧ j ≤ 14) ∧ 0 ≤ q ∧ q * low ≤ up ∧ up < (q + 2 ^ (j + 1).toNat) * low ∧ q + 2 ^ (j + 1).toNat ≤ 32768 → Fin_ref05_SinLow_0 rnd q j low up (.exit 0) [(6, i6 (up / low))] (fun h => h) := by
  have key : ∀ (m : Nat) (q j low up : Int), (j + 1).toNat = m → (0 < low ∧ low ≤ 5368709120) ∧ (0 ≤ up ∧ up ≤ 70368744177664) ∧ (-1 ≤ j ∧ j ≤ 14) ∧ 0 ≤ q ∧ q * low ≤ up ∧ up < (q + 2 ^ (j + 1).toNat) * low ∧ q + 2 ^ (j + 1).toNat ≤ 32768 → Fin_ref05_SinLow_0 rnd q j low up (.exit 0) [(6, i6 (up / low))] (fun h => h) := by
    intro m
    induction m with
    | zero =>
      intro q j low up hm ⟨h1, h2, h3, h4, h5, h6, h7⟩
      rw [hm, Int.pow_zero] at h6
      have x1 : (q + 1) * low = low * q + low := by rw [Int.add_mul, Int.mul_comm q, Int.one_mul]
      have x2 : q * low = low * q := Int.mul_comm _ _
      refine stop_ref05_SinLow_0_4 hr q j low up (decide_eq_false (by omega)) ?_ (fun h => rfl)
      intros
      rw [ediv_of (a := up) (b := low) (q := q) (r := up - low * q) (by omega) (by omega) (by omega)]; rfl
    | succ m ih =>
      intro q j low up hm ⟨h1, h2, h3, h4, h5, h6, h7⟩
      rw [hm] at h6 h7
      have hj : j.toNat = m := by omega
      have hp : min j.toNat 64 = m := by omega
      have hj1 : (j - 1 + 1).toNat = m := by omega
      have e2 : (2 : Int) ^ (m + 1) = 2 * 2 ^ m := by rw [Int.pow_succ, Int.mul_comm]
      have w1 : (1 : Int) ≤ 2 ^ m := by have := Int.pow_pos (n := 2) (m := m) (by decide); omega
      have hw : IntKind.i64.wrap (1 * 2 ^ min j.toNat 64) = 2 ^ m := by rw [hp, wrap_i64_id (by omega)]; omega
      have ih' := fun q' => ih q' (j - 1) low up hj1
      rw [hj1] at ih'
      rw [e2] at h6 h7
      generalize (2 : Int) ^ m = w at *
      have b1 := mul_mono (a := q + w) (b := 32768) (c := low) (d := 5368709120) (by omega) (by omega) (by omega) (by omega)
      have st := bit_step (q := q) (w := w) h6
      have hq : IntKind.i64.wrap (q + w) = q + w := wrap_i64_id (by omega)
      have hql : IntKind.i64.wrap ((q + w) * low) = (q + w) * low := wrap_i64_id (by omega)
      have hjm : IntKind.i64.wrap (j - 1) = j - 1 := wrap_i64_id (by omega)
      by_cases t : (q + w) * low ≤ up
      · refine step_ref05_SinLow_0_2 hr q j low up (decide_eq_true (by omega)) (decide_eq_false (by omega)) (by rw [hw, hq, hql]; exact decide_eq_true t) (decide_eq_false (by omega)) ?_
        rw [hw, hq, hjm]
        exact ih' (q + w) ⟨h1, h2, by omega, by omega, t, st.1 t, by omega⟩
      · refine step_ref05_SinLow_0_3 hr q j low up (decide_eq_true (by omega)) (decide_eq_false (by omega)) (by rw [hw, hq, hql]; exact decide_eq_false t) ?_
        rw [hjm]
        exact ih' q ⟨h1, h2, by omega, by omega, h5, st.2 t, by omega⟩
  exact fun q j low up hc => key _ q j low up rfl hc
theorem piece_ref05_SinLow_0 {P : Program} {T : Table} {O' : Known} {f : FuncId} (hb : blockOf P f 0 = .loop (loopOf P f 0)) (hid : O' 0 = none)
    (hr : HR_ref05_SinLow_0 (fun L => evCode P (evCall P T 16 1) L O' (loopOf P f 0))) :
    ∀ (s : St) (e : Ex) (outs : List (Nat × AV)) (hp : AH), s.tmps.length = 42 → (g_ref05_SinLow_0 (([6, 7, 5, 4] : List Nat).map fun j => untag (s.tmps.getD j .undef)) (s.heap.map untagL)).run = some (e, outs, hp) → ∃ s', Good P T O' f 0 42 [6, 7, 25, 26, 27, 28, 29, 30, 31, 32, 33, 34, 35, 36, 37, 38, 39, 40] s e outs hp s' := by
  intro s e outs hp hk hg
  obtain ⟨tm, h⟩ := s
  have htm : untagL tm = [untag (tm.getD 0 .undef), untag (tm.getD 1 .undef), untag (tm.getD 2 .undef), untag (tm.getD 3 .undef), untag (tm.getD 4 .undef), untag (tm.getD 5 .undef), untag (tm.getD 6 .undef), untag (tm.getD 7 .undef), untag (tm.getD 8 .undef), untag (tm.getD 9 .undef), untag (tm.getD 10 .undef), untag (tm.getD 11 .undef), untag (tm.getD 12 .undef), untag (tm.getD 13 .undef), untag (tm.getD 14 .undef), untag (tm.getD 15 .undef), untag (tm.getD 16 .undef), untag (tm.getD 17 .undef), untag (tm.getD 18 .undef), untag (tm.getD 19 .undef), untag (tm.getD 20 .undef), untag (tm.getD 21 .undef), untag (tm.getD 22 .undef), untag (tm.getD 23 .undef), untag (tm.getD 24 .undef), untag (tm.getD 25 .undef), untag (tm.getD 26 .undef), untag (tm.getD 27 .undef), untag (tm.getD 28 .undef), untag (tm.getD 29 .undef), untag (tm.getD 30 .undef), untag (tm.getD 31 .undef), untag (tm.getD 32 .undef), untag (tm.getD 33 .undef), untag (tm.getD 34 .undef), untag (tm.getD 35 .undef), untag (tm.getD 36 .undef), untag (tm.getD 37 .undef), untag (tm.getD 38 .undef), untag (tm.getD 39 .undef), untag (tm.getD 40 .undef), untag (tm.getD 41 .undef)] := tmps_eq hk
  unfold g_ref05_SinLow_0 at hg
  simp only [List.map_cons, List.map_nil] at hg
  split at hg
  · rename_i q j low up heq
    simp only [List.cons.injEq, and_true] at heq
    obtain ⟨e6, e7, e5, e4⟩ := heq
    simp only [Tr.run] at hg
    split at hg
    · rename_i hc
      simp only [Option.some.injEq, Prod.mk.injEq] at hg
      obtain ⟨rfl, rfl, rfl⟩ := hg
      rw [e6, e7, e5, e4] at htm
      obtain ⟨N, s', h1, h2⟩ := core_ref05_SinLow_0 (fun L => evCode P (evCall P T 16 1) L O' (loopOf P f 0)) hr q j low up (of_decide_eq_true hc) (untag (tm.getD 0 .undef)) (untag (tm.getD 1 .undef)) (untag (tm.getD 2 .undef)) (untag (tm.getD 3 .undef)) (untag (tm.getD 8 .undef)) (untag (tm.getD 9 .undef)) (untag (tm.getD 10 .undef)) (untag (tm.getD 11 .undef)) (untag (tm.getD 12 .undef)) (untag (tm.getD 13 .undef)) (untag (tm.getD 14 .undef)) (untag (tm.getD 15 .undef)) (untag (tm.getD 16 .undef)) (untag (tm.getD 17 .undef)) (untag (tm.getD 18 .undef)) (untag (tm.getD 19 .undef)) (untag (tm.getD 20 .undef)) (untag (tm.getD 21 .undef)) (untag (tm.getD 22 .undef)) (untag (tm.getD 23 .undef)) (untag (tm.getD 24 .undef)) (untag (tm.getD 25 .undef)) (untag (tm.getD 26 .undef)) (untag (tm.getD 27 .undef)) (untag (tm.getD 28 .undef)) (untag (tm.getD 29 .undef)) (untag (tm.getD 30 .undef)) (untag (tm.getD 31 .undef)) (untag (tm.getD 32 .undef)) (untag (tm.getD 33 .undef)) (untag (tm.getD 34 .undef)) (untag (tm.getD 35 .undef)) (untag (tm.getD 36 .undef)) (untag (tm.getD 37 .undef)) (untag (tm.getD 38 .undef)) (untag (tm.getD 39 .undef)) (untag (tm.getD 40 .undef)) (untag (tm.getD 41 .undef)) (h.map untagL)
      exact ⟨s', good_loop (g := none) (e1 := .exit 0) hb (fun k e => by cases e) 16 1 N (by rw [htm]; exact h1) (by rw [htm]; exact h2)⟩
    · cases hg
  · cases hg

/-! skylightref05.Sin -/
def tr_ref05_SinLow (a : Int) : Tr AV := Tr.node (decide (md a (65536 : Int) ≥ 32768)) Tr.bad (Tr.node (decide ((0 < IntKind.i64.wrap (5368709120 - IntKind.i64.wrap (4 * IntKind.i64.wrap (md a 65536 * IntKind.i64.wrap (32768 - md a 65536)))) ∧ IntKind.i64.wrap (5368709120 - IntKind.i64.wrap (4 * IntKind.i64.wrap (md a 65536 * IntKind.i64.wrap (32768 - md a 65536)))) ≤ 5368709120) ∧ (0 ≤ IntKind.i64.wrap (262144 * IntKind.i64.wrap (md a 65536 * IntKind.i64.wrap (32768 - md a 65536))) ∧ IntKind.i64.wrap (262144 * IntKind.i64.wrap (md a 65536 * IntKind.i64.wrap (32768 - md a 65536))) ≤ 70368744177664) ∧ ((-1 : Int) ≤ 14 ∧ (14 : Int) ≤ 14) ∧ (0 : Int) ≤ 0 ∧ 0 * IntKind.i64.wrap (5368709120 - IntKind.i64.wrap (4 * IntKind.i64.wrap (md a 65536 * IntKind.i64.wrap (32768 - md a 65536)))) ≤ IntKind.i64.wrap (262144 * IntKind.i64.wrap (md a 65536 * IntKind.i64.wrap (32768 - md a 65536))) ∧ IntKind.i64.wrap (262144 * IntKind.i64.wrap (md a 65536 * IntKind.i64.wrap (32768 - md a 65536))) < 32768 * IntKind.i64.wrap (5368709120 - IntKind.i64.wrap (4 * IntKind.i64.wrap (md a 65536 * IntKind.i64.wrap (32768 - md a 65536)))) ∧ (32768 : Int) ≤ 32768)) (Tr.leaf (AV.int IntKind.i64 false (IntKind.i64.wrap (262144 * IntKind.i64.wrap (md a 65536 * IntKind.i64.wrap (32768 - md a 65536))) / IntKind.i64.wrap (5368709120 - IntKind.i64.wrap (4 * IntKind.i64.wrap (md a 65536 * IntKind.i64.wrap (32768 - md a 65536))))))) Tr.bad)
theorem run_ref05_SinLow (a : Int) (h_a : InR .i64 a) (hpre : a % 65536 < 32768) : (tr_ref05_SinLow a).run = some (i6 (sinT a)) := by
  unfold tr_ref05_SinLow
  rw [md_64k]
  refine (run_f (decide_eq_false (by omega))).trans ?_
  
  have hb := bow_prog (a := a % 65536) (by omega)
  have ba := bowA_r (a := a % 65536) (by omega)
  have e : sinT a = bowN (a % 65536) := by unfold sinT; rw [if_pos (by omega)]
  rw [e]
  unfold bowN
  have hcr : 0 ≤ a % 65536 ∧ a % 65536 < 32768 := by omega
  generalize a % 65536 = c at *
  rw [wrap_i64_id (n := 32768 - c) (by omega)]
  generalize c * (32768 - c) = A at *
  rw [wrap_i64_id (n := A) (by omega), wrap_i64_id (n := 4 * A) (by omega), wrap_i64_id (n := 5368709120 - 4 * A) (by omega), wrap_i64_id (n := 262144 * A) (by omega)]
  refine run_t (decide_eq_true ?_)
  omega

/-! skylightref05.Sin, block 0 -/
def st_skylightref05_Sin_0 (q : Int) (j : Int) (low : Int) (up : Int) (x0 x1 x2 x3 x8 x9 x10 x11 x12 x13 x14 x15 x16 x17 x18 x19 x20 x21 x22 x23 x24 x25 x26 x27 x28 x29 x30 x31 x32 x33 x34 x35 x36 x37 x38 x39 x40 x41 : AV) (h : AH) : St := ⟨[x0, x1, x2, x3, .int .i64 false up, .int .i64 false low, .int .i64 false q, .int .i64 false j, x8, x9, x10, x11, x12, x13, x14, x15, x16, x17, x18, x19, x20, x21, x22, x23, x24, x25, x26, x27, x28, x29, x30, x31, x32, x33, x34, x35, x36, x37, x38, x39, x40, x41], h⟩
def kl_skylightref05_Sin_0 (q : Int) (j : Int) (low : Int) (up : Int) (x0 x1 x2 x3 x8 x9 x10 x11 x12 x13 x14 x15 x16 x17 x18 x19 x20 x21 x22 x23 x24 x25 x26 x27 x28 x29 x30 x31 x32 x33 x34 x35 x36 x37 x38 x39 x40 x41 : AV) (h : AH) : List AV := [untag x0, untag x1, untag x2, untag x3, untag (.int .i64 false up), untag (.int .i64 false low), .undef, .undef, untag x8, untag x9, untag x10, untag x11, untag x12, untag x13, untag x14, untag x15, untag x16, untag x17, untag x18, untag x19, untag x20, untag x21, untag x22, untag x23, untag x24, .undef, .undef, .undef, .undef, .undef, .undef, .undef, .undef, .undef, .undef, .undef, .undef, .undef, .undef, .undef, .undef, untag x41]
def sl_skylightref05_Sin_0_2 (q : Int) (j : Int) (low : Int) (up : Int) (x0 x1 x2 x3 x8 x9 x10 x11 x12 x13 x14 x15 x16 x17 x18 x19 x20 x21 x22 x23 x24 x25 x26 x27 x28 x29 x30 x31 x32 x33 x34 x35 x36 x37 x38 x39 x40 x41 : AV) (h : AH) : St := ⟨[x0, x1, x2, x3, AV.int IntKind.i64 false up, AV.int IntKind.i64 false low, AV.int IntKind.i64 false (IntKind.i64.wrap (q + IntKind.i64.wrap (1 * 2 ^ min j.toNat 64))), AV.int IntKind.i64 false (IntKind.i64.wrap (j - 1)), x8, x9, x10, x11, x12, x13, x14, x15, x16, x17, x18, x19, x20, x21, x22, x23, x24, AV.int IntKind.i64 false j, AV.bool false (decide (j ≥ 0)), AV.int IntKind.i64 false j, AV.int IntKind.i64 false (IntKind.i64.wrap (j - 1)), AV.int IntKind.i64 false q, AV.int IntKind.i64 false j, AV.int IntKind.i64 false (IntKind.i64.wrap (1 * 2 ^ min j.toNat 64)), AV.int IntKind.i64 false (IntKind.i64.wrap (q + IntKind.i64.wrap (1 * 2 ^ min j.toNat 64))), AV.int IntKind.i64 false low, AV.int IntKind.i64 false (IntKind.i64.wrap (IntKind.i64.wrap (q + IntKind.i64.wrap (1 * 2 ^ min j.toNat 64)) * low)), AV.int IntKind.i64 false up, AV.bool false (decide (IntKind.i64.wrap (IntKind.i64.wrap (q + IntKind.i64.wrap (1 * 2 ^ min j.toNat 64)) * low) ≤ up)), AV.int IntKind.i64 false q, AV.int IntKind.i64 false j, AV.int IntKind.i64 false (IntKind.i64.wrap (1 * 2 ^ min j.toNat 64)), AV.int IntKind.i64 false (IntKind.i64.wrap (q + IntKind.i64.wrap (1 * 2 ^ min j.toNat 64))), x41], h⟩
def sl_skylightref05_Sin_0_3 (q : Int) (j : Int) (low : Int) (up : Int) (x0 x1 x2 x3 x8 x9 x10 x11 x12 x13 x14 x15 x16 x17 x18 x19 x20 x21 x22 x23 x24 x25 x26 x27 x28 x29 x30 x31 x32 x33 x34 x35 x36 x37 x38 x39 x40 x41 : AV) (h : AH) : St := ⟨[x0, x1, x2, x3, AV.int IntKind.i64 false up, AV.int IntKind.i64 false low, AV.int IntKind.i64 false q, AV.int IntKind.i64 false (IntKind.i64.wrap (j - 1)), x8, x9, x10, x11, x12, x13, x14, x15, x16, x17, x18, x19, x20, x21, x22, x23, x24, AV.int IntKind.i64 false j, AV.bool false (decide (j ≥ 0)), AV.int IntKind.i64 false j, AV.int IntKind.i64 false (IntKind.i64.wrap (j - 1)), AV.int IntKind.i64 false q, AV.int IntKind.i64 false j, AV.int IntKind.i64 false (IntKind.i64.wrap (1 * 2 ^ min j.toNat 64)), AV.int IntKind.i64 false (IntKind.i64.wrap (q + IntKind.i64.wrap (1 * 2 ^ min j.toNat 64))), AV.int IntKind.i64 false low, AV.int IntKind.i64 false (IntKind.i64.wrap (IntKind.i64.wrap (q + IntKind.i64.wrap (1 * 2 ^ min j.toNat 64)) * low)), AV.int IntKind.i64 false up, AV.bool false (decide (IntKind.i64.wrap (IntKind.i64.wrap (q + IntKind.i64.wrap (1 * 2 ^ min j.toNat 64)) * low) ≤ up)), x37, x38, x39, x40, x41], h⟩
def sl_skylightref05_Sin_0_4 (q : Int) (j : Int) (low : Int) (up : Int) (x0 x1 x2 x3 x8 x9 x10 x11 x12 x13 x14 x15 x16 x17 x18 x19 x20 x21 x22 x23 x24 x25 x26 x27 x28 x29 x30 x31 x32 x33 x34 x35 x36 x37 x38 x39 x40 x41 : AV) (h : AH) : St := ⟨[x0, x1, x2, x3, AV.int IntKind.i64 false up, AV.int IntKind.i64 false low, AV.int IntKind.i64 false q, AV.int IntKind.i64 false j, x8, x9, x10, x11, x12, x13, x14, x15, x16, x17, x18, x19, x20, x21, x22, x23, x24, AV.int IntKind.i64 false j, AV.bool false (decide (j ≥ 0)), x27, x28, x29, x30, x31, x32, x33, x34, x35, x36, x37, x38, x39, x40, x41], h⟩
def rd_skylightref05_Sin_0 (q : Int) (j : Int) (low : Int) (up : Int) (x0 x1 x2 x3 x8 x9 x10 x11 x12 x13 x14 x15 x16 x17 x18 x19 x20 x21 x22 x23 x24 x25 x26 x27 x28 x29 x30 x31 x32 x33 x34 x35 x36 x37 x38 x39 x40 x41 : AV) (h : AH) : Tr (Ex × St) := Tr.node (decide (j ≥ 0)) (Tr.node (decide (j < 0)) (Tr.bad) (Tr.node (decide (IntKind.i64.wrap (IntKind.i64.wrap (q + IntKind.i64.wrap (1 * 2 ^ min j.toNat 64)) * low) ≤ up)) (Tr.node (decide (j < 0)) (Tr.bad) (Tr.leaf (Ex.normal, sl_skylightref05_Sin_0_2 q j low up x0 x1 x2 x3 x8 x9 x10 x11 x12 x13 x14 x15 x16 x17 x18 x19 x20 x21 x22 x23 x24 x25 x26 x27 x28 x29 x30 x31 x32 x33 x34 x35 x36 x37 x38 x39 x40 x41 h))) (Tr.leaf (Ex.normal, sl_skylightref05_Sin_0_3 q j low up x0 x1 x2 x3 x8 x9 x10 x11 x12 x13 x14 x15 x16 x17 x18 x19 x20 x21 x22 x23 x24 x25 x26 x27 x28 x29 x30 x31 x32 x33 x34 x35 x36 x37 x38 x39 x40 x41 h)))) (Tr.leaf (Ex.exit 0, sl_skylightref05_Sin_0_4 q j low up x0 x1 x2 x3 x8 x9 x10 x11 x12 x13 x14 x15 x16 x17 x18 x19 x20 x21 x22 x23 x24 x25 x26 x27 x28 x29 x30 x31 x32 x33 x34 x35 x36 x37 x38 x39 x40 x41 h))
def g_skylightref05_Sin_0 : PieceTold := fun l h => match l with | [.int .i64 false q, .int .i64 false j, .int .i64 false low, .int .i64 false up] => .node (decide ((0 < low ∧ low ≤ 5368709120) ∧ (0 ≤ up ∧ up ≤ 70368744177664) ∧ (-1 ≤ j ∧ j ≤ 14) ∧ 0 ≤ q ∧ q * low ≤ up ∧ up < (q + 2 ^ (j + 1).toNat) * low ∧ q + 2 ^ (j + 1).toNat ≤ 32768)) (.leaf (.normal, [(6, i6 (up / low))], h)) .bad | _ => .bad
def HR_skylightref05_Sin_0 (rnd : Nat → St → Tr (Ex × St)) : Prop := ∀ L (q : Int) (j : Int) (low : Int) (up : Int) (x0 x1 x2 x3 x8 x9 x10 x11 x12 x13 x14 x15 x16 x17 x18 x19 x20 x21 x22 x23 x24 x25 x26 x27 x28 x29 x30 x31 x32 x33 x34 x35 x36 x37 x38 x39 x40 x41 : AV) (h : AH), rnd L (st_skylightref05_Sin_0 q j low up x0 x1 x2 x3 x8 x9 x10 x11 x12 x13 x14 x15 x16 x17 x18 x19 x20 x21 x22 x23 x24 x25 x26 x27 x28 x29 x30 x31 x32 x33 x34 x35 x36 x37 x38 x39 x40 x41 h) = rd_skylightref05_Sin_0 q j low up x0 x1 x2 x3 x8 x9 x10 x11 x12 x13 x14 x15 x16 x17 x18 x19 x20 x21 x22 x23 x24 x25 x26 x27 x28 x29 x30 x31 x32 x33 x34 x35 x36 x37 x38 x39 x40 x41 h
/-- From here the loop ends so. -/
def Fin_skylightref05_Sin_0 (rnd : Nat → St → Tr (Ex × St)) (q : Int) (j : Int) (low : Int) (up : Int) (e : Ex) (outs : List (Nat × AV)) (hp : AH → AH) : Prop := ∀ (x0 x1 x2 x3 x8 x9 x10 x11 x12 x13 x14 x15 x16 x17 x18 x19 x20 x21 x22 x23 x24 x25 x26 x27 x28 x29 x30 x31 x32 x33 x34 x35 x36 x37 x38 x39 x40 x41 : AV) (h : AH),
    ∃ N s', (∀ L, (loopIterG none (rnd L) (N + 1) (st_skylightref05_Sin_0 q j low up x0 x1 x2 x3 x8 x9 x10 x11 x12 x13 x14 x15 x16 x17 x18 x19 x20 x21 x22 x23 x24 x25 x26 x27 x28 x29 x30 x31 x32 x33 x34 x35 x36 x37 x38 x39 x40 x41 h)).run = some (e, s')) ∧ Leaves none 42 [6, 7, 25, 26, 27, 28, 29, 30, 31, 32, 33, 34, 35, 36, 37, 38, 39, 40] (st_skylightref05_Sin_0 q j low up x0 x1 x2 x3 x8 x9 x10 x11 x12 x13 x14 x15 x16 x17 x18 x19 x20 x21 x22 x23 x24 x25 x26 x27 x28 x29 x30 x31 x32 x33 x34 x35 x36 x37 x38 x39 x40 x41 h).tmps outs (hp h) s'
theorem step_skylightref05_Sin_0_2 {rnd : Nat → St → Tr (Ex × St)} (hr : HR_skylightref05_Sin_0 rnd) (q : Int) (j : Int) (low : Int) (up : Int) (c0 : (decide (j ≥ 0)) = true) (c1 : (decide (j < 0)) = false) (c2 : (decide (IntKind.i64.wrap (IntKind.i64.wrap (q + IntKind.i64.wrap (1 * 2 ^ min j.toNat 64)) * low) ≤ up)) = true) (c3 : (decide (j < 0)) = false) {e : Ex} {outs : List (Nat × AV)} {hp : AH → AH} (hn : Fin_skylightref05_Sin_0 rnd ((IntKind.i64.wrap (q + IntKind.i64.wrap (1 * 2 ^ min j.toNat 64)))) ((IntKind.i64.wrap (j - 1))) (low) (up) e outs hp) : Fin_skylightref05_Sin_0 rnd q j low up e outs hp := by
  intro x0 x1 x2 x3 x8 x9 x10 x11 x12 x13 x14 x15 x16 x17 x18 x19 x20 x21 x22 x23 x24 x25 x26 x27 x28 x29 x30 x31 x32 x33 x34 x35 x36 x37 x38 x39 x40 x41 h
  obtain ⟨N, s', h1, h2⟩ := hn (x0) (x1) (x2) (x3) (x8) (x9) (x10) (x11) (x12) (x13) (x14) (x15) (x16) (x17) (x18) (x19) (x20) (x21) (x22) (x23) (x24) (AV.int IntKind.i64 false j) (AV.bool false (decide (j ≥ 0))) (AV.int IntKind.i64 false j) (AV.int IntKind.i64 false (IntKind.i64.wrap (j - 1))) (AV.int IntKind.i64 false q) (AV.int IntKind.i64 false j) (AV.int IntKind.i64 false (IntKind.i64.wrap (1 * 2 ^ min j.toNat 64))) (AV.int IntKind.i64 false (IntKind.i64.wrap (q + IntKind.i64.wrap (1 * 2 ^ min j.toNat 64)))) (AV.int IntKind.i64 false low) (AV.int IntKind.i64 false (IntKind.i64.wrap (IntKind.i64.wrap (q + IntKind.i64.wrap (1 * 2 ^ min j.toNat 64)) * low))) (AV.int IntKind.i64 false up) (AV.bool false (decide (IntKind.i64.wrap (IntKind.i64.wrap (q + IntKind.i64.wrap (1 * 2 ^ min j.toNat 64)) * low) ≤ up))) (AV.int IntKind.i64 false q) (AV.int IntKind.i64 false j) (AV.int IntKind.i64 false (IntKind.i64.wrap (1 * 2 ^ min j.toNat 64))) (AV.int IntKind.i64 false (IntKind.i64.wrap (q + IntKind.i64.wrap (1 * 2 ^ min j.toNat 64)))) (x41) h
  refine ⟨N + 1, s', fun L => ?_, h2.of (s1 := sl_skylightref05_Sin_0_2 q j low up x0 x1 x2 x3 x8 x9 x10 x11 x12 x13 x14 x15 x16 x17 x18 x19 x20 x21 x22 x23 x24 x25 x26 x27 x28 x29 x30 x31 x32 x33 x34 x35 x36 x37 x38 x39 x40 x41 h) rfl ((show _ = kl_skylightref05_Sin_0 q j low up x0 x1 x2 x3 x8 x9 x10 x11 x12 x13 x14 x15 x16 x17 x18 x19 x20 x21 x22 x23 x24 x25 x26 x27 x28 x29 x30 x31 x32 x33 x34 x35 x36 x37 x38 x39 x40 x41 h from rfl).trans (show kl_skylightref05_Sin_0 q j low up x0 x1 x2 x3 x8 x9 x10 x11 x12 x13 x14 x15 x16 x17 x18 x19 x20 x21 x22 x23 x24 x25 x26 x27 x28 x29 x30 x31 x32 x33 x34 x35 x36 x37 x38 x39 x40 x41 h = _ from rfl))⟩
  rw [loopIterG, hr L q j low up x0 x1 x2 x3 x8 x9 x10 x11 x12 x13 x14 x15 x16 x17 x18 x19 x20 x21 x22 x23 x24 x25 x26 x27 x28 x29 x30 x31 x32 x33 x34 x35 x36 x37 x38 x39 x40 x41 h, Tr.run_bind, show (rd_skylightref05_Sin_0 q j low up x0 x1 x2 x3 x8 x9 x10 x11 x12 x13 x14 x15 x16 x17 x18 x19 x20 x21 x22 x23 x24 x25 x26 x27 x28 x29 x30 x31 x32 x33 x34 x35 x36 x37 x38 x39 x40 x41 h).run = some (.normal, sl_skylightref05_Sin_0_2 q j low up x0 x1 x2 x3 x8 x9 x10 x11 x12 x13 x14 x15 x16 x17 x18 x19 x20 x21 x22 x23 x24 x25 x26 x27 x28 x29 x30 x31 x32 x33 x34 x35 x36 x37 x38 x39 x40 x41 h) from (run_t c0).trans ((run_f c1).trans ((run_t c2).trans ((run_f c3).trans (rfl))))]
  exact h1 L
theorem step_skylightref05_Sin_0_3 {rnd : Nat → St → Tr (Ex × St)} (hr : HR_skylightref05_Sin_0 rnd) (q : Int) (j : Int) (low : Int) (up : Int) (c0 : (decide (j ≥ 0)) = true) (c1 : (decide (j < 0)) = false) (c2 : (decide (IntKind.i64.wrap (IntKind.i64.wrap (q + IntKind.i64.wrap (1 * 2 ^ min j.toNat 64)) * low) ≤ up)) = false) {e : Ex} {outs : List (Nat × AV)} {hp : AH → AH} (hn : Fin_skylightref05_Sin_0 rnd (q) ((IntKind.i64.wrap (j - 1))) (low) (up) e outs hp) : Fin_skylightref05_Sin_0 rnd q j low up e outs hp := by
  intro x0 x1 x2 x3 x8 x9 x10 x11 x12 x13 x14 x15 x16 x17 x18 x19 x20 x21 x22 x23 x24 x25 x26 x27 x28 x29 x30 x31 x32 x33 x34 x35 x36 x37 x38 x39 x40 x41 h
  obtain ⟨N, s', h1, h2⟩ := hn (x0) (x1) (x2) (x3) (x8) (x9) (x10) (x11) (x12) (x13) (x14) (x15) (x16) (x17) (x18) (x19) (x20) (x21) (x22) (x23) (x24) (AV.int IntKind.i64 false j) (AV.bool false (decide (j ≥ 0))) (AV.int IntKind.i64 false j) (AV.int IntKind.i64 false (IntKind.i64.wrap (j - 1))) (AV.int IntKind.i64 false q) (AV.int IntKind.i64 false j) (AV.int IntKind.i64 false (IntKind.i64.wrap (1 * 2 ^ min j.toNat 64))) (AV.int IntKind.i64 false (IntKind.i64.wrap (q + IntKind.i64.wrap (1 * 2 ^ min j.toNat 64)))) (AV.int IntKind.i64 false low) (AV.int IntKind.i64 false (IntKind.i64.wrap (IntKind.i64.wrap (q + IntKind.i64.wrap (1 * 2 ^ min j.toNat 64)) * low))) (AV.int IntKind.i64 false up) (AV.bool false (decide (IntKind.i64.wrap (IntKind.i64.wrap (q + IntKind.i64.wrap (1 * 2 ^ min j.toNat 64)) * low) ≤ up))) (x37) (x38) (x39) (x40) (x41) h
  refine ⟨N + 1, s', fun L => ?_, h2.of (s1 := sl_skylightref05_Sin_0_3 q j low up x0 x1 x2 x3 x8 x9 x10 x11 x12 x13 x14 x15 x16 x17 x18 x19 x20 x21 x22 x23 x24 x25 x26 x27 x28 x29 x30 x31 x32 x33 x34 x35 x36 x37 x38 x39 x40 x41 h) rfl ((show _ = kl_skylightref05_Sin_0 q j low up x0 x1 x2 x3 x8 x9 x10 x11 x12 x13 x14 x15 x16 x17 x18 x19 x20 x21 x22 x23 x24 x25 x26 x27 x28 x29 x30 x31 x32 x33 x34 x35 x36 x37 x38 x39 x40 x41 h from rfl).trans (show kl_skylightref05_Sin_0 q j low up x0 x1 x2 x3 x8 x9 x10 x11 x12 x13 x14 x15 x16 x17 x18 x19 x20 x21 x22 x23 x24 x25 x26 x27 x28 x29 x30 x31 x32 x33 x34 x35 x36 x37 x38 x39 x40 x41 h = _ from rfl))⟩
  rw [loopIterG, hr L q j low up x0 x1 x2 x3 x8 x9 x10 x11 x12 x13 x14 x15 x16 x17 x18 x19 x20 x21 x22 x23 x24 x25 x26 x27 x28 x29 x30 x31 x32 x33 x34 x35 x36 x37 x38 x39 x40 x41 h, Tr.run_bind, show (rd_skylightref05_Sin_0 q j low up x0 x1 x2 x3 x8 x9 x10 x11 x12 x13 x14 x15 x16 x17 x18 x19 x20 x21 x22 x23 x24 x25 x26 x27 x28 x29 x30 x31 x32 x33 x34 x35 x36 x37 x38 x39 x40 x41 h).run = some (.normal, sl_skylightref05_Sin_0_3 q j low up x0 x1 x2 x3 x8 x9 x10 x11 x12 x13 x14 x15 x16 x17 x18 x19 x20 x21 x22 x23 x24 x25 x26 x27 x28 x29 x30 x31 x32 x33 x34 x35 x36 x37 x38 x39 x40 x41 h) from (run_t c0).trans ((run_f c1).trans ((run_f c2).trans (rfl)))]
  exact h1 L
theorem stop_skylightref05_Sin_0_4 {rnd : Nat → St → Tr (Ex × St)} (hr : HR_skylightref05_Sin_0 rnd) (q : Int) (j : Int) (low : Int) (up : Int) (c0 : (decide (j ≥ 0)) = false) {outs : List (Nat × AV)} {hp : AH → AH} (ho : ∀ (x0 x1 x2 x3 x8 x9 x10 x11 x12 x13 x14 x15 x16 x17 x18 x19 x20 x21 x22 x23 x24 x25 x26 x27 x28 x29 x30 x31 x32 x33 x34 x35 x36 x37 x38 x39 x40 x41 : AV) (h : AH), outs.map (fun p => untag ((sl_skylightref05_Sin_0_4 q j low up x0 x1 x2 x3 x8 x9 x10 x11 x12 x13 x14 x15 x16 x17 x18 x19 x20 x21 x22 x23 x24 x25 x26 x27 x28 x29 x30 x31 x32 x33 x34 x35 x36 x37 x38 x39 x40 x41 h).tmps.getD p.1 .undef)) = outs.map (fun p => untag p.2)) (hh : ∀ h : AH, (h).map untagL = (hp h).map untagL) : Fin_skylightref05_Sin_0 rnd q j low up (.exit 0) outs hp := by
  intro x0 x1 x2 x3 x8 x9 x10 x11 x12 x13 x14 x15 x16 x17 x18 x19 x20 x21 x22 x23 x24 x25 x26 x27 x28 x29 x30 x31 x32 x33 x34 x35 x36 x37 x38 x39 x40 x41 h
  refine ⟨0, gcSt none (sl_skylightref05_Sin_0_4 q j low up x0 x1 x2 x3 x8 x9 x10 x11 x12 x13 x14 x15 x16 x17 x18 x19 x20 x21 x22 x23 x24 x25 x26 x27 x28 x29 x30 x31 x32 x33 x34 x35 x36 x37 x38 x39 x40 x41 h), fun L => ?_, Leaves.stop (s1 := sl_skylightref05_Sin_0_4 q j low up x0 x1 x2 x3 x8 x9 x10 x11 x12 x13 x14 x15 x16 x17 x18 x19 x20 x21 x22 x23 x24 x25 x26 x27 x28 x29 x30 x31 x32 x33 x34 x35 x36 x37 x38 x39 x40 x41 h) (hh h) rfl (ho x0 x1 x2 x3 x8 x9 x10 x11 x12 x13 x14 x15 x16 x17 x18 x19 x20 x21 x22 x23 x24 x25 x26 x27 x28 x29 x30 x31 x32 x33 x34 x35 x36 x37 x38 x39 x40 x41 h) ((show _ = kl_skylightref05_Sin_0 q j low up x0 x1 x2 x3 x8 x9 x10 x11 x12 x13 x14 x15 x16 x17 x18 x19 x20 x21 x22 x23 x24 x25 x26 x27 x28 x29 x30 x31 x32 x33 x34 x35 x36 x37 x38 x39 x40 x41 h from rfl).trans (show kl_skylightref05_Sin_0 q j low up x0 x1 x2 x3 x8 x9 x10 x11 x12 x13 x14 x15 x16 x17 x18 x19 x20 x21 x22 x23 x24 x25 x26 x27 x28 x29 x30 x31 x32 x33 x34 x35 x36 x37 x38 x39 x40 x41 h = _ from rfl))⟩
  rw [loopIterG, hr L q j low up x0 x1 x2 x3 x8 x9 x10 x11 x12 x13 x14 x15 x16 x17 x18 x19 x20 x21 x22 x23 x24 x25 x26 x27 x28 x29 x30 x31 x32 x33 x34 x35 x36 x37 x38 x39 x40 x41 h, Tr.run_bind, show (rd_skylightref05_Sin_0 q j low up x0 x1 x2 x3 x8 x9 x10 x11 x12 x13 x14 x15 x16 x17 x18 x19 x20 x21 x22 x23 x24 x25 x26 x27 x28 x29 x30 x31 x32 x33 x34 x35 x36 x37 x38 x39 x40 x41 h).run = some (.exit 0, sl_skylightref05_Sin_0_4 q j low up x0 x1 x2 x3 x8 x9 x10 x11 x12 x13 x14 x15 x16 x17 x18 x19 x20 x21 x22 x23 x24 x25 x26 x27 x28 x29 x30 x31 x32 x33 x34 x35 x36 x37 x38 x39 x40 x41 h) from (run_f c0).trans (rfl)]
  rfl
theorem core_skylightref05_Sin_0 (rnd : Nat → St → Tr (Ex × St)) (hr : HR_skylightref05_Sin_0 rnd) : ∀ (q : Int) (j : Int) (low : Int) (up : Int), (0 < low ∧ low ≤ 5368709120) ∧ (0 ≤ up ∧ up ≤ 70368744177664) ∧ (-1 ≤ j ∧ j ≤ 14) ∧ 0 ≤ q ∧ q * low ≤ up ∧ up < (q + 2 ^ (j + 1).toNat) * low ∧ q + 2 ^ (j + 1).toNat ≤ 32768 → Fin_skylightref05_Sin_0 rnd q j low up (.exit 0) [(6, i6 (up / low))] (fun h => h) := by
  have key : ∀ (m : Nat) (q j low up : Int), (j + 1).toNat = m → (0 < low ∧ low ≤ 5368709120) ∧ (0 ≤ up ∧ up ≤ 70368744177664) ∧ (-1 ≤ j ∧ j ≤ 14) ∧ 0 ≤ q ∧ q * low ≤ up ∧ up < (q + 2 ^ (j + 1).toNat) * low ∧ q + 2 ^ (j + 1).toNat ≤ 32768 → Fin_skylightref05_Sin_0 rnd q j low up (.exit 0) [(6, i6 (up / low))] (fun h => h) := by
    intro m
    induction m with
    | zero =>
      intro q j low up hm ⟨h1, h2, h3, h4, h5, h6, h7⟩
      rw [hm, Int.pow_zero] at h6
      have x1 : (q + 1) * low = low * q + low := by rw [Int.add_mul, Int.mul_comm q, Int.one_mul]
      have x2 : q * low = low * q := Int.mul_comm _ _
      refine stop_skylightref05_Sin_0_4 hr q j low up (decide_eq_false (by omega)) ?_ (fun h => rfl)
      intros
      rw [ediv_of (a := up) (b := low) (q := q) (r := up - low * q) (by omega) (by omega) (by omega)]; rfl
    | succ m ih =>
      intro q j low up hm ⟨h1, h2, h3, h4, h5, h6, h7⟩
      rw [hm] at h6 h7
      have hj : j.toNat = m := by omega
      have hp : min j.toNat 64 = m := by omega
      have hj1 : (j - 1 + 1).toNat = m := by omega
      have e2 : (2 : Int) ^ (m + 1) = 2 * 2 ^ m := by rw [Int.pow_succ, Int.mul_comm]
      have w1 : (1 : Int) ≤ 2 ^ m := by have := Int.pow_pos (n := 2) (m := m) (by decide); omega
      have hw : IntKind.i64.wrap (1 * 2 ^ min j.toNat 64) = 2 ^ m := by rw [hp, wrap_i64_id (by omega)]; omega
      have ih' := fun q' => ih q' (j - 1) low up hj1
      rw [hj1] at ih'
      rw [e2] at h6 h7
      generalize (2 : Int) ^ m = w at *
      have b1 := mul_mono (a := q + w) (b := 32768) (c := low) (d := 5368709120) (by omega) (by omega) (by omega) (by omega)
      have st := bit_step (q := q) (w := w) h6
      have hq : IntKind.i64.wrap (q + w) = q + w := wrap_i64_id (by omega)
      have hql : IntKind.i64.wrap ((q + w) * low) = (q + w) * low := wrap_i64_id (by omega)
      have hjm : IntKind.i64.wrap (j - 1) = j - 1 := wrap_i64_id (by omega)
      by_cases t : (q + w) * low ≤ up
      · refine step_skylightref05_Sin_0_2 hr q j low up (decide_eq_true (by omega)) (decide_eq_false (by omega)) (by rw [hw, hq, hql]; exact decide_eq_true t) (decide_eq_false (by omega)) ?_
        rw [hw, hq, hjm]
        exact ih' (q + w) ⟨h1, h2, by omega, by omega, t, st.1 t, by omega⟩
      · refine step_skylightref05_Sin_0_3 hr q j low up (decide_eq_true (by omega)) (decide_eq_false (by omega)) (by rw [hw, hq, hql]; exact decide_eq_false t) ?_
        rw [hjm]
        exact ih' q ⟨h1, h2, by omega, by omega, h5, st.2 t, by omega⟩
  exact fun q j low up hc => key _ q j low up rfl hc
theorem piece_skylightref05_Sin_0 {P : Program} {T : Table} {O' : Known} {f : FuncId} (hb : blockOf P f 0 = .loop (loopOf P f 0)) (hid : O' 0 = none)
    (hr : HR_skylightref05_Sin_0 (fun L => evCode P (evCall P T 16 1) L O' (loopOf P f 0))) :
    ∀ (s : St) (e : Ex) (outs : List (Nat × AV)) (hp : AH), s.tmps.length = 42 → (g_skylightref05_Sin_0 (([6, 7, 5, 4] : List Nat).map fun j => untag (s.tmps.getD j .undef)) (s.heap.map untagL)).run = some (e, outs, hp) → ∃ s', Good P T O' f 0 42 [6, 7, 25, 26, 27, 28, 29, 30, 31, 32, 33, 34, 35, 36, 37, 38, 39, 40] s e outs hp s' := by
  intro s e outs hp hk hg
  obtain ⟨tm, h⟩ := s
  have htm : untagL tm = [untag (tm.getD 0 .undef), untag (tm.getD 1 .undef), untag (tm.getD 2 .undef), untag (tm.getD 3 .undef), untag (tm.getD 4 .undef), untag (tm.getD 5 .undef), untag (tm.getD 6 .undef), untag (tm.getD 7 .undef), untag (tm.getD 8 .undef), untag (tm.getD 9 .undef), untag (tm.getD 10 .undef), untag (tm.getD 11 .undef), untag (tm.getD 12 .undef), untag (tm.getD 13 .undef), untag (tm.getD 14 .undef), untag (tm.getD 15 .undef), untag (tm.getD 16 .undef), untag (tm.getD 17 .undef), untag (tm.getD 18 .undef), untag (tm.getD 19 .undef), untag (tm.getD 20 .undef), untag (tm.getD 21 .undef), untag (tm.getD 22 .undef), untag (tm.getD 23 .undef), untag (tm.getD 24 .undef), untag (tm.getD 25 .undef), untag (tm.getD 26 .undef), untag (tm.getD 27 .undef), untag (tm.getD 28 .undef), untag (tm.getD 29 .undef), untag (tm.getD 30 .undef), untag (tm.getD 31 .undef), untag (tm.getD 32 .undef), untag (tm.getD 33 .undef), untag (tm.getD 34 .undef), untag (tm.getD 35 .undef), untag (tm.getD 36 .undef), untag (tm.getD 37 .undef), untag (tm.getD 38 .undef), untag (tm.getD 39 .undef), untag (tm.getD 40 .undef), untag (tm.getD 41 .undef)] := tmps_eq hk
  unfold g_skylightref05_Sin_0 at hg
  simp only [List.map_cons, List.map_nil] at hg
  split at hg
  · rename_i q j low up heq
    simp only [List.cons.injEq, and_true] at heq
    obtain ⟨e6, e7, e5, e4⟩ := heq
    simp only [Tr.run] at hg
    split at hg
    · rename_i hc
      simp only [Option.some.injEq, Prod.mk.injEq] at hg
      obtain ⟨rfl, rfl, rfl⟩ := hg
      rw [e6, e7, e5, e4] at htm
      obtain ⟨N, s', h1, h2⟩ := core_skylightref05_Sin_0 (fun L => evCode P (evCall P T 16 1) L O' (loopOf P f 0)) hr q j low up (of_decide_eq_true hc) (untag (tm.getD 0 .undef)) (untag (tm.getD 1 .undef)) (untag (tm.getD 2 .undef)) (untag (tm.getD 3 .undef)) (untag (tm.getD 8 .undef)) (untag (tm.getD 9 .undef)) (untag (tm.getD 10 .undef)) (untag (tm.getD 11 .undef)) (untag (tm.getD 12 .undef)) (untag (tm.getD 13 .undef)) (untag (tm.getD 14 .undef)) (untag (tm.getD 15 .undef)) (untag (tm.getD 16 .undef)) (untag (tm.getD 17 .undef)) (untag (tm.getD 18 .undef)) (untag (tm.getD 19 .undef)) (untag (tm.getD 20 .undef)) (untag (tm.getD 21 .undef)) (untag (tm.getD 22 .undef)) (untag (tm.getD 23 .undef)) (untag (tm.getD 24 .undef)) (untag (tm.getD 25 .undef)) (untag (tm.getD 26 .undef)) (untag (tm.getD 27 .undef)) (untag (tm.getD 28 .undef)) (untag (tm.getD 29 .undef)) (untag (tm.getD 30 .undef)) (untag (tm.getD 31 .undef)) (untag (tm.getD 32 .undef)) (untag (tm.getD 33 .undef)) (untag (tm.getD 34 .undef)) (untag (tm.getD 35 .undef)) (untag (tm.getD 36 .undef)) (untag (tm.getD 37 .undef)) (untag (tm.getD 38 .undef)) (untag (tm.getD 39 .undef)) (untag (tm.getD 40 .undef)) (untag (tm.getD 41 .undef)) (h.map untagL)
      exact ⟨s', good_loop (g := none) (e1 := .exit 0) hb (fun k e => by cases e) 16 1 N (by rw [htm]; exact h1) (by rw [htm]; exact h2)⟩
    · cases hg
  · cases hg

/-! skylightref05.Sin -/
def tr_skylightref05_Sin (a : Int) : Tr AV := Tr.node (decide (md a (65536 : Int) ≥ 32768)) (Tr.node (decide (IntKind.i64.wrap (md a 65536 - 32768) % (65536 : Int) < 32768)) (Tr.leaf (AV.int IntKind.i64 false (IntKind.i64.wrap (0 - sinT (IntKind.i64.wrap (md a 65536 - 32768)))))) Tr.bad) (Tr.node (decide ((0 < IntKind.i64.wrap (5368709120 - IntKind.i64.wrap (4 * IntKind.i64.wrap (md a 65536 * IntKind.i64.wrap (32768 - md a 65536)))) ∧ IntKind.i64.wrap (5368709120 - IntKind.i64.wrap (4 * IntKind.i64.wrap (md a 65536 * IntKind.i64.wrap (32768 - md a 65536)))) ≤ 5368709120) ∧ (0 ≤ IntKind.i64.wrap (262144 * IntKind.i64.wrap (md a 65536 * IntKind.i64.wrap (32768 - md a 65536))) ∧ IntKind.i64.wrap (262144 * IntKind.i64.wrap (md a 65536 * IntKind.i64.wrap (32768 - md a 65536))) ≤ 70368744177664) ∧ ((-1 : Int) ≤ 14 ∧ (14 : Int) ≤ 14) ∧ (0 : Int) ≤ 0 ∧ 0 * IntKind.i64.wrap (5368709120 - IntKind.i64.wrap (4 * IntKind.i64.wrap (md a 65536 * IntKind.i64.wrap (32768 - md a 65536)))) ≤ IntKind.i64.wrap (262144 * IntKind.i64.wrap (md a 65536 * IntKind.i64.wrap (32768 - md a 65536))) ∧ IntKind.i64.wrap (262144 * IntKind.i64.wrap (md a 65536 * IntKind.i64.wrap (32768 - md a 65536))) < 32768 * IntKind.i64.wrap (5368709120 - IntKind.i64.wrap (4 * IntKind.i64.wrap (md a 65536 * IntKind.i64.wrap (32768 - md a 65536)))) ∧ (32768 : Int) ≤ 32768)) (Tr.leaf (AV.int IntKind.i64 false (IntKind.i64.wrap (262144 * IntKind.i64.wrap (md a 65536 * IntKind.i64.wrap (32768 - md a 65536))) / IntKind.i64.wrap (5368709120 - IntKind.i64.wrap (4 * IntKind.i64.wrap (md a 65536 * IntKind.i64.wrap (32768 - md a 65536))))))) Tr.bad)
theorem run_skylightref05_Sin (a : Int) (h_a : InR .i64 a) : (tr_skylightref05_Sin a).run = some (i6 (sinT a)) := by
  unfold tr_skylightref05_Sin
  rw [md_64k]
  by_cases hc : 32768 ≤ a % 65536
  · refine (run_t (decide_eq_true hc)).trans ?_
    have r := bowN_r (a := a % 65536 - 32768) (by omega)
    rw [wrap_i64_id (n := a % 65536 - 32768) (by omega)]
    have e1 : sinT a = -(bowN (a % 65536 - 32768)) := by unfold sinT; rw [if_neg (by omega)]
    have e2 : sinT (a % 65536 - 32768) = bowN (a % 65536 - 32768) := by
      unfold sinT
      rw [show (a % 65536 - 32768) % 65536 = a % 65536 - 32768 by omega, if_pos (by omega)]
    refine (run_t (decide_eq_true (by omega))).trans ?_
    rw [e1, e2, wrap_i64_id (by omega)]
    show some (i6 (0 - _)) = some (i6 (-_))
    rw [Int.zero_sub]
  refine (run_f (decide_eq_false hc)).trans ?_
  
  have hb := bow_prog (a := a % 65536) (by omega)
  have ba := bowA_r (a := a % 65536) (by omega)
  have e : sinT a = bowN (a % 65536) := by unfold sinT; rw [if_pos (by omega)]
  rw [e]
  unfold bowN
  have hcr : 0 ≤ a % 65536 ∧ a % 65536 < 32768 := by omega
  generalize a % 65536 = c at *
  rw [wrap_i64_id (n := 32768 - c) (by omega)]
  generalize c * (32768 - c) = A at *
  rw [wrap_i64_id (n := A) (by omega), wrap_i64_id (n := 4 * A) (by omega), wrap_i64_id (n := 5368709120 - 4 * A) (by omega), wrap_i64_id (n := 262144 * A) (by omega)]
  refine run_t (decide_eq_true ?_)
  omega

/-! skylightref05.Cos -/
def tr_skylightref05_Cos (a : Int) : Tr AV := Tr.leaf (AV.int IntKind.i64 false (sinT (IntKind.i64.wrap (md a 65536 + 16384))))
theorem run_skylightref05_Cos (a : Int) (h_a : InR .i64 a) : (tr_skylightref05_Cos a).run = some (i6 (cosT a)) := by
  unfold tr_skylightref05_Cos
  rw [md_64k, wrap_i64_id (by omega)]; rfl

/-! spread.Ring -/
def tr_spread_Ring (r : Int) (a : Int) : Tr AV := Tr.node (decide (r < 0)) (Tr.leaf (AV.tuple [AV.int IntKind.i64 false 0, AV.int IntKind.i64 false 0])) (Tr.node (decide (r > 16384)) (Tr.leaf (AV.tuple [AV.int IntKind.i64 false 0, AV.int IntKind.i64 false 0])) (Tr.leaf (AV.tuple [AV.int IntKind.i64 false (dv (IntKind.i64.wrap (cosT a * r)) 16384), AV.int IntKind.i64 false (dv (IntKind.i64.wrap (sinT a * r)) 16384)])))
theorem run_spread_Ring (r : Int) (a : Int) (h_r : InR .i64 r) (h_a : InR .i64 a) : (tr_spread_Ring r a).run = some (.tuple [i6 (ringC (cosT a) r), i6 (ringC (sinT a) r)]) := by
  unfold tr_spread_Ring
  have c := cosT_r a; have s := sinT_r a
  unfold ringC
  refine run_guard (fun h => ?_) (fun h => ?_)
  · have h := of_decide_eq_true h
    rw [if_neg (by omega), if_neg (by omega)]; rfl
  refine run_guard (fun h1 => ?_) (fun h1 => ?_)
  · have h1 := of_decide_eq_true h1
    rw [if_neg (by omega), if_neg (by omega)]; rfl
  have h := of_decide_eq_false h; have h1 := of_decide_eq_false h1
  have k1 := mul_abs c (show -16384 ≤ r ∧ r ≤ 16384 by omega); have k2 := mul_abs s (show -16384 ≤ r ∧ r ≤ 16384 by omega)
  rw [if_pos (by omega), if_pos (by omega), wrap_i64_id (n := cosT a * r) (by omega), wrap_i64_id (n := sinT a * r) (by omega), dv_16384, dv_16384]
  rfl

/-! skylightref23.Ring -/
def tr_skylightref23_Ring (r : Int) (a : Int) : Tr AV := Tr.node (decide (r < 0)) (Tr.leaf (AV.tuple [AV.int IntKind.i64 false 0, AV.int IntKind.i64 false 0])) (Tr.node (decide (r > 16384)) (Tr.leaf (AV.tuple [AV.int IntKind.i64 false 0, AV.int IntKind.i64 false 0])) (Tr.leaf (AV.tuple [AV.int IntKind.i64 false (if (1 : Int) ≤ 16384 then IntKind.i64.wrap (cosT a * r) / 16384 else 0), AV.int IntKind.i64 false (if (1 : Int) ≤ 16384 then IntKind.i64.wrap (sinT a * r) / 16384 else 0)])))
theorem run_skylightref23_Ring (r : Int) (a : Int) (h_r : InR .i64 r) (h_a : InR .i64 a) : (tr_skylightref23_Ring r a).run = some (.tuple [i6 (ringC (cosT a) r), i6 (ringC (sinT a) r)]) := by
  unfold tr_skylightref23_Ring
  have t1 : (1 : Int) ≤ 16384 := by decide
  simp only [if_pos t1]
  have c := cosT_r a; have s := sinT_r a
  unfold ringC
  refine run_guard (fun h => ?_) (fun h => ?_)
  · have h := of_decide_eq_true h
    rw [if_neg (by omega), if_neg (by omega)]; rfl
  refine run_guard (fun h1 => ?_) (fun h1 => ?_)
  · have h1 := of_decide_eq_true h1
    rw [if_neg (by omega), if_neg (by omega)]; rfl
  have h := of_decide_eq_false h; have h1 := of_decide_eq_false h1
  have k1 := mul_abs c (show -16384 ≤ r ∧ r ≤ 16384 by omega); have k2 := mul_abs s (show -16384 ≤ r ∧ r ≤ 16384 by omega)
  rw [if_pos (by omega), if_pos (by omega), wrap_i64_id (n := cosT a * r) (by omega), wrap_i64_id (n := sinT a * r) (by omega)]
  rfl

/-! spread.Disc -/
def tr_spread_Disc (u : Int) (a : Int) : Tr AV := Tr.leaf (AV.tuple [AV.int IntKind.i64 false (ringC (cosT a) (isq (IntKind.u64.wrap (IntKind.i64.wrap (md u 65536 * 4096))))), AV.int IntKind.i64 false (ringC (sinT a) (isq (IntKind.u64.wrap (IntKind.i64.wrap (md u 65536 * 4096)))))])
theorem run_spread_Disc (u : Int) (a : Int) (h_u : InR .i64 u) (h_a : InR .i64 a) : (tr_spread_Disc u a).run = some (.tuple [i6 (ringC (cosT a) (discR u)), i6 (ringC (sinT a) (discR u))]) := by
  unfold tr_spread_Disc
  have h0 : IntKind.u64.wrap (IntKind.i64.wrap (md u 65536 * 4096)) = u % 65536 * 4096 := by rw [md_64k, wrap_i64_id (by omega), wrap_u64_id (by omega)]
  rw [h0]; rfl

/-! skylightref23.Disc -/
def tr_skylightref23_Disc (u : Int) (a : Int) : Tr AV := Tr.leaf (AV.tuple [AV.int IntKind.i64 false (ringC (cosT a) (isq (IntKind.u64.wrap (IntKind.i64.wrap (md u 65536 * 4096))))), AV.int IntKind.i64 false (ringC (sinT a) (isq (IntKind.u64.wrap (IntKind.i64.wrap (md u 65536 * 4096)))))])
theorem run_skylightref23_Disc (u : Int) (a : Int) (h_u : InR .i64 u) (h_a : InR .i64 a) : (tr_skylightref23_Disc u a).run = some (.tuple [i6 (ringC (cosT a) (discR u)), i6 (ringC (sinT a) (discR u))]) := by
  unfold tr_skylightref23_Disc
  have h0 : IntKind.u64.wrap (IntKind.i64.wrap (md u 65536 * 4096)) = u % 65536 * 4096 := by rw [md_64k, wrap_i64_id (by omega), wrap_u64_id (by omega)]
  rw [h0]; rfl

/-! spread.Up -/
def tr_spread_Up (z : Int) (a : Int) : Tr AV := Tr.node (decide (z < -16384)) (Tr.leaf (AV.agg [AV.int IntKind.i64 false 0, AV.int IntKind.i64 false 0, AV.int IntKind.i64 false 0])) (Tr.node (decide (z > 16384)) (Tr.leaf (AV.agg [AV.int IntKind.i64 false 0, AV.int IntKind.i64 false 0, AV.int IntKind.i64 false 0])) (Tr.leaf (AV.agg [AV.int IntKind.i64 false (ringC (cosT a) (isq (IntKind.u64.wrap (IntKind.i64.wrap (268435456 - IntKind.i64.wrap (z * z)))))), AV.int IntKind.i64 false (ringC (sinT a) (isq (IntKind.u64.wrap (IntKind.i64.wrap (268435456 - IntKind.i64.wrap (z * z)))))), AV.int IntKind.i64 false z])))
theorem run_spread_Up (z : Int) (a : Int) (h_z : InR .i64 z) (h_a : InR .i64 a) : (tr_spread_Up z a).run = some (v3 (upC (cosT a) z) (upC (sinT a) z) (upZ z)) := by
  unfold tr_spread_Up
  refine run_guard (fun h => ?_) (fun h => ?_)
  · have h := of_decide_eq_true h
    unfold upC upZ; rw [if_neg (by omega), if_neg (by omega), if_neg (by omega)]; rfl
  refine run_guard (fun h1 => ?_) (fun h1 => ?_)
  · have h1 := of_decide_eq_true h1
    unfold upC upZ; rw [if_neg (by omega), if_neg (by omega), if_neg (by omega)]; rfl
  have h := of_decide_eq_false h; have h1 := of_decide_eq_false h1
  have k := mul_abs (show -16384 ≤ z ∧ z ≤ 16384 by omega) (show -16384 ≤ z ∧ z ≤ 16384 by omega)
  have k2 := sq_nonneg z
  unfold upC upZ
  rw [if_pos (by omega), if_pos (by omega), if_pos (by omega), wrap_i64_id (n := z * z) (by omega), wrap_i64_id (n := 268435456 - z * z) (by omega), wrap_u64_id (n := 268435456 - z * z) (by omega)]
  rfl

/-! skylightref23.Up -/
def tr_skylightref23_Up (z : Int) (a : Int) : Tr AV := Tr.node (decide (z < -16384)) (Tr.leaf (AV.agg [AV.int IntKind.i64 false 0, AV.int IntKind.i64 false 0, AV.int IntKind.i64 false 0])) (Tr.node (decide (z > 16384)) (Tr.leaf (AV.agg [AV.int IntKind.i64 false 0, AV.int IntKind.i64 false 0, AV.int IntKind.i64 false 0])) (Tr.leaf (AV.agg [AV.int IntKind.i64 false (ringC (cosT a) (isq (IntKind.u64.wrap (IntKind.i64.wrap (268435456 - IntKind.i64.wrap (z * z)))))), AV.int IntKind.i64 false (ringC (sinT a) (isq (IntKind.u64.wrap (IntKind.i64.wrap (268435456 - IntKind.i64.wrap (z * z)))))), AV.int IntKind.i64 false z])))
theorem run_skylightref23_Up (z : Int) (a : Int) (h_z : InR .i64 z) (h_a : InR .i64 a) : (tr_skylightref23_Up z a).run = some (v3 (upC (cosT a) z) (upC (sinT a) z) (upZ z)) := by
  unfold tr_skylightref23_Up
  refine run_guard (fun h => ?_) (fun h => ?_)
  · have h := of_decide_eq_true h
    unfold upC upZ; rw [if_neg (by omega), if_neg (by omega), if_neg (by omega)]; rfl
  refine run_guard (fun h1 => ?_) (fun h1 => ?_)
  · have h1 := of_decide_eq_true h1
    unfold upC upZ; rw [if_neg (by omega), if_neg (by omega), if_neg (by omega)]; rfl
  have h := of_decide_eq_false h; have h1 := of_decide_eq_false h1
  have k := mul_abs (show -16384 ≤ z ∧ z ≤ 16384 by omega) (show -16384 ≤ z ∧ z ≤ 16384 by omega)
  have k2 := sq_nonneg z
  unfold upC upZ
  rw [if_pos (by omega), if_pos (by omega), if_pos (by omega), wrap_i64_id (n := z * z) (by omega), wrap_i64_id (n := 268435456 - z * z) (by omega), wrap_u64_id (n := 268435456 - z * z) (by omega)]
  rfl

end Go.Sky

/- Trees of functions, and what they come to. -/
set_option linter.unusedSimpArgs false
set_option linter.unusedVariables false
namespace Go.Sky
set_option maxRecDepth 100000

/-! basis.Of -/
def tr_basis_Of (n_x : Int) (n_y : Int) (n_z : Int) : Tr AV := Tr.node (!okU n_x n_y n_z) (Tr.leaf (AV.tuple [AV.agg [i6 0, i6 0, i6 0, i6 0, i6 0, i6 0, i6 0, i6 0, i6 0], AV.bool false false])) (Tr.node (decide (mm true (dotN (unitC n_x n_y n_z n_x) (unitC n_x n_y n_z n_y) (unitC n_x n_y n_z n_z) 1 0 0) (IntKind.i64.wrap (0 - dotN (unitC n_x n_y n_z n_x) (unitC n_x n_y n_z n_y) (unitC n_x n_y n_z n_z) 1 0 0)) < mm true (dotN (unitC n_x n_y n_z n_x) (unitC n_x n_y n_z n_y) (unitC n_x n_y n_z n_z) 1 0 0) (IntKind.i64.wrap (0 - dotN (unitC n_x n_y n_z n_x) (unitC n_x n_y n_z n_y) (unitC n_x n_y n_z n_z) 1 0 0)))) (Tr.node (decide (mm true (dotN (unitC n_x n_y n_z n_x) (unitC n_x n_y n_z n_y) (unitC n_x n_y n_z n_z) 0 1 0) (IntKind.i64.wrap (0 - dotN (unitC n_x n_y n_z n_x) (unitC n_x n_y n_z n_y) (unitC n_x n_y n_z n_z) 0 1 0)) < mm true (dotN (unitC n_x n_y n_z n_x) (unitC n_x n_y n_z n_y) (unitC n_x n_y n_z n_z) 1 0 0) (IntKind.i64.wrap (0 - dotN (unitC n_x n_y n_z n_x) (unitC n_x n_y n_z n_y) (unitC n_x n_y n_z n_z) 1 0 0)))) (Tr.node (decide (mm true (dotN (unitC n_x n_y n_z n_x) (unitC n_x n_y n_z n_y) (unitC n_x n_y n_z n_z) 0 0 1) (IntKind.i64.wrap (0 - dotN (unitC n_x n_y n_z n_x) (unitC n_x n_y n_z n_y) (unitC n_x n_y n_z n_z) 0 0 1)) < mm true (dotN (unitC n_x n_y n_z n_x) (unitC n_x n_y n_z n_y) (unitC n_x n_y n_z n_z) 0 1 0) (IntKind.i64.wrap (0 - dotN (unitC n_x n_y n_z n_x) (unitC n_x n_y n_z n_y) (unitC n_x n_y n_z n_z) 0 1 0)))) (Tr.leaf (AV.tuple [AV.agg [i6 ((unit3 (cross3 ⟨0, 0, 1⟩ (unit3 ⟨n_x, n_y, n_z⟩))).x), i6 ((unit3 (cross3 ⟨0, 0, 1⟩ (unit3 ⟨n_x, n_y, n_z⟩))).y), i6 ((unit3 (cross3 ⟨0, 0, 1⟩ (unit3 ⟨n_x, n_y, n_z⟩))).z), i6 ((unit3 (cross3 (unit3 ⟨n_x, n_y, n_z⟩) (unit3 (cross3 ⟨0, 0, 1⟩ (unit3 ⟨n_x, n_y, n_z⟩))))).x), i6 ((unit3 (cross3 (unit3 ⟨n_x, n_y, n_z⟩) (unit3 (cross3 ⟨0, 0, 1⟩ (unit3 ⟨n_x, n_y, n_z⟩))))).y), i6 ((unit3 (cross3 (unit3 ⟨n_x, n_y, n_z⟩) (unit3 (cross3 ⟨0, 0, 1⟩ (unit3 ⟨n_x, n_y, n_z⟩))))).z), i6 (unitC n_x n_y n_z n_x), i6 (unitC n_x n_y n_z n_y), i6 (unitC n_x n_y n_z n_z)], AV.bool false true])) (Tr.leaf (AV.tuple [AV.agg [i6 ((unit3 (cross3 ⟨0, 1, 0⟩ (unit3 ⟨n_x, n_y, n_z⟩))).x), i6 ((unit3 (cross3 ⟨0, 1, 0⟩ (unit3 ⟨n_x, n_y, n_z⟩))).y), i6 ((unit3 (cross3 ⟨0, 1, 0⟩ (unit3 ⟨n_x, n_y, n_z⟩))).z), i6 ((unit3 (cross3 (unit3 ⟨n_x, n_y, n_z⟩) (unit3 (cross3 ⟨0, 1, 0⟩ (unit3 ⟨n_x, n_y, n_z⟩))))).x), i6 ((unit3 (cross3 (unit3 ⟨n_x, n_y, n_z⟩) (unit3 (cross3 ⟨0, 1, 0⟩ (unit3 ⟨n_x, n_y, n_z⟩))))).y), i6 ((unit3 (cross3 (unit3 ⟨n_x, n_y, n_z⟩) (unit3 (cross3 ⟨0, 1, 0⟩ (unit3 ⟨n_x, n_y, n_z⟩))))).z), i6 (unitC n_x n_y n_z n_x), i6 (unitC n_x n_y n_z n_y), i6 (unitC n_x n_y n_z n_z)], AV.bool false true]))) (Tr.node (decide (mm true (dotN (unitC n_x n_y n_z n_x) (unitC n_x n_y n_z n_y) (unitC n_x n_y n_z n_z) 0 0 1) (IntKind.i64.wrap (0 - dotN (unitC n_x n_y n_z n_x) (unitC n_x n_y n_z n_y) (unitC n_x n_y n_z n_z) 0 0 1)) < mm true (dotN (unitC n_x n_y n_z n_x) (unitC n_x n_y n_z n_y) (unitC n_x n_y n_z n_z) 1 0 0) (IntKind.i64.wrap (0 - dotN (unitC n_x n_y n_z n_x) (unitC n_x n_y n_z n_y) (unitC n_x n_y n_z n_z) 1 0 0)))) (Tr.leaf (AV.tuple [AV.agg [i6 ((unit3 (cross3 ⟨0, 0, 1⟩ (unit3 ⟨n_x, n_y, n_z⟩))).x), i6 ((unit3 (cross3 ⟨0, 0, 1⟩ (unit3 ⟨n_x, n_y, n_z⟩))).y), i6 ((unit3 (cross3 ⟨0, 0, 1⟩ (unit3 ⟨n_x, n_y, n_z⟩))).z), i6 ((unit3 (cross3 (unit3 ⟨n_x, n_y, n_z⟩) (unit3 (cross3 ⟨0, 0, 1⟩ (unit3 ⟨n_x, n_y, n_z⟩))))).x), i6 ((unit3 (cross3 (unit3 ⟨n_x, n_y, n_z⟩) (unit3 (cross3 ⟨0, 0, 1⟩ (unit3 ⟨n_x, n_y, n_z⟩))))).y), i6 ((unit3 (cross3 (unit3 ⟨n_x, n_y, n_z⟩) (unit3 (cross3 ⟨0, 0, 1⟩ (unit3 ⟨n_x, n_y, n_z⟩))))).z), i6 (unitC n_x n_y n_z n_x), i6 (unitC n_x n_y n_z n_y), i6 (unitC n_x n_y n_z n_z)], AV.bool false true])) (Tr.leaf (AV.tuple [AV.agg [i6 ((unit3 (cross3 ⟨1, 0, 0⟩ (unit3 ⟨n_x, n_y, n_z⟩))).x), i6 ((unit3 (cross3 ⟨1, 0, 0⟩ (unit3 ⟨n_x, n_y, n_z⟩))).y), i6 ((unit3 (cross3 ⟨1, 0, 0⟩ (unit3 ⟨n_x, n_y, n_z⟩))).z), i6 ((unit3 (cross3 (unit3 ⟨n_x, n_y, n_z⟩) (unit3 (cross3 ⟨1, 0, 0⟩ (unit3 ⟨n_x, n_y, n_z⟩))))).x), i6 ((unit3 (cross3 (unit3 ⟨n_x, n_y, n_z⟩) (unit3 (cross3 ⟨1, 0, 0⟩ (unit3 ⟨n_x, n_y, n_z⟩))))).y), i6 ((unit3 (cross3 (unit3 ⟨n_x, n_y, n_z⟩) (unit3 (cross3 ⟨1, 0, 0⟩ (unit3 ⟨n_x, n_y, n_z⟩))))).z), i6 (unitC n_x n_y n_z n_x), i6 (unitC n_x n_y n_z n_y), i6 (unitC n_x n_y n_z n_z)], AV.bool false true])))) (Tr.node (decide (mm true (dotN (unitC n_x n_y n_z n_x) (unitC n_x n_y n_z n_y) (unitC n_x n_y n_z n_z) 0 1 0) (IntKind.i64.wrap (0 - dotN (unitC n_x n_y n_z n_x) (unitC n_x n_y n_z n_y) (unitC n_x n_y n_z n_z) 0 1 0)) < mm true (dotN (unitC n_x n_y n_z n_x) (unitC n_x n_y n_z n_y) (unitC n_x n_y n_z n_z) 1 0 0) (IntKind.i64.wrap (0 - dotN (unitC n_x n_y n_z n_x) (unitC n_x n_y n_z n_y) (unitC n_x n_y n_z n_z) 1 0 0)))) (Tr.node (decide (mm true (dotN (unitC n_x n_y n_z n_x) (unitC n_x n_y n_z n_y) (unitC n_x n_y n_z n_z) 0 0 1) (IntKind.i64.wrap (0 - dotN (unitC n_x n_y n_z n_x) (unitC n_x n_y n_z n_y) (unitC n_x n_y n_z n_z) 0 0 1)) < mm true (dotN (unitC n_x n_y n_z n_x) (unitC n_x n_y n_z n_y) (unitC n_x n_y n_z n_z) 0 1 0) (IntKind.i64.wrap (0 - dotN (unitC n_x n_y n_z n_x) (unitC n_x n_y n_z n_y) (unitC n_x n_y n_z n_z) 0 1 0)))) (Tr.leaf (AV.tuple [AV.agg [i6 ((unit3 (cross3 ⟨0, 0, 1⟩ (unit3 ⟨n_x, n_y, n_z⟩))).x), i6 ((unit3 (cross3 ⟨0, 0, 1⟩ (unit3 ⟨n_x, n_y, n_z⟩))).y), i6 ((unit3 (cross3 ⟨0, 0, 1⟩ (unit3 ⟨n_x, n_y, n_z⟩))).z), i6 ((unit3 (cross3 (unit3 ⟨n_x, n_y, n_z⟩) (unit3 (cross3 ⟨0, 0, 1⟩ (unit3 ⟨n_x, n_y, n_z⟩))))).x), i6 ((unit3 (cross3 (unit3 ⟨n_x, n_y, n_z⟩) (unit3 (cross3 ⟨0, 0, 1⟩ (unit3 ⟨n_x, n_y, n_z⟩))))).y), i6 ((unit3 (cross3 (unit3 ⟨n_x, n_y, n_z⟩) (unit3 (cross3 ⟨0, 0, 1⟩ (unit3 ⟨n_x, n_y, n_z⟩))))).z), i6 (unitC n_x n_y n_z n_x), i6 (unitC n_x n_y n_z n_y), i6 (unitC n_x n_y n_z n_z)], AV.bool false true])) (Tr.leaf (AV.tuple [AV.agg [i6 ((unit3 (cross3 ⟨0, 1, 0⟩ (unit3 ⟨n_x, n_y, n_z⟩))).x), i6 ((unit3 (cross3 ⟨0, 1, 0⟩ (unit3 ⟨n_x, n_y, n_z⟩))).y), i6 ((unit3 (cross3 ⟨0, 1, 0⟩ (unit3 ⟨n_x, n_y, n_z⟩))).z), i6 ((unit3 (cross3 (unit3 ⟨n_x, n_y, n_z⟩) (unit3 (cross3 ⟨0, 1, 0⟩ (unit3 ⟨n_x, n_y, n_z⟩))))).x), i6 ((unit3 (cross3 (unit3 ⟨n_x, n_y, n_z⟩) (unit3 (cross3 ⟨0, 1, 0⟩ (unit3 ⟨n_x, n_y, n_z⟩))))).y), i6 ((unit3 (cross3 (unit3 ⟨n_x, n_y, n_z⟩) (unit3 (cross3 ⟨0, 1, 0⟩ (unit3 ⟨n_x, n_y, n_z⟩))))).z), i6 (unitC n_x n_y n_z n_x), i6 (unitC n_x n_y n_z n_y), i6 (unitC n_x n_y n_z n_z)], AV.bool false true]))) (Tr.node (decide (mm true (dotN (unitC n_x n_y n_z n_x) (unitC n_x n_y n_z n_y) (unitC n_x n_y n_z n_z) 0 0 1) (IntKind.i64.wrap (0 - dotN (unitC n_x n_y n_z n_x) (unitC n_x n_y n_z n_y) (unitC n_x n_y n_z n_z) 0 0 1)) < mm true (dotN (unitC n_x n_y n_z n_x) (unitC n_x n_y n_z n_y) (unitC n_x n_y n_z n_z) 1 0 0) (IntKind.i64.wrap (0 - dotN (unitC n_x n_y n_z n_x) (unitC n_x n_y n_z n_y) (unitC n_x n_y n_z n_z) 1 0 0)))) (Tr.leaf (AV.tuple [AV.agg [i6 ((unit3 (cross3 ⟨0, 0, 1⟩ (unit3 ⟨n_x, n_y, n_z⟩))).x), i6 ((unit3 (cross3 ⟨0, 0, 1⟩ (unit3 ⟨n_x, n_y, n_z⟩))).y), i6 ((unit3 (cross3 ⟨0, 0, 1⟩ (unit3 ⟨n_x, n_y, n_z⟩))).z), i6 ((unit3 (cross3 (unit3 ⟨n_x, n_y, n_z⟩) (unit3 (cross3 ⟨0, 0, 1⟩ (unit3 ⟨n_x, n_y, n_z⟩))))).x), i6 ((unit3 (cross3 (unit3 ⟨n_x, n_y, n_z⟩) (unit3 (cross3 ⟨0, 0, 1⟩ (unit3 ⟨n_x, n_y, n_z⟩))))).y), i6 ((unit3 (cross3 (unit3 ⟨n_x, n_y, n_z⟩) (unit3 (cross3 ⟨0, 0, 1⟩ (unit3 ⟨n_x, n_y, n_z⟩))))).z), i6 (unitC n_x n_y n_z n_x), i6 (unitC n_x n_y n_z n_y), i6 (unitC n_x n_y n_z n_z)], AV.bool false true])) (Tr.leaf (AV.tuple [AV.agg [i6 ((unit3 (cross3 ⟨1, 0, 0⟩ (unit3 ⟨n_x, n_y, n_z⟩))).x), i6 ((unit3 (cross3 ⟨1, 0, 0⟩ (unit3 ⟨n_x, n_y, n_z⟩))).y), i6 ((unit3 (cross3 ⟨1, 0, 0⟩ (unit3 ⟨n_x, n_y, n_z⟩))).z), i6 ((unit3 (cross3 (unit3 ⟨n_x, n_y, n_z⟩) (unit3 (cross3 ⟨1, 0, 0⟩ (unit3 ⟨n_x, n_y, n_z⟩))))).x), i6 ((unit3 (cross3 (unit3 ⟨n_x, n_y, n_z⟩) (unit3 (cross3 ⟨1, 0, 0⟩ (unit3 ⟨n_x, n_y, n_z⟩))))).y), i6 ((unit3 (cross3 (unit3 ⟨n_x, n_y, n_z⟩) (unit3 (cross3 ⟨1, 0, 0⟩ (unit3 ⟨n_x, n_y, n_z⟩))))).z), i6 (unitC n_x n_y n_z n_x), i6 (unitC n_x n_y n_z n_y), i6 (unitC n_x n_y n_z n_z)], AV.bool false true])))))
theorem run_basis_Of (n_x : Int) (n_y : Int) (n_z : Int) (h_n_x : InR .i64 n_x) (h_n_y : InR .i64 n_y) (h_n_z : InR .i64 n_z) : (tr_basis_Of n_x n_y n_z).run = some (.tuple [.agg [i6 (basU ⟨n_x, n_y, n_z⟩).x, i6 (basU ⟨n_x, n_y, n_z⟩).y, i6 (basU ⟨n_x, n_y, n_z⟩).z, i6 (basV ⟨n_x, n_y, n_z⟩).x, i6 (basV ⟨n_x, n_y, n_z⟩).y, i6 (basV ⟨n_x, n_y, n_z⟩).z, i6 (basN ⟨n_x, n_y, n_z⟩).x, i6 (basN ⟨n_x, n_y, n_z⟩).y, i6 (basN ⟨n_x, n_y, n_z⟩).z], bb (ok3 ⟨n_x, n_y, n_z⟩)]) := by
  unfold tr_basis_Of
  cases hok : okU n_x n_y n_z
  · obtain ⟨b1, b2, b3⟩ := bas_no (ok3_no hok)
    rw [b1, b2, b3, ok3_no hok]; rfl
  have hn := unit_near hok
  obtain ⟨b1, b2, b3⟩ := bas_yes (ok3_yes hok)
  rw [b1, b2, b3, ok3_yes hok]
  refine (run_f rfl).trans ?_
  have r := near_r hn
  simp only [reach_x hn, reach_y hn, reach_z hn, sz_max r.1, sz_max r.2.1, sz_max r.2.2]
  have ax : axis3 (unit3 ⟨n_x, n_y, n_z⟩) = if sz (unitC n_x n_y n_z n_x) ≤ sz (unitC n_x n_y n_z n_y) ∧ sz (unitC n_x n_y n_z n_x) ≤ sz (unitC n_x n_y n_z n_z) then ⟨1, 0, 0⟩ else if sz (unitC n_x n_y n_z n_y) ≤ sz (unitC n_x n_y n_z n_z) then ⟨0, 1, 0⟩ else ⟨0, 0, 1⟩ := rfl
  have aX : (sz (unitC n_x n_y n_z n_x) ≤ sz (unitC n_x n_y n_z n_y) ∧ sz (unitC n_x n_y n_z n_x) ≤ sz (unitC n_x n_y n_z n_z)) → axis3 (unit3 ⟨n_x, n_y, n_z⟩) = ⟨1, 0, 0⟩ := fun h => by rw [ax, if_pos h]
  have aY : ¬ (sz (unitC n_x n_y n_z n_x) ≤ sz (unitC n_x n_y n_z n_y) ∧ sz (unitC n_x n_y n_z n_x) ≤ sz (unitC n_x n_y n_z n_z)) → sz (unitC n_x n_y n_z n_y) ≤ sz (unitC n_x n_y n_z n_z) → axis3 (unit3 ⟨n_x, n_y, n_z⟩) = ⟨0, 1, 0⟩ := fun h1 h2 => by rw [ax, if_neg h1, if_pos h2]
  have aZ : ¬ (sz (unitC n_x n_y n_z n_x) ≤ sz (unitC n_x n_y n_z n_y) ∧ sz (unitC n_x n_y n_z n_x) ≤ sz (unitC n_x n_y n_z n_z)) → ¬ sz (unitC n_x n_y n_z n_y) ≤ sz (unitC n_x n_y n_z n_z) → axis3 (unit3 ⟨n_x, n_y, n_z⟩) = ⟨0, 0, 1⟩ := fun h1 h2 => by rw [ax, if_neg h1, if_neg h2]
  clear ax
  (repeat' (refine run_guard (fun _ => ?_) (fun _ => ?_)))
  all_goals (simp only [decide_eq_true_eq, decide_eq_false_iff_not] at *)
  all_goals first | (exfalso; omega) | (rw [aX (by omega)]; rfl) | (rw [aY (by omega) (by omega)]; rfl) | (rw [aZ (by omega) (by omega)]; rfl)

/-! skylightref07.Of -/
def tr_skylightref07_Of (n_x : Int) (n_y : Int) (n_z : Int) : Tr AV := Tr.node (!okU n_x n_y n_z) (Tr.leaf (AV.tuple [AV.agg [i6 0, i6 0, i6 0, i6 0, i6 0, i6 0, i6 0, i6 0, i6 0], AV.bool false false])) (Tr.node (decide (mm true (unitC n_x n_y n_z n_x) (IntKind.i64.wrap (0 - unitC n_x n_y n_z n_x)) ≤ mm true (unitC n_x n_y n_z n_y) (IntKind.i64.wrap (0 - unitC n_x n_y n_z n_y)))) (Tr.node (decide (mm true (unitC n_x n_y n_z n_x) (IntKind.i64.wrap (0 - unitC n_x n_y n_z n_x)) ≤ mm true (unitC n_x n_y n_z n_z) (IntKind.i64.wrap (0 - unitC n_x n_y n_z n_z)))) (Tr.leaf (AV.tuple [AV.agg [i6 ((unit3 (cross3 ⟨1, 0, 0⟩ (unit3 ⟨n_x, n_y, n_z⟩))).x), i6 ((unit3 (cross3 ⟨1, 0, 0⟩ (unit3 ⟨n_x, n_y, n_z⟩))).y), i6 ((unit3 (cross3 ⟨1, 0, 0⟩ (unit3 ⟨n_x, n_y, n_z⟩))).z), i6 ((unit3 (cross3 (unit3 ⟨n_x, n_y, n_z⟩) (unit3 (cross3 ⟨1, 0, 0⟩ (unit3 ⟨n_x, n_y, n_z⟩))))).x), i6 ((unit3 (cross3 (unit3 ⟨n_x, n_y, n_z⟩) (unit3 (cross3 ⟨1, 0, 0⟩ (unit3 ⟨n_x, n_y, n_z⟩))))).y), i6 ((unit3 (cross3 (unit3 ⟨n_x, n_y, n_z⟩) (unit3 (cross3 ⟨1, 0, 0⟩ (unit3 ⟨n_x, n_y, n_z⟩))))).z), i6 (unitC n_x n_y n_z n_x), i6 (unitC n_x n_y n_z n_y), i6 (unitC n_x n_y n_z n_z)], AV.bool false true])) (Tr.node (decide (mm true (unitC n_x n_y n_z n_y) (IntKind.i64.wrap (0 - unitC n_x n_y n_z n_y)) ≤ mm true (unitC n_x n_y n_z n_z) (IntKind.i64.wrap (0 - unitC n_x n_y n_z n_z)))) (Tr.leaf (AV.tuple [AV.agg [i6 ((unit3 (cross3 ⟨0, 1, 0⟩ (unit3 ⟨n_x, n_y, n_z⟩))).x), i6 ((unit3 (cross3 ⟨0, 1, 0⟩ (unit3 ⟨n_x, n_y, n_z⟩))).y), i6 ((unit3 (cross3 ⟨0, 1, 0⟩ (unit3 ⟨n_x, n_y, n_z⟩))).z), i6 ((unit3 (cross3 (unit3 ⟨n_x, n_y, n_z⟩) (unit3 (cross3 ⟨0, 1, 0⟩ (unit3 ⟨n_x, n_y, n_z⟩))))).x), i6 ((unit3 (cross3 (unit3 ⟨n_x, n_y, n_z⟩) (unit3 (cross3 ⟨0, 1, 0⟩ (unit3 ⟨n_x, n_y, n_z⟩))))).y), i6 ((unit3 (cross3 (unit3 ⟨n_x, n_y, n_z⟩) (unit3 (cross3 ⟨0, 1, 0⟩ (unit3 ⟨n_x, n_y, n_z⟩))))).z), i6 (unitC n_x n_y n_z n_x), i6 (unitC n_x n_y n_z n_y), i6 (unitC n_x n_y n_z n_z)], AV.bool false true])) (Tr.leaf (AV.tuple [AV.agg [i6 ((unit3 (cross3 ⟨0, 0, 1⟩ (unit3 ⟨n_x, n_y, n_z⟩))).x), i6 ((unit3 (cross3 ⟨0, 0, 1⟩ (unit3 ⟨n_x, n_y, n_z⟩))).y), i6 ((unit3 (cross3 ⟨0, 0, 1⟩ (unit3 ⟨n_x, n_y, n_z⟩))).z), i6 ((unit3 (cross3 (unit3 ⟨n_x, n_y, n_z⟩) (unit3 (cross3 ⟨0, 0, 1⟩ (unit3 ⟨n_x, n_y, n_z⟩))))).x), i6 ((unit3 (cross3 (unit3 ⟨n_x, n_y, n_z⟩) (unit3 (cross3 ⟨0, 0, 1⟩ (unit3 ⟨n_x, n_y, n_z⟩))))).y), i6 ((unit3 (cross3 (unit3 ⟨n_x, n_y, n_z⟩) (unit3 (cross3 ⟨0, 0, 1⟩ (unit3 ⟨n_x, n_y, n_z⟩))))).z), i6 (unitC n_x n_y n_z n_x), i6 (unitC n_x n_y n_z n_y), i6 (unitC n_x n_y n_z n_z)], AV.bool false true])))) (Tr.node (decide (mm true (unitC n_x n_y n_z n_y) (IntKind.i64.wrap (0 - unitC n_x n_y n_z n_y)) ≤ mm true (unitC n_x n_y n_z n_z) (IntKind.i64.wrap (0 - unitC n_x n_y n_z n_z)))) (Tr.leaf (AV.tuple [AV.agg [i6 ((unit3 (cross3 ⟨0, 1, 0⟩ (unit3 ⟨n_x, n_y, n_z⟩))).x), i6 ((unit3 (cross3 ⟨0, 1, 0⟩ (unit3 ⟨n_x, n_y, n_z⟩))).y), i6 ((unit3 (cross3 ⟨0, 1, 0⟩ (unit3 ⟨n_x, n_y, n_z⟩))).z), i6 ((unit3 (cross3 (unit3 ⟨n_x, n_y, n_z⟩) (unit3 (cross3 ⟨0, 1, 0⟩ (unit3 ⟨n_x, n_y, n_z⟩))))).x), i6 ((unit3 (cross3 (unit3 ⟨n_x, n_y, n_z⟩) (unit3 (cross3 ⟨0, 1, 0⟩ (unit3 ⟨n_x, n_y, n_z⟩))))).y), i6 ((unit3 (cross3 (unit3 ⟨n_x, n_y, n_z⟩) (unit3 (cross3 ⟨0, 1, 0⟩ (unit3 ⟨n_x, n_y, n_z⟩))))).z), i6 (unitC n_x n_y n_z n_x), i6 (unitC n_x n_y n_z n_y), i6 (unitC n_x n_y n_z n_z)], AV.bool false true])) (Tr.leaf (AV.tuple [AV.agg [i6 ((unit3 (cross3 ⟨0, 0, 1⟩ (unit3 ⟨n_x, n_y, n_z⟩))).x), i6 ((unit3 (cross3 ⟨0, 0, 1⟩ (unit3 ⟨n_x, n_y, n_z⟩))).y), i6 ((unit3 (cross3 ⟨0, 0, 1⟩ (unit3 ⟨n_x, n_y, n_z⟩))).z), i6 ((unit3 (cross3 (unit3 ⟨n_x, n_y, n_z⟩) (unit3 (cross3 ⟨0, 0, 1⟩ (unit3 ⟨n_x, n_y, n_z⟩))))).x), i6 ((unit3 (cross3 (unit3 ⟨n_x, n_y, n_z⟩) (unit3 (cross3 ⟨0, 0, 1⟩ (unit3 ⟨n_x, n_y, n_z⟩))))).y), i6 ((unit3 (cross3 (unit3 ⟨n_x, n_y, n_z⟩) (unit3 (cross3 ⟨0, 0, 1⟩ (unit3 ⟨n_x, n_y, n_z⟩))))).z), i6 (unitC n_x n_y n_z n_x), i6 (unitC n_x n_y n_z n_y), i6 (unitC n_x n_y n_z n_z)], AV.bool false true]))))
theorem run_skylightref07_Of (n_x : Int) (n_y : Int) (n_z : Int) (h_n_x : InR .i64 n_x) (h_n_y : InR .i64 n_y) (h_n_z : InR .i64 n_z) : (tr_skylightref07_Of n_x n_y n_z).run = some (.tuple [.agg [i6 (basU ⟨n_x, n_y, n_z⟩).x, i6 (basU ⟨n_x, n_y, n_z⟩).y, i6 (basU ⟨n_x, n_y, n_z⟩).z, i6 (basV ⟨n_x, n_y, n_z⟩).x, i6 (basV ⟨n_x, n_y, n_z⟩).y, i6 (basV ⟨n_x, n_y, n_z⟩).z, i6 (basN ⟨n_x, n_y, n_z⟩).x, i6 (basN ⟨n_x, n_y, n_z⟩).y, i6 (basN ⟨n_x, n_y, n_z⟩).z], bb (ok3 ⟨n_x, n_y, n_z⟩)]) := by
  unfold tr_skylightref07_Of
  cases hok : okU n_x n_y n_z
  · obtain ⟨b1, b2, b3⟩ := bas_no (ok3_no hok)
    rw [b1, b2, b3, ok3_no hok]; rfl
  have hn := unit_near hok
  obtain ⟨b1, b2, b3⟩ := bas_yes (ok3_yes hok)
  rw [b1, b2, b3, ok3_yes hok]
  refine (run_f rfl).trans ?_
  have r := near_r hn
  simp only [sz_max r.1, sz_max r.2.1, sz_max r.2.2]
  have ax : axis3 (unit3 ⟨n_x, n_y, n_z⟩) = if sz (unitC n_x n_y n_z n_x) ≤ sz (unitC n_x n_y n_z n_y) ∧ sz (unitC n_x n_y n_z n_x) ≤ sz (unitC n_x n_y n_z n_z) then ⟨1, 0, 0⟩ else if sz (unitC n_x n_y n_z n_y) ≤ sz (unitC n_x n_y n_z n_z) then ⟨0, 1, 0⟩ else ⟨0, 0, 1⟩ := rfl
  have aX : (sz (unitC n_x n_y n_z n_x) ≤ sz (unitC n_x n_y n_z n_y) ∧ sz (unitC n_x n_y n_z n_x) ≤ sz (unitC n_x n_y n_z n_z)) → axis3 (unit3 ⟨n_x, n_y, n_z⟩) = ⟨1, 0, 0⟩ := fun h => by rw [ax, if_pos h]
  have aY : ¬ (sz (unitC n_x n_y n_z n_x) ≤ sz (unitC n_x n_y n_z n_y) ∧ sz (unitC n_x n_y n_z n_x) ≤ sz (unitC n_x n_y n_z n_z)) → sz (unitC n_x n_y n_z n_y) ≤ sz (unitC n_x n_y n_z n_z) → axis3 (unit3 ⟨n_x, n_y, n_z⟩) = ⟨0, 1, 0⟩ := fun h1 h2 => by rw [ax, if_neg h1, if_pos h2]
  have aZ : ¬ (sz (unitC n_x n_y n_z n_x) ≤ sz (unitC n_x n_y n_z n_y) ∧ sz (unitC n_x n_y n_z n_x) ≤ sz (unitC n_x n_y n_z n_z)) → ¬ sz (unitC n_x n_y n_z n_y) ≤ sz (unitC n_x n_y n_z n_z) → axis3 (unit3 ⟨n_x, n_y, n_z⟩) = ⟨0, 0, 1⟩ := fun h1 h2 => by rw [ax, if_neg h1, if_neg h2]
  clear ax
  (repeat' (refine run_guard (fun _ => ?_) (fun _ => ?_)))
  all_goals (simp only [decide_eq_true_eq, decide_eq_false_iff_not] at *)
  all_goals first | (exfalso; omega) | (rw [aX (by omega)]; rfl) | (rw [aY (by omega) (by omega)]; rfl) | (rw [aZ (by omega) (by omega)]; rfl)

end Go.Sky

/- Trees of functions, and what they come to. -/
set_option linter.unusedSimpArgs false
set_option linter.unusedVariables false
namespace Go.Sky
set_option maxRecDepth 100000

/-! (basis.Basis).Out -/
def tr_basis_Basis_Out (b_u_x : Int) (b_u_y : Int) (b_u_z : Int) (b_v_x : Int) (b_v_y : Int) (b_v_z : Int) (b_n_x : Int) (b_n_y : Int) (b_n_z : Int) (w_x : Int) (w_y : Int) (w_z : Int) : Tr AV := Tr.node (!nearB b_u_x b_u_y b_u_z) (Tr.leaf (AV.agg [AV.int IntKind.i64 false 0, AV.int IntKind.i64 false 0, AV.int IntKind.i64 false 0])) (Tr.node (!nearB b_v_x b_v_y b_v_z) (Tr.leaf (AV.agg [AV.int IntKind.i64 false 0, AV.int IntKind.i64 false 0, AV.int IntKind.i64 false 0])) (Tr.node (!nearB b_n_x b_n_y b_n_z) (Tr.leaf (AV.agg [AV.int IntKind.i64 false 0, AV.int IntKind.i64 false 0, AV.int IntKind.i64 false 0])) (Tr.node (!nearB w_x w_y w_z) (Tr.leaf (AV.agg [AV.int IntKind.i64 false 0, AV.int IntKind.i64 false 0, AV.int IntKind.i64 false 0])) (Tr.leaf (AV.agg [AV.int IntKind.i64 false (dv (sat (sat (sat (0 + IntKind.i64.wrap (b_u_x * w_x)) + IntKind.i64.wrap (b_v_x * w_y)) + IntKind.i64.wrap (b_n_x * w_z))) 16384), AV.int IntKind.i64 false (dv (sat (sat (sat (0 + IntKind.i64.wrap (b_u_y * w_x)) + IntKind.i64.wrap (b_v_y * w_y)) + IntKind.i64.wrap (b_n_y * w_z))) 16384), AV.int IntKind.i64 false (dv (sat (sat (sat (0 + IntKind.i64.wrap (b_u_z * w_x)) + IntKind.i64.wrap (b_v_z * w_y)) + IntKind.i64.wrap (b_n_z * w_z))) 16384)])))))
theorem run_basis_Basis_Out (b_u_x : Int) (b_u_y : Int) (b_u_z : Int) (b_v_x : Int) (b_v_y : Int) (b_v_z : Int) (b_n_x : Int) (b_n_y : Int) (b_n_z : Int) (w_x : Int) (w_y : Int) (w_z : Int) (h_b_u_x : InR .i64 b_u_x) (h_b_u_y : InR .i64 b_u_y) (h_b_u_z : InR .i64 b_u_z) (h_b_v_x : InR .i64 b_v_x) (h_b_v_y : InR .i64 b_v_y) (h_b_v_z : InR .i64 b_v_z) (h_b_n_x : InR .i64 b_n_x) (h_b_n_y : InR .i64 b_n_y) (h_b_n_z : InR .i64 b_n_z) (h_w_x : InR .i64 w_x) (h_w_y : InR .i64 w_y) (h_w_z : InR .i64 w_z) : (tr_basis_Basis_Out b_u_x b_u_y b_u_z b_v_x b_v_y b_v_z b_n_x b_n_y b_n_z w_x w_y w_z).run = some (v3 ((out3 ⟨b_u_x, b_u_y, b_u_z⟩ ⟨b_v_x, b_v_y, b_v_z⟩ ⟨b_n_x, b_n_y, b_n_z⟩ ⟨w_x, w_y, w_z⟩).x) ((out3 ⟨b_u_x, b_u_y, b_u_z⟩ ⟨b_v_x, b_v_y, b_v_z⟩ ⟨b_n_x, b_n_y, b_n_z⟩ ⟨w_x, w_y, w_z⟩).y) ((out3 ⟨b_u_x, b_u_y, b_u_z⟩ ⟨b_v_x, b_v_y, b_v_z⟩ ⟨b_n_x, b_n_y, b_n_z⟩ ⟨w_x, w_y, w_z⟩).z)) := by
  unfold tr_basis_Basis_Out
  cases h1 : nearB b_u_x b_u_y b_u_z
  · rw [out_no (.inl (show near3 ⟨b_u_x, b_u_y, b_u_z⟩ = false from h1))]; rfl
  cases h2 : nearB b_v_x b_v_y b_v_z
  · rw [out_no (.inr (.inl (show near3 ⟨b_v_x, b_v_y, b_v_z⟩ = false from h2)))]; rfl
  cases h3 : nearB b_n_x b_n_y b_n_z
  · rw [out_no (.inr (.inr (.inl (show near3 ⟨b_n_x, b_n_y, b_n_z⟩ = false from h3))))]; rfl
  cases h4 : nearB w_x w_y w_z
  · rw [out_no (.inr (.inr (.inr (show near3 ⟨w_x, w_y, w_z⟩ = false from h4))))]; rfl
  have r1 := near_r h1; have r2 := near_r h2; have r3 := near_r h3; have r4 := near_r h4
  have hc : near3 ⟨b_u_x, b_u_y, b_u_z⟩ = true ∧ near3 ⟨b_v_x, b_v_y, b_v_z⟩ = true ∧ near3 ⟨b_n_x, b_n_y, b_n_z⟩ = true ∧ near3 ⟨w_x, w_y, w_z⟩ = true := ⟨h1, h2, h3, h4⟩
  unfold out3
  simp only [if_pos hc]
  refine (run_f rfl).trans ((run_f rfl).trans ((run_f rfl).trans ((run_f rfl).trans ?_)))
  rw [out_prog r1.1 r2.1 r3.1 r4.1 r4.2.1 r4.2.2, out_prog r1.2.1 r2.2.1 r3.2.1 r4.1 r4.2.1 r4.2.2, out_prog r1.2.2 r2.2.2 r3.2.2 r4.1 r4.2.1 r4.2.2]
  rfl

/-! skylightref07.Out -/
def tr_skylightref07_Out (b_u_x : Int) (b_u_y : Int) (b_u_z : Int) (b_v_x : Int) (b_v_y : Int) (b_v_z : Int) (b_n_x : Int) (b_n_y : Int) (b_n_z : Int) (w_x : Int) (w_y : Int) (w_z : Int) : Tr AV := Tr.node (nearB b_u_x b_u_y b_u_z) (Tr.node (nearB b_v_x b_v_y b_v_z) (Tr.node (!nearB b_n_x b_n_y b_n_z) (Tr.leaf (AV.agg [AV.int IntKind.i64 false 0, AV.int IntKind.i64 false 0, AV.int IntKind.i64 false 0])) (Tr.node (!nearB w_x w_y w_z) (Tr.leaf (AV.agg [AV.int IntKind.i64 false 0, AV.int IntKind.i64 false 0, AV.int IntKind.i64 false 0])) (Tr.leaf (AV.agg [AV.int IntKind.i64 false (if (1 : Int) ≤ 16384 then dotN b_u_x b_v_x b_n_x w_x w_y w_z / 16384 else 0), AV.int IntKind.i64 false (if (1 : Int) ≤ 16384 then dotN b_u_y b_v_y b_n_y w_x w_y w_z / 16384 else 0), AV.int IntKind.i64 false (if (1 : Int) ≤ 16384 then dotN b_u_z b_v_z b_n_z w_x w_y w_z / 16384 else 0)])))) (Tr.leaf (AV.agg [AV.int IntKind.i64 false 0, AV.int IntKind.i64 false 0, AV.int IntKind.i64 false 0]))) (Tr.leaf (AV.agg [AV.int IntKind.i64 false 0, AV.int IntKind.i64 false 0, AV.int IntKind.i64 false 0]))
theorem run_skylightref07_Out (b_u_x : Int) (b_u_y : Int) (b_u_z : Int) (b_v_x : Int) (b_v_y : Int) (b_v_z : Int) (b_n_x : Int) (b_n_y : Int) (b_n_z : Int) (w_x : Int) (w_y : Int) (w_z : Int) (h_b_u_x : InR .i64 b_u_x) (h_b_u_y : InR .i64 b_u_y) (h_b_u_z : InR .i64 b_u_z) (h_b_v_x : InR .i64 b_v_x) (h_b_v_y : InR .i64 b_v_y) (h_b_v_z : InR .i64 b_v_z) (h_b_n_x : InR .i64 b_n_x) (h_b_n_y : InR .i64 b_n_y) (h_b_n_z : InR .i64 b_n_z) (h_w_x : InR .i64 w_x) (h_w_y : InR .i64 w_y) (h_w_z : InR .i64 w_z) : (tr_skylightref07_Out b_u_x b_u_y b_u_z b_v_x b_v_y b_v_z b_n_x b_n_y b_n_z w_x w_y w_z).run = some (v3 ((out3 ⟨b_u_x, b_u_y, b_u_z⟩ ⟨b_v_x, b_v_y, b_v_z⟩ ⟨b_n_x, b_n_y, b_n_z⟩ ⟨w_x, w_y, w_z⟩).x) ((out3 ⟨b_u_x, b_u_y, b_u_z⟩ ⟨b_v_x, b_v_y, b_v_z⟩ ⟨b_n_x, b_n_y, b_n_z⟩ ⟨w_x, w_y, w_z⟩).y) ((out3 ⟨b_u_x, b_u_y, b_u_z⟩ ⟨b_v_x, b_v_y, b_v_z⟩ ⟨b_n_x, b_n_y, b_n_z⟩ ⟨w_x, w_y, w_z⟩).z)) := by
  unfold tr_skylightref07_Out
  cases h1 : nearB b_u_x b_u_y b_u_z
  · rw [out_no (.inl (show near3 ⟨b_u_x, b_u_y, b_u_z⟩ = false from h1))]; rfl
  cases h2 : nearB b_v_x b_v_y b_v_z
  · rw [out_no (.inr (.inl (show near3 ⟨b_v_x, b_v_y, b_v_z⟩ = false from h2)))]; rfl
  cases h3 : nearB b_n_x b_n_y b_n_z
  · rw [out_no (.inr (.inr (.inl (show near3 ⟨b_n_x, b_n_y, b_n_z⟩ = false from h3))))]; rfl
  cases h4 : nearB w_x w_y w_z
  · rw [out_no (.inr (.inr (.inr (show near3 ⟨w_x, w_y, w_z⟩ = false from h4))))]; rfl
  have r1 := near_r h1; have r2 := near_r h2; have r3 := near_r h3; have r4 := near_r h4
  have hc : near3 ⟨b_u_x, b_u_y, b_u_z⟩ = true ∧ near3 ⟨b_v_x, b_v_y, b_v_z⟩ = true ∧ near3 ⟨b_n_x, b_n_y, b_n_z⟩ = true ∧ near3 ⟨w_x, w_y, w_z⟩ = true := ⟨h1, h2, h3, h4⟩
  unfold out3
  simp only [if_pos hc]
  refine (run_t rfl).trans ((run_t rfl).trans ((run_f rfl).trans ((run_f rfl).trans ?_)))
  have t1 : (1 : Int) ≤ 16384 := by decide
  simp only [if_pos t1]
  rw [out_ref r1.1 r2.1 r3.1 h4, out_ref r1.2.1 r2.2.1 r3.2.1 h4, out_ref r1.2.2 r2.2.2 r3.2.2 h4]
  rfl

/-! basis.Mirror -/
def tr_basis_Mirror (d_x : Int) (d_y : Int) (d_z : Int) (n_x : Int) (n_y : Int) (n_z : Int) : Tr AV := Tr.node (!nearB d_x d_y d_z) (Tr.leaf (AV.agg [AV.int IntKind.i64 false 0, AV.int IntKind.i64 false 0, AV.int IntKind.i64 false 0])) (Tr.node (!nearB n_x n_y n_z) (Tr.leaf (AV.agg [AV.int IntKind.i64 false 0, AV.int IntKind.i64 false 0, AV.int IntKind.i64 false 0])) (Tr.leaf (AV.agg [AV.int IntKind.i64 false (sat (d_x + sat (dv (IntKind.i64.wrap (n_x * IntKind.i64.wrap (2 * dotN d_x d_y d_z n_x n_y n_z))) 268435456 * -1))), AV.int IntKind.i64 false (sat (d_y + sat (dv (IntKind.i64.wrap (n_y * IntKind.i64.wrap (2 * dotN d_x d_y d_z n_x n_y n_z))) 268435456 * -1))), AV.int IntKind.i64 false (sat (d_z + sat (dv (IntKind.i64.wrap (n_z * IntKind.i64.wrap (2 * dotN d_x d_y d_z n_x n_y n_z))) 268435456 * -1)))])))
theorem run_basis_Mirror (d_x : Int) (d_y : Int) (d_z : Int) (n_x : Int) (n_y : Int) (n_z : Int) (h_d_x : InR .i64 d_x) (h_d_y : InR .i64 d_y) (h_d_z : InR .i64 d_z) (h_n_x : InR .i64 n_x) (h_n_y : InR .i64 n_y) (h_n_z : InR .i64 n_z) : (tr_basis_Mirror d_x d_y d_z n_x n_y n_z).run = some (v3 ((mir3 ⟨d_x, d_y, d_z⟩ ⟨n_x, n_y, n_z⟩).x) ((mir3 ⟨d_x, d_y, d_z⟩ ⟨n_x, n_y, n_z⟩).y) ((mir3 ⟨d_x, d_y, d_z⟩ ⟨n_x, n_y, n_z⟩).z)) := by
  unfold tr_basis_Mirror
  cases h1 : nearB d_x d_y d_z
  · unfold mir3; rw [mir_no (.inl h1), mir_no (.inl h1), mir_no (.inl h1)]; rfl
  cases h2 : nearB n_x n_y n_z
  · unfold mir3; rw [mir_no (.inr h2), mir_no (.inr h2), mir_no (.inr h2)]; rfl
  have r1 := near_r h1; have r2 := near_r h2
  
  unfold mir3
  refine (run_f rfl).trans ((run_f rfl).trans ?_)
  rw [mir_prog h1 h2 r1.1 r2.1, mir_prog h1 h2 r1.2.1 r2.2.1, mir_prog h1 h2 r1.2.2 r2.2.2]
  rfl

/-! skylightref07.Mirror -/
def tr_skylightref07_Mirror (d_x : Int) (d_y : Int) (d_z : Int) (n_x : Int) (n_y : Int) (n_z : Int) : Tr AV := Tr.node (!nearB d_x d_y d_z) (Tr.leaf (AV.agg [AV.int IntKind.i64 false 0, AV.int IntKind.i64 false 0, AV.int IntKind.i64 false 0])) (Tr.node (!nearB n_x n_y n_z) (Tr.leaf (AV.agg [AV.int IntKind.i64 false 0, AV.int IntKind.i64 false 0, AV.int IntKind.i64 false 0])) (Tr.leaf (AV.agg [AV.int IntKind.i64 false (IntKind.i64.wrap (d_x - if (1 : Int) ≤ 268435456 then IntKind.i64.wrap (n_x * IntKind.i64.wrap (2 * dotN d_x d_y d_z n_x n_y n_z)) / 268435456 else 0)), AV.int IntKind.i64 false (IntKind.i64.wrap (d_y - if (1 : Int) ≤ 268435456 then IntKind.i64.wrap (n_y * IntKind.i64.wrap (2 * dotN d_x d_y d_z n_x n_y n_z)) / 268435456 else 0)), AV.int IntKind.i64 false (IntKind.i64.wrap (d_z - if (1 : Int) ≤ 268435456 then IntKind.i64.wrap (n_z * IntKind.i64.wrap (2 * dotN d_x d_y d_z n_x n_y n_z)) / 268435456 else 0))])))
theorem run_skylightref07_Mirror (d_x : Int) (d_y : Int) (d_z : Int) (n_x : Int) (n_y : Int) (n_z : Int) (h_d_x : InR .i64 d_x) (h_d_y : InR .i64 d_y) (h_d_z : InR .i64 d_z) (h_n_x : InR .i64 n_x) (h_n_y : InR .i64 n_y) (h_n_z : InR .i64 n_z) : (tr_skylightref07_Mirror d_x d_y d_z n_x n_y n_z).run = some (v3 ((mir3 ⟨d_x, d_y, d_z⟩ ⟨n_x, n_y, n_z⟩).x) ((mir3 ⟨d_x, d_y, d_z⟩ ⟨n_x, n_y, n_z⟩).y) ((mir3 ⟨d_x, d_y, d_z⟩ ⟨n_x, n_y, n_z⟩).z)) := by
  unfold tr_skylightref07_Mirror
  cases h1 : nearB d_x d_y d_z
  · unfold mir3; rw [mir_no (.inl h1), mir_no (.inl h1), mir_no (.inl h1)]; rfl
  cases h2 : nearB n_x n_y n_z
  · unfold mir3; rw [mir_no (.inr h2), mir_no (.inr h2), mir_no (.inr h2)]; rfl
  have r1 := near_r h1; have r2 := near_r h2
  have t1 : (1 : Int) ≤ 268435456 := by decide
  simp only [if_pos t1]
  unfold mir3
  refine (run_f rfl).trans ((run_f rfl).trans ?_)
  rw [mir_ref h1 h2 r1.1 r2.1, mir_ref h1 h2 r1.2.1 r2.2.1, mir_ref h1 h2 r1.2.2 r2.2.2]
  rfl

/-! spread.Half -/
def tr_spread_Half (n_x : Int) (n_y : Int) (n_z : Int) (u : Int) (a : Int) : Tr AV := Tr.node (!ok3 { x := n_x, y := n_y, z := n_z }) (Tr.leaf (AV.agg [AV.int IntKind.i64 false 0, AV.int IntKind.i64 false 0, AV.int IntKind.i64 false 0])) (Tr.leaf (AV.agg [AV.int IntKind.i64 false (unitC (out3 { x := (basU { x := n_x, y := n_y, z := n_z }).x, y := (basU { x := n_x, y := n_y, z := n_z }).y, z := (basU { x := n_x, y := n_y, z := n_z }).z } { x := (basV { x := n_x, y := n_y, z := n_z }).x, y := (basV { x := n_x, y := n_y, z := n_z }).y, z := (basV { x := n_x, y := n_y, z := n_z }).z } { x := (basN { x := n_x, y := n_y, z := n_z }).x, y := (basN { x := n_x, y := n_y, z := n_z }).y, z := (basN { x := n_x, y := n_y, z := n_z }).z } { x := ringC (cosT a) (discR u), y := ringC (sinT a) (discR u), z := isq (IntKind.u64.wrap (IntKind.i64.wrap (268435456 - IntKind.i64.wrap (md u 65536 * 4096)))) }).x (out3 { x := (basU { x := n_x, y := n_y, z := n_z }).x, y := (basU { x := n_x, y := n_y, z := n_z }).y, z := (basU { x := n_x, y := n_y, z := n_z }).z } { x := (basV { x := n_x, y := n_y, z := n_z }).x, y := (basV { x := n_x, y := n_y, z := n_z }).y, z := (basV { x := n_x, y := n_y, z := n_z }).z } { x := (basN { x := n_x, y := n_y, z := n_z }).x, y := (basN { x := n_x, y := n_y, z := n_z }).y, z := (basN { x := n_x, y := n_y, z := n_z }).z } { x := ringC (cosT a) (discR u), y := ringC (sinT a) (discR u), z := isq (IntKind.u64.wrap (IntKind.i64.wrap (268435456 - IntKind.i64.wrap (md u 65536 * 4096)))) }).y (out3 { x := (basU { x := n_x, y := n_y, z := n_z }).x, y := (basU { x := n_x, y := n_y, z := n_z }).y, z := (basU { x := n_x, y := n_y, z := n_z }).z } { x := (basV { x := n_x, y := n_y, z := n_z }).x, y := (basV { x := n_x, y := n_y, z := n_z }).y, z := (basV { x := n_x, y := n_y, z := n_z }).z } { x := (basN { x := n_x, y := n_y, z := n_z }).x, y := (basN { x := n_x, y := n_y, z := n_z }).y, z := (basN { x := n_x, y := n_y, z := n_z }).z } { x := ringC (cosT a) (discR u), y := ringC (sinT a) (discR u), z := isq (IntKind.u64.wrap (IntKind.i64.wrap (268435456 - IntKind.i64.wrap (md u 65536 * 4096)))) }).z (out3 { x := (basU { x := n_x, y := n_y, z := n_z }).x, y := (basU { x := n_x, y := n_y, z := n_z }).y, z := (basU { x := n_x, y := n_y, z := n_z }).z } { x := (basV { x := n_x, y := n_y, z := n_z }).x, y := (basV { x := n_x, y := n_y, z := n_z }).y, z := (basV { x := n_x, y := n_y, z := n_z }).z } { x := (basN { x := n_x, y := n_y, z := n_z }).x, y := (basN { x := n_x, y := n_y, z := n_z }).y, z := (basN { x := n_x, y := n_y, z := n_z }).z } { x := ringC (cosT a) (discR u), y := ringC (sinT a) (discR u), z := isq (IntKind.u64.wrap (IntKind.i64.wrap (268435456 - IntKind.i64.wrap (md u 65536 * 4096)))) }).x), AV.int IntKind.i64 false (unitC (out3 { x := (basU { x := n_x, y := n_y, z := n_z }).x, y := (basU { x := n_x, y := n_y, z := n_z }).y, z := (basU { x := n_x, y := n_y, z := n_z }).z } { x := (basV { x := n_x, y := n_y, z := n_z }).x, y := (basV { x := n_x, y := n_y, z := n_z }).y, z := (basV { x := n_x, y := n_y, z := n_z }).z } { x := (basN { x := n_x, y := n_y, z := n_z }).x, y := (basN { x := n_x, y := n_y, z := n_z }).y, z := (basN { x := n_x, y := n_y, z := n_z }).z } { x := ringC (cosT a) (discR u), y := ringC (sinT a) (discR u), z := isq (IntKind.u64.wrap (IntKind.i64.wrap (268435456 - IntKind.i64.wrap (md u 65536 * 4096)))) }).x (out3 { x := (basU { x := n_x, y := n_y, z := n_z }).x, y := (basU { x := n_x, y := n_y, z := n_z }).y, z := (basU { x := n_x, y := n_y, z := n_z }).z } { x := (basV { x := n_x, y := n_y, z := n_z }).x, y := (basV { x := n_x, y := n_y, z := n_z }).y, z := (basV { x := n_x, y := n_y, z := n_z }).z } { x := (basN { x := n_x, y := n_y, z := n_z }).x, y := (basN { x := n_x, y := n_y, z := n_z }).y, z := (basN { x := n_x, y := n_y, z := n_z }).z } { x := ringC (cosT a) (discR u), y := ringC (sinT a) (discR u), z := isq (IntKind.u64.wrap (IntKind.i64.wrap (268435456 - IntKind.i64.wrap (md u 65536 * 4096)))) }).y (out3 { x := (basU { x := n_x, y := n_y, z := n_z }).x, y := (basU { x := n_x, y := n_y, z := n_z }).y, z := (basU { x := n_x, y := n_y, z := n_z }).z } { x := (basV { x := n_x, y := n_y, z := n_z }).x, y := (basV { x := n_x, y := n_y, z := n_z }).y, z := (basV { x := n_x, y := n_y, z := n_z }).z } { x := (basN { x := n_x, y := n_y, z := n_z }).x, y := (basN { x := n_x, y := n_y, z := n_z }).y, z := (basN { x := n_x, y := n_y, z := n_z }).z } { x := ringC (cosT a) (discR u), y := ringC (sinT a) (discR u), z := isq (IntKind.u64.wrap (IntKind.i64.wrap (268435456 - IntKind.i64.wrap (md u 65536 * 4096)))) }).z (out3 { x := (basU { x := n_x, y := n_y, z := n_z }).x, y := (basU { x := n_x, y := n_y, z := n_z }).y, z := (basU { x := n_x, y := n_y, z := n_z }).z } { x := (basV { x := n_x, y := n_y, z := n_z }).x, y := (basV { x := n_x, y := n_y, z := n_z }).y, z := (basV { x := n_x, y := n_y, z := n_z }).z } { x := (basN { x := n_x, y := n_y, z := n_z }).x, y := (basN { x := n_x, y := n_y, z := n_z }).y, z := (basN { x := n_x, y := n_y, z := n_z }).z } { x := ringC (cosT a) (discR u), y := ringC (sinT a) (discR u), z := isq (IntKind.u64.wrap (IntKind.i64.wrap (268435456 - IntKind.i64.wrap (md u 65536 * 4096)))) }).y), AV.int IntKind.i64 false (unitC (out3 { x := (basU { x := n_x, y := n_y, z := n_z }).x, y := (basU { x := n_x, y := n_y, z := n_z }).y, z := (basU { x := n_x, y := n_y, z := n_z }).z } { x := (basV { x := n_x, y := n_y, z := n_z }).x, y := (basV { x := n_x, y := n_y, z := n_z }).y, z := (basV { x := n_x, y := n_y, z := n_z }).z } { x := (basN { x := n_x, y := n_y, z := n_z }).x, y := (basN { x := n_x, y := n_y, z := n_z }).y, z := (basN { x := n_x, y := n_y, z := n_z }).z } { x := ringC (cosT a) (discR u), y := ringC (sinT a) (discR u), z := isq (IntKind.u64.wrap (IntKind.i64.wrap (268435456 - IntKind.i64.wrap (md u 65536 * 4096)))) }).x (out3 { x := (basU { x := n_x, y := n_y, z := n_z }).x, y := (basU { x := n_x, y := n_y, z := n_z }).y, z := (basU { x := n_x, y := n_y, z := n_z }).z } { x := (basV { x := n_x, y := n_y, z := n_z }).x, y := (basV { x := n_x, y := n_y, z := n_z }).y, z := (basV { x := n_x, y := n_y, z := n_z }).z } { x := (basN { x := n_x, y := n_y, z := n_z }).x, y := (basN { x := n_x, y := n_y, z := n_z }).y, z := (basN { x := n_x, y := n_y, z := n_z }).z } { x := ringC (cosT a) (discR u), y := ringC (sinT a) (discR u), z := isq (IntKind.u64.wrap (IntKind.i64.wrap (268435456 - IntKind.i64.wrap (md u 65536 * 4096)))) }).y (out3 { x := (basU { x := n_x, y := n_y, z := n_z }).x, y := (basU { x := n_x, y := n_y, z := n_z }).y, z := (basU { x := n_x, y := n_y, z := n_z }).z } { x := (basV { x := n_x, y := n_y, z := n_z }).x, y := (basV { x := n_x, y := n_y, z := n_z }).y, z := (basV { x := n_x, y := n_y, z := n_z }).z } { x := (basN { x := n_x, y := n_y, z := n_z }).x, y := (basN { x := n_x, y := n_y, z := n_z }).y, z := (basN { x := n_x, y := n_y, z := n_z }).z } { x := ringC (cosT a) (discR u), y := ringC (sinT a) (discR u), z := isq (IntKind.u64.wrap (IntKind.i64.wrap (268435456 - IntKind.i64.wrap (md u 65536 * 4096)))) }).z (out3 { x := (basU { x := n_x, y := n_y, z := n_z }).x, y := (basU { x := n_x, y := n_y, z := n_z }).y, z := (basU { x := n_x, y := n_y, z := n_z }).z } { x := (basV { x := n_x, y := n_y, z := n_z }).x, y := (basV { x := n_x, y := n_y, z := n_z }).y, z := (basV { x := n_x, y := n_y, z := n_z }).z } { x := (basN { x := n_x, y := n_y, z := n_z }).x, y := (basN { x := n_x, y := n_y, z := n_z }).y, z := (basN { x := n_x, y := n_y, z := n_z }).z } { x := ringC (cosT a) (discR u), y := ringC (sinT a) (discR u), z := isq (IntKind.u64.wrap (IntKind.i64.wrap (268435456 - IntKind.i64.wrap (md u 65536 * 4096)))) }).z)]))
theorem run_spread_Half (n_x : Int) (n_y : Int) (n_z : Int) (u : Int) (a : Int) (h_n_x : InR .i64 n_x) (h_n_y : InR .i64 n_y) (h_n_z : InR .i64 n_z) (h_u : InR .i64 u) (h_a : InR .i64 a) : (tr_spread_Half n_x n_y n_z u a).run = some (v3 ((half3 ⟨n_x, n_y, n_z⟩ u a).x) ((half3 ⟨n_x, n_y, n_z⟩ u a).y) ((half3 ⟨n_x, n_y, n_z⟩ u a).z)) := by
  unfold tr_spread_Half
  have h0 : IntKind.u64.wrap (IntKind.i64.wrap (md u 65536 * 4096)) = u % 65536 * 4096 := by rw [md_64k, wrap_i64_id (by omega), wrap_u64_id (by omega)]
  have h1 : IntKind.u64.wrap (IntKind.i64.wrap (268435456 - IntKind.i64.wrap (md u 65536 * 4096))) = 268435456 - u % 65536 * 4096 := by rw [md_64k, wrap_i64_id (n := u % 65536 * 4096) (by omega), wrap_i64_id (by omega), wrap_u64_id (by omega)]
  
  unfold half3 about3
  cases hok : ok3 ⟨n_x, n_y, n_z⟩
  · rfl
  refine (run_f rfl).trans ?_
  rw [if_pos rfl, h1]
  rfl

/-! spread.Cone -/
def tr_spread_Cone (n_x : Int) (n_y : Int) (n_z : Int) (c : Int) (u : Int) (a : Int) : Tr AV := Tr.node (decide (c < 0)) (Tr.leaf (AV.agg [AV.int IntKind.i64 false 0, AV.int IntKind.i64 false 0, AV.int IntKind.i64 false 0])) (Tr.node (decide (c > 16384)) (Tr.leaf (AV.agg [AV.int IntKind.i64 false 0, AV.int IntKind.i64 false 0, AV.int IntKind.i64 false 0])) (Tr.node (!ok3 { x := n_x, y := n_y, z := n_z }) (Tr.leaf (AV.agg [AV.int IntKind.i64 false 0, AV.int IntKind.i64 false 0, AV.int IntKind.i64 false 0])) (Tr.leaf (AV.agg [AV.int IntKind.i64 false (unitC (out3 { x := (basU { x := n_x, y := n_y, z := n_z }).x, y := (basU { x := n_x, y := n_y, z := n_z }).y, z := (basU { x := n_x, y := n_y, z := n_z }).z } { x := (basV { x := n_x, y := n_y, z := n_z }).x, y := (basV { x := n_x, y := n_y, z := n_z }).y, z := (basV { x := n_x, y := n_y, z := n_z }).z } { x := (basN { x := n_x, y := n_y, z := n_z }).x, y := (basN { x := n_x, y := n_y, z := n_z }).y, z := (basN { x := n_x, y := n_y, z := n_z }).z } { x := upC (cosT a) (IntKind.i64.wrap (16384 - IntKind.i64.wrap ((IntKind.i64.wrap (md u 65536 * IntKind.i64.wrap (16384 - c))).tdiv 65536))), y := upC (sinT a) (IntKind.i64.wrap (16384 - IntKind.i64.wrap ((IntKind.i64.wrap (md u 65536 * IntKind.i64.wrap (16384 - c))).tdiv 65536))), z := upZ (IntKind.i64.wrap (16384 - IntKind.i64.wrap ((IntKind.i64.wrap (md u 65536 * IntKind.i64.wrap (16384 - c))).tdiv 65536))) }).x (out3 { x := (basU { x := n_x, y := n_y, z := n_z }).x, y := (basU { x := n_x, y := n_y, z := n_z }).y, z := (basU { x := n_x, y := n_y, z := n_z }).z } { x := (basV { x := n_x, y := n_y, z := n_z }).x, y := (basV { x := n_x, y := n_y, z := n_z }).y, z := (basV { x := n_x, y := n_y, z := n_z }).z } { x := (basN { x := n_x, y := n_y, z := n_z }).x, y := (basN { x := n_x, y := n_y, z := n_z }).y, z := (basN { x := n_x, y := n_y, z := n_z }).z } { x := upC (cosT a) (IntKind.i64.wrap (16384 - IntKind.i64.wrap ((IntKind.i64.wrap (md u 65536 * IntKind.i64.wrap (16384 - c))).tdiv 65536))), y := upC (sinT a) (IntKind.i64.wrap (16384 - IntKind.i64.wrap ((IntKind.i64.wrap (md u 65536 * IntKind.i64.wrap (16384 - c))).tdiv 65536))), z := upZ (IntKind.i64.wrap (16384 - IntKind.i64.wrap ((IntKind.i64.wrap (md u 65536 * IntKind.i64.wrap (16384 - c))).tdiv 65536))) }).y (out3 { x := (basU { x := n_x, y := n_y, z := n_z }).x, y := (basU { x := n_x, y := n_y, z := n_z }).y, z := (basU { x := n_x, y := n_y, z := n_z }).z } { x := (basV { x := n_x, y := n_y, z := n_z }).x, y := (basV { x := n_x, y := n_y, z := n_z }).y, z := (basV { x := n_x, y := n_y, z := n_z }).z } { x := (basN { x := n_x, y := n_y, z := n_z }).x, y := (basN { x := n_x, y := n_y, z := n_z }).y, z := (basN { x := n_x, y := n_y, z := n_z }).z } { x := upC (cosT a) (IntKind.i64.wrap (16384 - IntKind.i64.wrap ((IntKind.i64.wrap (md u 65536 * IntKind.i64.wrap (16384 - c))).tdiv 65536))), y := upC (sinT a) (IntKind.i64.wrap (16384 - IntKind.i64.wrap ((IntKind.i64.wrap (md u 65536 * IntKind.i64.wrap (16384 - c))).tdiv 65536))), z := upZ (IntKind.i64.wrap (16384 - IntKind.i64.wrap ((IntKind.i64.wrap (md u 65536 * IntKind.i64.wrap (16384 - c))).tdiv 65536))) }).z (out3 { x := (basU { x := n_x, y := n_y, z := n_z }).x, y := (basU { x := n_x, y := n_y, z := n_z }).y, z := (basU { x := n_x, y := n_y, z := n_z }).z } { x := (basV { x := n_x, y := n_y, z := n_z }).x, y := (basV { x := n_x, y := n_y, z := n_z }).y, z := (basV { x := n_x, y := n_y, z := n_z }).z } { x := (basN { x := n_x, y := n_y, z := n_z }).x, y := (basN { x := n_x, y := n_y, z := n_z }).y, z := (basN { x := n_x, y := n_y, z := n_z }).z } { x := upC (cosT a) (IntKind.i64.wrap (16384 - IntKind.i64.wrap ((IntKind.i64.wrap (md u 65536 * IntKind.i64.wrap (16384 - c))).tdiv 65536))), y := upC (sinT a) (IntKind.i64.wrap (16384 - IntKind.i64.wrap ((IntKind.i64.wrap (md u 65536 * IntKind.i64.wrap (16384 - c))).tdiv 65536))), z := upZ (IntKind.i64.wrap (16384 - IntKind.i64.wrap ((IntKind.i64.wrap (md u 65536 * IntKind.i64.wrap (16384 - c))).tdiv 65536))) }).x), AV.int IntKind.i64 false (unitC (out3 { x := (basU { x := n_x, y := n_y, z := n_z }).x, y := (basU { x := n_x, y := n_y, z := n_z }).y, z := (basU { x := n_x, y := n_y, z := n_z }).z } { x := (basV { x := n_x, y := n_y, z := n_z }).x, y := (basV { x := n_x, y := n_y, z := n_z }).y, z := (basV { x := n_x, y := n_y, z := n_z }).z } { x := (basN { x := n_x, y := n_y, z := n_z }).x, y := (basN { x := n_x, y := n_y, z := n_z }).y, z := (basN { x := n_x, y := n_y, z := n_z }).z } { x := upC (cosT a) (IntKind.i64.wrap (16384 - IntKind.i64.wrap ((IntKind.i64.wrap (md u 65536 * IntKind.i64.wrap (16384 - c))).tdiv 65536))), y := upC (sinT a) (IntKind.i64.wrap (16384 - IntKind.i64.wrap ((IntKind.i64.wrap (md u 65536 * IntKind.i64.wrap (16384 - c))).tdiv 65536))), z := upZ (IntKind.i64.wrap (16384 - IntKind.i64.wrap ((IntKind.i64.wrap (md u 65536 * IntKind.i64.wrap (16384 - c))).tdiv 65536))) }).x (out3 { x := (basU { x := n_x, y := n_y, z := n_z }).x, y := (basU { x := n_x, y := n_y, z := n_z }).y, z := (basU { x := n_x, y := n_y, z := n_z }).z } { x := (basV { x := n_x, y := n_y, z := n_z }).x, y := (basV { x := n_x, y := n_y, z := n_z }).y, z := (basV { x := n_x, y := n_y, z := n_z }).z } { x := (basN { x := n_x, y := n_y, z := n_z }).x, y := (basN { x := n_x, y := n_y, z := n_z }).y, z := (basN { x := n_x, y := n_y, z := n_z }).z } { x := upC (cosT a) (IntKind.i64.wrap (16384 - IntKind.i64.wrap ((IntKind.i64.wrap (md u 65536 * IntKind.i64.wrap (16384 - c))).tdiv 65536))), y := upC (sinT a) (IntKind.i64.wrap (16384 - IntKind.i64.wrap ((IntKind.i64.wrap (md u 65536 * IntKind.i64.wrap (16384 - c))).tdiv 65536))), z := upZ (IntKind.i64.wrap (16384 - IntKind.i64.wrap ((IntKind.i64.wrap (md u 65536 * IntKind.i64.wrap (16384 - c))).tdiv 65536))) }).y (out3 { x := (basU { x := n_x, y := n_y, z := n_z }).x, y := (basU { x := n_x, y := n_y, z := n_z }).y, z := (basU { x := n_x, y := n_y, z := n_z }).z } { x := (basV { x := n_x, y := n_y, z := n_z }).x, y := (basV { x := n_x, y := n_y, z := n_z }).y, z := (basV { x := n_x, y := n_y, z := n_z }).z } { x := (basN { x := n_x, y := n_y, z := n_z }).x, y := (basN { x := n_x, y := n_y, z := n_z }).y, z := (basN { x := n_x, y := n_y, z := n_z }).z } { x := upC (cosT a) (IntKind.i64.wrap (16384 - IntKind.i64.wrap ((IntKind.i64.wrap (md u 65536 * IntKind.i64.wrap (16384 - c))).tdiv 65536))), y := upC (sinT a) (IntKind.i64.wrap (16384 - IntKind.i64.wrap ((IntKind.i64.wrap (md u 65536 * IntKind.i64.wrap (16384 - c))).tdiv 65536))), z := upZ (IntKind.i64.wrap (16384 - IntKind.i64.wrap ((IntKind.i64.wrap (md u 65536 * IntKind.i64.wrap (16384 - c))).tdiv 65536))) }).z (out3 { x := (basU { x := n_x, y := n_y, z := n_z }).x, y := (basU { x := n_x, y := n_y, z := n_z }).y, z := (basU { x := n_x, y := n_y, z := n_z }).z } { x := (basV { x := n_x, y := n_y, z := n_z }).x, y := (basV { x := n_x, y := n_y, z := n_z }).y, z := (basV { x := n_x, y := n_y, z := n_z }).z } { x := (basN { x := n_x, y := n_y, z := n_z }).x, y := (basN { x := n_x, y := n_y, z := n_z }).y, z := (basN { x := n_x, y := n_y, z := n_z }).z } { x := upC (cosT a) (IntKind.i64.wrap (16384 - IntKind.i64.wrap ((IntKind.i64.wrap (md u 65536 * IntKind.i64.wrap (16384 - c))).tdiv 65536))), y := upC (sinT a) (IntKind.i64.wrap (16384 - IntKind.i64.wrap ((IntKind.i64.wrap (md u 65536 * IntKind.i64.wrap (16384 - c))).tdiv 65536))), z := upZ (IntKind.i64.wrap (16384 - IntKind.i64.wrap ((IntKind.i64.wrap (md u 65536 * IntKind.i64.wrap (16384 - c))).tdiv 65536))) }).y), AV.int IntKind.i64 false (unitC (out3 { x := (basU { x := n_x, y := n_y, z := n_z }).x, y := (basU { x := n_x, y := n_y, z := n_z }).y, z := (basU { x := n_x, y := n_y, z := n_z }).z } { x := (basV { x := n_x, y := n_y, z := n_z }).x, y := (basV { x := n_x, y := n_y, z := n_z }).y, z := (basV { x := n_x, y := n_y, z := n_z }).z } { x := (basN { x := n_x, y := n_y, z := n_z }).x, y := (basN { x := n_x, y := n_y, z := n_z }).y, z := (basN { x := n_x, y := n_y, z := n_z }).z } { x := upC (cosT a) (IntKind.i64.wrap (16384 - IntKind.i64.wrap ((IntKind.i64.wrap (md u 65536 * IntKind.i64.wrap (16384 - c))).tdiv 65536))), y := upC (sinT a) (IntKind.i64.wrap (16384 - IntKind.i64.wrap ((IntKind.i64.wrap (md u 65536 * IntKind.i64.wrap (16384 - c))).tdiv 65536))), z := upZ (IntKind.i64.wrap (16384 - IntKind.i64.wrap ((IntKind.i64.wrap (md u 65536 * IntKind.i64.wrap (16384 - c))).tdiv 65536))) }).x (out3 { x := (basU { x := n_x, y := n_y, z := n_z }).x, y := (basU { x := n_x, y := n_y, z := n_z }).y, z := (basU { x := n_x, y := n_y, z := n_z }).z } { x := (basV { x := n_x, y := n_y, z := n_z }).x, y := (basV { x := n_x, y := n_y, z := n_z }).y, z := (basV { x := n_x, y := n_y, z := n_z }).z } { x := (basN { x := n_x, y := n_y, z := n_z }).x, y := (basN { x := n_x, y := n_y, z := n_z }).y, z := (basN { x := n_x, y := n_y, z := n_z }).z } { x := upC (cosT a) (IntKind.i64.wrap (16384 - IntKind.i64.wrap ((IntKind.i64.wrap (md u 65536 * IntKind.i64.wrap (16384 - c))).tdiv 65536))), y := upC (sinT a) (IntKind.i64.wrap (16384 - IntKind.i64.wrap ((IntKind.i64.wrap (md u 65536 * IntKind.i64.wrap (16384 - c))).tdiv 65536))), z := upZ (IntKind.i64.wrap (16384 - IntKind.i64.wrap ((IntKind.i64.wrap (md u 65536 * IntKind.i64.wrap (16384 - c))).tdiv 65536))) }).y (out3 { x := (basU { x := n_x, y := n_y, z := n_z }).x, y := (basU { x := n_x, y := n_y, z := n_z }).y, z := (basU { x := n_x, y := n_y, z := n_z }).z } { x := (basV { x := n_x, y := n_y, z := n_z }).x, y := (basV { x := n_x, y := n_y, z := n_z }).y, z := (basV { x := n_x, y := n_y, z := n_z }).z } { x := (basN { x := n_x, y := n_y, z := n_z }).x, y := (basN { x := n_x, y := n_y, z := n_z }).y, z := (basN { x := n_x, y := n_y, z := n_z }).z } { x := upC (cosT a) (IntKind.i64.wrap (16384 - IntKind.i64.wrap ((IntKind.i64.wrap (md u 65536 * IntKind.i64.wrap (16384 - c))).tdiv 65536))), y := upC (sinT a) (IntKind.i64.wrap (16384 - IntKind.i64.wrap ((IntKind.i64.wrap (md u 65536 * IntKind.i64.wrap (16384 - c))).tdiv 65536))), z := upZ (IntKind.i64.wrap (16384 - IntKind.i64.wrap ((IntKind.i64.wrap (md u 65536 * IntKind.i64.wrap (16384 - c))).tdiv 65536))) }).z (out3 { x := (basU { x := n_x, y := n_y, z := n_z }).x, y := (basU { x := n_x, y := n_y, z := n_z }).y, z := (basU { x := n_x, y := n_y, z := n_z }).z } { x := (basV { x := n_x, y := n_y, z := n_z }).x, y := (basV { x := n_x, y := n_y, z := n_z }).y, z := (basV { x := n_x, y := n_y, z := n_z }).z } { x := (basN { x := n_x, y := n_y, z := n_z }).x, y := (basN { x := n_x, y := n_y, z := n_z }).y, z := (basN { x := n_x, y := n_y, z := n_z }).z } { x := upC (cosT a) (IntKind.i64.wrap (16384 - IntKind.i64.wrap ((IntKind.i64.wrap (md u 65536 * IntKind.i64.wrap (16384 - c))).tdiv 65536))), y := upC (sinT a) (IntKind.i64.wrap (16384 - IntKind.i64.wrap ((IntKind.i64.wrap (md u 65536 * IntKind.i64.wrap (16384 - c))).tdiv 65536))), z := upZ (IntKind.i64.wrap (16384 - IntKind.i64.wrap ((IntKind.i64.wrap (md u 65536 * IntKind.i64.wrap (16384 - c))).tdiv 65536))) }).z)]))))
theorem run_spread_Cone (n_x : Int) (n_y : Int) (n_z : Int) (c : Int) (u : Int) (a : Int) (h_n_x : InR .i64 n_x) (h_n_y : InR .i64 n_y) (h_n_z : InR .i64 n_z) (h_c : InR .i64 c) (h_u : InR .i64 u) (h_a : InR .i64 a) : (tr_spread_Cone n_x n_y n_z c u a).run = some (v3 ((cone3 ⟨n_x, n_y, n_z⟩ c u a).x) ((cone3 ⟨n_x, n_y, n_z⟩ c u a).y) ((cone3 ⟨n_x, n_y, n_z⟩ c u a).z)) := by
  unfold tr_spread_Cone
  refine run_guard (fun h => ?_) (fun h => ?_)
  · have h := of_decide_eq_true h
    unfold cone3; rw [if_neg (by omega)]; rfl
  refine run_guard (fun h1 => ?_) (fun h1 => ?_)
  · have h1 := of_decide_eq_true h1
    unfold cone3; rw [if_neg (by omega)]; rfl
  have h := of_decide_eq_false h; have h1 := of_decide_eq_false h1
  have hm : 0 ≤ u % 65536 ∧ u % 65536 < 65536 := by omega
  have k := mul_mono (a := u % 65536) (b := 65536) (c := 16384 - c) (d := 16384) (by omega) (by omega) (by omega) (by omega)
  
  have hz : IntKind.i64.wrap (16384 - IntKind.i64.wrap ((IntKind.i64.wrap (md u 65536 * IntKind.i64.wrap (16384 - c))).tdiv 65536)) = coneZ c u := by rw [md_64k, wrap_i64_id (n := 16384 - c) (by omega), wrap_i64_id (n := u % 65536 * (16384 - c)) (by omega), Int.tdiv_eq_ediv_of_nonneg (by omega), wrap_i64_id (n := u % 65536 * (16384 - c) / 65536) (by omega), wrap_i64_id (by omega)]; rfl
  unfold cone3 about3
  rw [if_pos (by omega)]
  cases hok : ok3 ⟨n_x, n_y, n_z⟩
  · rfl
  refine (run_f rfl).trans ?_
  rw [if_pos rfl, hz]
  rfl

/-! skylightref23.Half -/
def tr_skylightref23_Half (n_x : Int) (n_y : Int) (n_z : Int) (u : Int) (a : Int) : Tr AV := Tr.node (!ok3 { x := n_x, y := n_y, z := n_z }) (Tr.leaf (AV.agg [AV.int IntKind.i64 false 0, AV.int IntKind.i64 false 0, AV.int IntKind.i64 false 0])) (Tr.leaf (AV.agg [AV.int IntKind.i64 false (unitC (out3 { x := (basU { x := n_x, y := n_y, z := n_z }).x, y := (basU { x := n_x, y := n_y, z := n_z }).y, z := (basU { x := n_x, y := n_y, z := n_z }).z } { x := (basV { x := n_x, y := n_y, z := n_z }).x, y := (basV { x := n_x, y := n_y, z := n_z }).y, z := (basV { x := n_x, y := n_y, z := n_z }).z } { x := (basN { x := n_x, y := n_y, z := n_z }).x, y := (basN { x := n_x, y := n_y, z := n_z }).y, z := (basN { x := n_x, y := n_y, z := n_z }).z } { x := ringC (cosT a) (discR u), y := ringC (sinT a) (discR u), z := isq (IntKind.u64.wrap (IntKind.i64.wrap (268435456 - IntKind.i64.wrap (md u 65536 * 4096)))) }).x (out3 { x := (basU { x := n_x, y := n_y, z := n_z }).x, y := (basU { x := n_x, y := n_y, z := n_z }).y, z := (basU { x := n_x, y := n_y, z := n_z }).z } { x := (basV { x := n_x, y := n_y, z := n_z }).x, y := (basV { x := n_x, y := n_y, z := n_z }).y, z := (basV { x := n_x, y := n_y, z := n_z }).z } { x := (basN { x := n_x, y := n_y, z := n_z }).x, y := (basN { x := n_x, y := n_y, z := n_z }).y, z := (basN { x := n_x, y := n_y, z := n_z }).z } { x := ringC (cosT a) (discR u), y := ringC (sinT a) (discR u), z := isq (IntKind.u64.wrap (IntKind.i64.wrap (268435456 - IntKind.i64.wrap (md u 65536 * 4096)))) }).y (out3 { x := (basU { x := n_x, y := n_y, z := n_z }).x, y := (basU { x := n_x, y := n_y, z := n_z }).y, z := (basU { x := n_x, y := n_y, z := n_z }).z } { x := (basV { x := n_x, y := n_y, z := n_z }).x, y := (basV { x := n_x, y := n_y, z := n_z }).y, z := (basV { x := n_x, y := n_y, z := n_z }).z } { x := (basN { x := n_x, y := n_y, z := n_z }).x, y := (basN { x := n_x, y := n_y, z := n_z }).y, z := (basN { x := n_x, y := n_y, z := n_z }).z } { x := ringC (cosT a) (discR u), y := ringC (sinT a) (discR u), z := isq (IntKind.u64.wrap (IntKind.i64.wrap (268435456 - IntKind.i64.wrap (md u 65536 * 4096)))) }).z (out3 { x := (basU { x := n_x, y := n_y, z := n_z }).x, y := (basU { x := n_x, y := n_y, z := n_z }).y, z := (basU { x := n_x, y := n_y, z := n_z }).z } { x := (basV { x := n_x, y := n_y, z := n_z }).x, y := (basV { x := n_x, y := n_y, z := n_z }).y, z := (basV { x := n_x, y := n_y, z := n_z }).z } { x := (basN { x := n_x, y := n_y, z := n_z }).x, y := (basN { x := n_x, y := n_y, z := n_z }).y, z := (basN { x := n_x, y := n_y, z := n_z }).z } { x := ringC (cosT a) (discR u), y := ringC (sinT a) (discR u), z := isq (IntKind.u64.wrap (IntKind.i64.wrap (268435456 - IntKind.i64.wrap (md u 65536 * 4096)))) }).x), AV.int IntKind.i64 false (unitC (out3 { x := (basU { x := n_x, y := n_y, z := n_z }).x, y := (basU { x := n_x, y := n_y, z := n_z }).y, z := (basU { x := n_x, y := n_y, z := n_z }).z } { x := (basV { x := n_x, y := n_y, z := n_z }).x, y := (basV { x := n_x, y := n_y, z := n_z }).y, z := (basV { x := n_x, y := n_y, z := n_z }).z } { x := (basN { x := n_x, y := n_y, z := n_z }).x, y := (basN { x := n_x, y := n_y, z := n_z }).y, z := (basN { x := n_x, y := n_y, z := n_z }).z } { x := ringC (cosT a) (discR u), y := ringC (sinT a) (discR u), z := isq (IntKind.u64.wrap (IntKind.i64.wrap (268435456 - IntKind.i64.wrap (md u 65536 * 4096)))) }).x (out3 { x := (basU { x := n_x, y := n_y, z := n_z }).x, y := (basU { x := n_x, y := n_y, z := n_z }).y, z := (basU { x := n_x, y := n_y, z := n_z }).z } { x := (basV { x := n_x, y := n_y, z := n_z }).x, y := (basV { x := n_x, y := n_y, z := n_z }).y, z := (basV { x := n_x, y := n_y, z := n_z }).z } { x := (basN { x := n_x, y := n_y, z := n_z }).x, y := (basN { x := n_x, y := n_y, z := n_z }).y, z := (basN { x := n_x, y := n_y, z := n_z }).z } { x := ringC (cosT a) (discR u), y := ringC (sinT a) (discR u), z := isq (IntKind.u64.wrap (IntKind.i64.wrap (268435456 - IntKind.i64.wrap (md u 65536 * 4096)))) }).y (out3 { x := (basU { x := n_x, y := n_y, z := n_z }).x, y := (basU { x := n_x, y := n_y, z := n_z }).y, z := (basU { x := n_x, y := n_y, z := n_z }).z } { x := (basV { x := n_x, y := n_y, z := n_z }).x, y := (basV { x := n_x, y := n_y, z := n_z }).y, z := (basV { x := n_x, y := n_y, z := n_z }).z } { x := (basN { x := n_x, y := n_y, z := n_z }).x, y := (basN { x := n_x, y := n_y, z := n_z }).y, z := (basN { x := n_x, y := n_y, z := n_z }).z } { x := ringC (cosT a) (discR u), y := ringC (sinT a) (discR u), z := isq (IntKind.u64.wrap (IntKind.i64.wrap (268435456 - IntKind.i64.wrap (md u 65536 * 4096)))) }).z (out3 { x := (basU { x := n_x, y := n_y, z := n_z }).x, y := (basU { x := n_x, y := n_y, z := n_z }).y, z := (basU { x := n_x, y := n_y, z := n_z }).z } { x := (basV { x := n_x, y := n_y, z := n_z }).x, y := (basV { x := n_x, y := n_y, z := n_z }).y, z := (basV { x := n_x, y := n_y, z := n_z }).z } { x := (basN { x := n_x, y := n_y, z := n_z }).x, y := (basN { x := n_x, y := n_y, z := n_z }).y, z := (basN { x := n_x, y := n_y, z := n_z }).z } { x := ringC (cosT a) (discR u), y := ringC (sinT a) (discR u), z := isq (IntKind.u64.wrap (IntKind.i64.wrap (268435456 - IntKind.i64.wrap (md u 65536 * 4096)))) }).y), AV.int IntKind.i64 false (unitC (out3 { x := (basU { x := n_x, y := n_y, z := n_z }).x, y := (basU { x := n_x, y := n_y, z := n_z }).y, z := (basU { x := n_x, y := n_y, z := n_z }).z } { x := (basV { x := n_x, y := n_y, z := n_z }).x, y := (basV { x := n_x, y := n_y, z := n_z }).y, z := (basV { x := n_x, y := n_y, z := n_z }).z } { x := (basN { x := n_x, y := n_y, z := n_z }).x, y := (basN { x := n_x, y := n_y, z := n_z }).y, z := (basN { x := n_x, y := n_y, z := n_z }).z } { x := ringC (cosT a) (discR u), y := ringC (sinT a) (discR u), z := isq (IntKind.u64.wrap (IntKind.i64.wrap (268435456 - IntKind.i64.wrap (md u 65536 * 4096)))) }).x (out3 { x := (basU { x := n_x, y := n_y, z := n_z }).x, y := (basU { x := n_x, y := n_y, z := n_z }).y, z := (basU { x := n_x, y := n_y, z := n_z }).z } { x := (basV { x := n_x, y := n_y, z := n_z }).x, y := (basV { x := n_x, y := n_y, z := n_z }).y, z := (basV { x := n_x, y := n_y, z := n_z }).z } { x := (basN { x := n_x, y := n_y, z := n_z }).x, y := (basN { x := n_x, y := n_y, z := n_z }).y, z := (basN { x := n_x, y := n_y, z := n_z }).z } { x := ringC (cosT a) (discR u), y := ringC (sinT a) (discR u), z := isq (IntKind.u64.wrap (IntKind.i64.wrap (268435456 - IntKind.i64.wrap (md u 65536 * 4096)))) }).y (out3 { x := (basU { x := n_x, y := n_y, z := n_z }).x, y := (basU { x := n_x, y := n_y, z := n_z }).y, z := (basU { x := n_x, y := n_y, z := n_z }).z } { x := (basV { x := n_x, y := n_y, z := n_z }).x, y := (basV { x := n_x, y := n_y, z := n_z }).y, z := (basV { x := n_x, y := n_y, z := n_z }).z } { x := (basN { x := n_x, y := n_y, z := n_z }).x, y := (basN { x := n_x, y := n_y, z := n_z }).y, z := (basN { x := n_x, y := n_y, z := n_z }).z } { x := ringC (cosT a) (discR u), y := ringC (sinT a) (discR u), z := isq (IntKind.u64.wrap (IntKind.i64.wrap (268435456 - IntKind.i64.wrap (md u 65536 * 4096)))) }).z (out3 { x := (basU { x := n_x, y := n_y, z := n_z }).x, y := (basU { x := n_x, y := n_y, z := n_z }).y, z := (basU { x := n_x, y := n_y, z := n_z }).z } { x := (basV { x := n_x, y := n_y, z := n_z }).x, y := (basV { x := n_x, y := n_y, z := n_z }).y, z := (basV { x := n_x, y := n_y, z := n_z }).z } { x := (basN { x := n_x, y := n_y, z := n_z }).x, y := (basN { x := n_x, y := n_y, z := n_z }).y, z := (basN { x := n_x, y := n_y, z := n_z }).z } { x := ringC (cosT a) (discR u), y := ringC (sinT a) (discR u), z := isq (IntKind.u64.wrap (IntKind.i64.wrap (268435456 - IntKind.i64.wrap (md u 65536 * 4096)))) }).z)]))
theorem run_skylightref23_Half (n_x : Int) (n_y : Int) (n_z : Int) (u : Int) (a : Int) (h_n_x : InR .i64 n_x) (h_n_y : InR .i64 n_y) (h_n_z : InR .i64 n_z) (h_u : InR .i64 u) (h_a : InR .i64 a) : (tr_skylightref23_Half n_x n_y n_z u a).run = some (v3 ((half3 ⟨n_x, n_y, n_z⟩ u a).x) ((half3 ⟨n_x, n_y, n_z⟩ u a).y) ((half3 ⟨n_x, n_y, n_z⟩ u a).z)) := by
  unfold tr_skylightref23_Half
  have h0 : IntKind.u64.wrap (IntKind.i64.wrap (md u 65536 * 4096)) = u % 65536 * 4096 := by rw [md_64k, wrap_i64_id (by omega), wrap_u64_id (by omega)]
  have h1 : IntKind.u64.wrap (IntKind.i64.wrap (268435456 - IntKind.i64.wrap (md u 65536 * 4096))) = 268435456 - u % 65536 * 4096 := by rw [md_64k, wrap_i64_id (n := u % 65536 * 4096) (by omega), wrap_i64_id (by omega), wrap_u64_id (by omega)]
  
  unfold half3 about3
  cases hok : ok3 ⟨n_x, n_y, n_z⟩
  · rfl
  refine (run_f rfl).trans ?_
  rw [if_pos rfl, h1]
  rfl

/-! skylightref23.Cone -/
def tr_skylightref23_Cone (n_x : Int) (n_y : Int) (n_z : Int) (c : Int) (u : Int) (a : Int) : Tr AV := Tr.node (decide (c < 0)) (Tr.leaf (AV.agg [AV.int IntKind.i64 false 0, AV.int IntKind.i64 false 0, AV.int IntKind.i64 false 0])) (Tr.node (decide (c > 16384)) (Tr.leaf (AV.agg [AV.int IntKind.i64 false 0, AV.int IntKind.i64 false 0, AV.int IntKind.i64 false 0])) (Tr.node (!ok3 { x := n_x, y := n_y, z := n_z }) (Tr.leaf (AV.agg [AV.int IntKind.i64 false 0, AV.int IntKind.i64 false 0, AV.int IntKind.i64 false 0])) (Tr.leaf (AV.agg [AV.int IntKind.i64 false (unitC (out3 { x := (basU { x := n_x, y := n_y, z := n_z }).x, y := (basU { x := n_x, y := n_y, z := n_z }).y, z := (basU { x := n_x, y := n_y, z := n_z }).z } { x := (basV { x := n_x, y := n_y, z := n_z }).x, y := (basV { x := n_x, y := n_y, z := n_z }).y, z := (basV { x := n_x, y := n_y, z := n_z }).z } { x := (basN { x := n_x, y := n_y, z := n_z }).x, y := (basN { x := n_x, y := n_y, z := n_z }).y, z := (basN { x := n_x, y := n_y, z := n_z }).z } { x := upC (cosT a) (IntKind.i64.wrap (16384 - if (1 : Int) ≤ 65536 then IntKind.i64.wrap (md u 65536 * IntKind.i64.wrap (16384 - c)) / 65536 else 0)), y := upC (sinT a) (IntKind.i64.wrap (16384 - if (1 : Int) ≤ 65536 then IntKind.i64.wrap (md u 65536 * IntKind.i64.wrap (16384 - c)) / 65536 else 0)), z := upZ (IntKind.i64.wrap (16384 - if (1 : Int) ≤ 65536 then IntKind.i64.wrap (md u 65536 * IntKind.i64.wrap (16384 - c)) / 65536 else 0)) }).x (out3 { x := (basU { x := n_x, y := n_y, z := n_z }).x, y := (basU { x := n_x, y := n_y, z := n_z }).y, z := (basU { x := n_x, y := n_y, z := n_z }).z } { x := (basV { x := n_x, y := n_y, z := n_z }).x, y := (basV { x := n_x, y := n_y, z := n_z }).y, z := (basV { x := n_x, y := n_y, z := n_z }).z } { x := (basN { x := n_x, y := n_y, z := n_z }).x, y := (basN { x := n_x, y := n_y, z := n_z }).y, z := (basN { x := n_x, y := n_y, z := n_z }).z } { x := upC (cosT a) (IntKind.i64.wrap (16384 - if (1 : Int) ≤ 65536 then IntKind.i64.wrap (md u 65536 * IntKind.i64.wrap (16384 - c)) / 65536 else 0)), y := upC (sinT a) (IntKind.i64.wrap (16384 - if (1 : Int) ≤ 65536 then IntKind.i64.wrap (md u 65536 * IntKind.i64.wrap (16384 - c)) / 65536 else 0)), z := upZ (IntKind.i64.wrap (16384 - if (1 : Int) ≤ 65536 then IntKind.i64.wrap (md u 65536 * IntKind.i64.wrap (16384 - c)) / 65536 else 0)) }).y (out3 { x := (basU { x := n_x, y := n_y, z := n_z }).x, y := (basU { x := n_x, y := n_y, z := n_z }).y, z := (basU { x := n_x, y := n_y, z := n_z }).z } { x := (basV { x := n_x, y := n_y, z := n_z }).x, y := (basV { x := n_x, y := n_y, z := n_z }).y, z := (basV { x := n_x, y := n_y, z := n_z }).z } { x := (basN { x := n_x, y := n_y, z := n_z }).x, y := (basN { x := n_x, y := n_y, z := n_z }).y, z := (basN { x := n_x, y := n_y, z := n_z }).z } { x := upC (cosT a) (IntKind.i64.wrap (16384 - if (1 : Int) ≤ 65536 then IntKind.i64.wrap (md u 65536 * IntKind.i64.wrap (16384 - c)) / 65536 else 0)), y := upC (sinT a) (IntKind.i64.wrap (16384 - if (1 : Int) ≤ 65536 then IntKind.i64.wrap (md u 65536 * IntKind.i64.wrap (16384 - c)) / 65536 else 0)), z := upZ (IntKind.i64.wrap (16384 - if (1 : Int) ≤ 65536 then IntKind.i64.wrap (md u 65536 * IntKind.i64.wrap (16384 - c)) / 65536 else 0)) }).z (out3 { x := (basU { x := n_x, y := n_y, z := n_z }).x, y := (basU { x := n_x, y := n_y, z := n_z }).y, z := (basU { x := n_x, y := n_y, z := n_z }).z } { x := (basV { x := n_x, y := n_y, z := n_z }).x, y := (basV { x := n_x, y := n_y, z := n_z }).y, z := (basV { x := n_x, y := n_y, z := n_z }).z } { x := (basN { x := n_x, y := n_y, z := n_z }).x, y := (basN { x := n_x, y := n_y, z := n_z }).y, z := (basN { x := n_x, y := n_y, z := n_z }).z } { x := upC (cosT a) (IntKind.i64.wrap (16384 - if (1 : Int) ≤ 65536 then IntKind.i64.wrap (md u 65536 * IntKind.i64.wrap (16384 - c)) / 65536 else 0)), y := upC (sinT a) (IntKind.i64.wrap (16384 - if (1 : Int) ≤ 65536 then IntKind.i64.wrap (md u 65536 * IntKind.i64.wrap (16384 - c)) / 65536 else 0)), z := upZ (IntKind.i64.wrap (16384 - if (1 : Int) ≤ 65536 then IntKind.i64.wrap (md u 65536 * IntKind.i64.wrap (16384 - c)) / 65536 else 0)) }).x), AV.int IntKind.i64 false (unitC (out3 { x := (basU { x := n_x, y := n_y, z := n_z }).x, y := (basU { x := n_x, y := n_y, z := n_z }).y, z := (basU { x := n_x, y := n_y, z := n_z }).z } { x := (basV { x := n_x, y := n_y, z := n_z }).x, y := (basV { x := n_x, y := n_y, z := n_z }).y, z := (basV { x := n_x, y := n_y, z := n_z }).z } { x := (basN { x := n_x, y := n_y, z := n_z }).x, y := (basN { x := n_x, y := n_y, z := n_z }).y, z := (basN { x := n_x, y := n_y, z := n_z }).z } { x := upC (cosT a) (IntKind.i64.wrap (16384 - if (1 : Int) ≤ 65536 then IntKind.i64.wrap (md u 65536 * IntKind.i64.wrap (16384 - c)) / 65536 else 0)), y := upC (sinT a) (IntKind.i64.wrap (16384 - if (1 : Int) ≤ 65536 then IntKind.i64.wrap (md u 65536 * IntKind.i64.wrap (16384 - c)) / 65536 else 0)), z := upZ (IntKind.i64.wrap (16384 - if (1 : Int) ≤ 65536 then IntKind.i64.wrap (md u 65536 * IntKind.i64.wrap (16384 - c)) / 65536 else 0)) }).x (out3 { x := (basU { x := n_x, y := n_y, z := n_z }).x, y := (basU { x := n_x, y := n_y, z := n_z }).y, z := (basU { x := n_x, y := n_y, z := n_z }).z } { x := (basV { x := n_x, y := n_y, z := n_z }).x, y := (basV { x := n_x, y := n_y, z := n_z }).y, z := (basV { x := n_x, y := n_y, z := n_z }).z } { x := (basN { x := n_x, y := n_y, z := n_z }).x, y := (basN { x := n_x, y := n_y, z := n_z }).y, z := (basN { x := n_x, y := n_y, z := n_z }).z } { x := upC (cosT a) (IntKind.i64.wrap (16384 - if (1 : Int) ≤ 65536 then IntKind.i64.wrap (md u 65536 * IntKind.i64.wrap (16384 - c)) / 65536 else 0)), y := upC (sinT a) (IntKind.i64.wrap (16384 - if (1 : Int) ≤ 65536 then IntKind.i64.wrap (md u 65536 * IntKind.i64.wrap (16384 - c)) / 65536 else 0)), z := upZ (IntKind.i64.wrap (16384 - if (1 : Int) ≤ 65536 then IntKind.i64.wrap (md u 65536 * IntKind.i64.wrap (16384 - c)) / 65536 else 0)) }).y (out3 { x := (basU { x := n_x, y := n_y, z := n_z }).x, y := (basU { x := n_x, y := n_y, z := n_z }).y, z := (basU { x := n_x, y := n_y, z := n_z }).z } { x := (basV { x := n_x, y := n_y, z := n_z }).x, y := (basV { x := n_x, y := n_y, z := n_z }).y, z := (basV { x := n_x, y := n_y, z := n_z }).z } { x := (basN { x := n_x, y := n_y, z := n_z }).x, y := (basN { x := n_x, y := n_y, z := n_z }).y, z := (basN { x := n_x, y := n_y, z := n_z }).z } { x := upC (cosT a) (IntKind.i64.wrap (16384 - if (1 : Int) ≤ 65536 then IntKind.i64.wrap (md u 65536 * IntKind.i64.wrap (16384 - c)) / 65536 else 0)), y := upC (sinT a) (IntKind.i64.wrap (16384 - if (1 : Int) ≤ 65536 then IntKind.i64.wrap (md u 65536 * IntKind.i64.wrap (16384 - c)) / 65536 else 0)), z := upZ (IntKind.i64.wrap (16384 - if (1 : Int) ≤ 65536 then IntKind.i64.wrap (md u 65536 * IntKind.i64.wrap (16384 - c)) / 65536 else 0)) }).z (out3 { x := (basU { x := n_x, y := n_y, z := n_z }).x, y := (basU { x := n_x, y := n_y, z := n_z }).y, z := (basU { x := n_x, y := n_y, z := n_z }).z } { x := (basV { x := n_x, y := n_y, z := n_z }).x, y := (basV { x := n_x, y := n_y, z := n_z }).y, z := (basV { x := n_x, y := n_y, z := n_z }).z } { x := (basN { x := n_x, y := n_y, z := n_z }).x, y := (basN { x := n_x, y := n_y, z := n_z }).y, z := (basN { x := n_x, y := n_y, z := n_z }).z } { x := upC (cosT a) (IntKind.i64.wrap (16384 - if (1 : Int) ≤ 65536 then IntKind.i64.wrap (md u 65536 * IntKind.i64.wrap (16384 - c)) / 65536 else 0)), y := upC (sinT a) (IntKind.i64.wrap (16384 - if (1 : Int) ≤ 65536 then IntKind.i64.wrap (md u 65536 * IntKind.i64.wrap (16384 - c)) / 65536 else 0)), z := upZ (IntKind.i64.wrap (16384 - if (1 : Int) ≤ 65536 then IntKind.i64.wrap (md u 65536 * IntKind.i64.wrap (16384 - c)) / 65536 else 0)) }).y), AV.int IntKind.i64 false (unitC (out3 { x := (basU { x := n_x, y := n_y, z := n_z }).x, y := (basU { x := n_x, y := n_y, z := n_z }).y, z := (basU { x := n_x, y := n_y, z := n_z }).z } { x := (basV { x := n_x, y := n_y, z := n_z }).x, y := (basV { x := n_x, y := n_y, z := n_z }).y, z := (basV { x := n_x, y := n_y, z := n_z }).z } { x := (basN { x := n_x, y := n_y, z := n_z }).x, y := (basN { x := n_x, y := n_y, z := n_z }).y, z := (basN { x := n_x, y := n_y, z := n_z }).z } { x := upC (cosT a) (IntKind.i64.wrap (16384 - if (1 : Int) ≤ 65536 then IntKind.i64.wrap (md u 65536 * IntKind.i64.wrap (16384 - c)) / 65536 else 0)), y := upC (sinT a) (IntKind.i64.wrap (16384 - if (1 : Int) ≤ 65536 then IntKind.i64.wrap (md u 65536 * IntKind.i64.wrap (16384 - c)) / 65536 else 0)), z := upZ (IntKind.i64.wrap (16384 - if (1 : Int) ≤ 65536 then IntKind.i64.wrap (md u 65536 * IntKind.i64.wrap (16384 - c)) / 65536 else 0)) }).x (out3 { x := (basU { x := n_x, y := n_y, z := n_z }).x, y := (basU { x := n_x, y := n_y, z := n_z }).y, z := (basU { x := n_x, y := n_y, z := n_z }).z } { x := (basV { x := n_x, y := n_y, z := n_z }).x, y := (basV { x := n_x, y := n_y, z := n_z }).y, z := (basV { x := n_x, y := n_y, z := n_z }).z } { x := (basN { x := n_x, y := n_y, z := n_z }).x, y := (basN { x := n_x, y := n_y, z := n_z }).y, z := (basN { x := n_x, y := n_y, z := n_z }).z } { x := upC (cosT a) (IntKind.i64.wrap (16384 - if (1 : Int) ≤ 65536 then IntKind.i64.wrap (md u 65536 * IntKind.i64.wrap (16384 - c)) / 65536 else 0)), y := upC (sinT a) (IntKind.i64.wrap (16384 - if (1 : Int) ≤ 65536 then IntKind.i64.wrap (md u 65536 * IntKind.i64.wrap (16384 - c)) / 65536 else 0)), z := upZ (IntKind.i64.wrap (16384 - if (1 : Int) ≤ 65536 then IntKind.i64.wrap (md u 65536 * IntKind.i64.wrap (16384 - c)) / 65536 else 0)) }).y (out3 { x := (basU { x := n_x, y := n_y, z := n_z }).x, y := (basU { x := n_x, y := n_y, z := n_z }).y, z := (basU { x := n_x, y := n_y, z := n_z }).z } { x := (basV { x := n_x, y := n_y, z := n_z }).x, y := (basV { x := n_x, y := n_y, z := n_z }).y, z := (basV { x := n_x, y := n_y, z := n_z }).z } { x := (basN { x := n_x, y := n_y, z := n_z }).x, y := (basN { x := n_x, y := n_y, z := n_z }).y, z := (basN { x := n_x, y := n_y, z := n_z }).z } { x := upC (cosT a) (IntKind.i64.wrap (16384 - if (1 : Int) ≤ 65536 then IntKind.i64.wrap (md u 65536 * IntKind.i64.wrap (16384 - c)) / 65536 else 0)), y := upC (sinT a) (IntKind.i64.wrap (16384 - if (1 : Int) ≤ 65536 then IntKind.i64.wrap (md u 65536 * IntKind.i64.wrap (16384 - c)) / 65536 else 0)), z := upZ (IntKind.i64.wrap (16384 - if (1 : Int) ≤ 65536 then IntKind.i64.wrap (md u 65536 * IntKind.i64.wrap (16384 - c)) / 65536 else 0)) }).z (out3 { x := (basU { x := n_x, y := n_y, z := n_z }).x, y := (basU { x := n_x, y := n_y, z := n_z }).y, z := (basU { x := n_x, y := n_y, z := n_z }).z } { x := (basV { x := n_x, y := n_y, z := n_z }).x, y := (basV { x := n_x, y := n_y, z := n_z }).y, z := (basV { x := n_x, y := n_y, z := n_z }).z } { x := (basN { x := n_x, y := n_y, z := n_z }).x, y := (basN { x := n_x, y := n_y, z := n_z }).y, z := (basN { x := n_x, y := n_y, z := n_z }).z } { x := upC (cosT a) (IntKind.i64.wrap (16384 - if (1 : Int) ≤ 65536 then IntKind.i64.wrap (md u 65536 * IntKind.i64.wrap (16384 - c)) / 65536 else 0)), y := upC (sinT a) (IntKind.i64.wrap (16384 - if (1 : Int) ≤ 65536 then IntKind.i64.wrap (md u 65536 * IntKind.i64.wrap (16384 - c)) / 65536 else 0)), z := upZ (IntKind.i64.wrap (16384 - if (1 : Int) ≤ 65536 then IntKind.i64.wrap (md u 65536 * IntKind.i64.wrap (16384 - c)) / 65536 else 0)) }).z)]))))
theorem run_skylightref23_Cone (n_x : Int) (n_y : Int) (n_z : Int) (c : Int) (u : Int) (a : Int) (h_n_x : InR .i64 n_x) (h_n_y : InR .i64 n_y) (h_n_z : InR .i64 n_z) (h_c : InR .i64 c) (h_u : InR .i64 u) (h_a : InR .i64 a) : (tr_skylightref23_Cone n_x n_y n_z c u a).run = some (v3 ((cone3 ⟨n_x, n_y, n_z⟩ c u a).x) ((cone3 ⟨n_x, n_y, n_z⟩ c u a).y) ((cone3 ⟨n_x, n_y, n_z⟩ c u a).z)) := by
  unfold tr_skylightref23_Cone
  have t1 : (1 : Int) ≤ 65536 := by decide
  simp only [if_pos t1]
  refine run_guard (fun h => ?_) (fun h => ?_)
  · have h := of_decide_eq_true h
    unfold cone3; rw [if_neg (by omega)]; rfl
  refine run_guard (fun h1 => ?_) (fun h1 => ?_)
  · have h1 := of_decide_eq_true h1
    unfold cone3; rw [if_neg (by omega)]; rfl
  have h := of_decide_eq_false h; have h1 := of_decide_eq_false h1
  have hm : 0 ≤ u % 65536 ∧ u % 65536 < 65536 := by omega
  have k := mul_mono (a := u % 65536) (b := 65536) (c := 16384 - c) (d := 16384) (by omega) (by omega) (by omega) (by omega)
  
  have hz : IntKind.i64.wrap (16384 - IntKind.i64.wrap (md u 65536 * IntKind.i64.wrap (16384 - c)) / 65536) = coneZ c u := by rw [md_64k, wrap_i64_id (n := 16384 - c) (by omega), wrap_i64_id (n := u % 65536 * (16384 - c)) (by omega), wrap_i64_id (by omega)]; rfl
  unfold cone3 about3
  rw [if_pos (by omega)]
  cases hok : ok3 ⟨n_x, n_y, n_z⟩
  · rfl
  refine (run_f rfl).trans ?_
  rw [if_pos rfl, hz]
  rfl

end Go.Sky
