/- Entries of the table: what functions give. -/
import Derived.Test.YtfbakgcemnkcpaaZEntDiv
import Derived.Test.YtfbakgcemnkcpaaQSkyWide1
set_option linter.unusedSimpArgs false
set_option linter.unusedVariables false
namespace Go.Proofs.Ytfbakgcemnkcpaa
open Go Go.Sky
set_option maxRecDepth 100000

/-! wide.Mul -/
def e_wide_Mul : Entry := fun args => match args with | [.int .i64 false a, .int .i64 false b] => some (.leaf (w2 (a * b / 18446744073709551616) (a * b % 18446744073709551616))) | _ => none
theorem ok_wide_Mul : EntryOk Try.prog 164 e_wide_Mul := entry_ok progOk (T := table tab_math_bits_Div64) tok_math_bits_Div64 16 12 noKnown (fun _ _ _ _ => noKnown_ok) (by
  intro args t v h hv
  unfold e_wide_Mul at h
  split at h
  · cases h
    cases hv
    refine ⟨rfl, by kernel_rfl, fun φ cs hl => ?_⟩
    rename_i a b
    obtain ⟨h_a, h_b, _⟩ : InR .i64 a ∧ InR .i64 b ∧ True := rngL_of _ _ True hl trivial
    exact (congrArg Tr.run (by kernel_rfl : evV Try.prog (table tab_math_bits_Div64) 16 12 noKnown 164 [.int .i64 false a, .int .i64 false b] = tr_wide_Mul a b)).trans (run_wide_Mul a b h_a h_b)
  · cases h)
noncomputable def tab_wide_Mul : List (FuncId × Entry) := (164, e_wide_Mul) :: tab_math_bits_Div64
theorem tok_wide_Mul : TableOk Try.prog (table tab_wide_Mul) := table_cons ok_wide_Mul tok_math_bits_Div64

/-! wide.Over -/
def e_wide_Over : Entry := fun args => match args with | [.agg [.int .i64 false a_hi, .int .u64 false a_lo], .int .i64 false d] => some (.leaf (.tuple [i6 (ovQ (a_hi * 18446744073709551616 + a_lo) d), bb (ovOk (a_hi * 18446744073709551616 + a_lo) d)])) | _ => none
theorem ok_wide_Over : EntryOk Try.prog 184 e_wide_Over := entry_ok progOk (T := table tab_wide_Mul) tok_wide_Mul 16 12 noKnown (fun _ _ _ _ => noKnown_ok) (by
  intro args t v h hv
  unfold e_wide_Over at h
  split at h
  · cases h
    cases hv
    refine ⟨rfl, by kernel_rfl, fun φ cs hl => ?_⟩
    rename_i a_hi a_lo d
    obtain ⟨h_a_hi, h_a_lo, h_d, _⟩ : InR .i64 a_hi ∧ InR .u64 a_lo ∧ InR .i64 d ∧ True := rngL_of _ _ True hl trivial
    exact (congrArg Tr.run (by kernel_rfl : evV Try.prog (table tab_wide_Mul) 16 12 noKnown 184 [.agg [.int .i64 false a_hi, .int .u64 false a_lo], .int .i64 false d] = tr_wide_Over a_hi a_lo d)).trans (run_wide_Over a_hi a_lo d h_a_hi h_a_lo h_d)
  · cases h)
noncomputable def tab_wide_Over : List (FuncId × Entry) := (184, e_wide_Over) :: tab_wide_Mul
theorem tok_wide_Over : TableOk Try.prog (table tab_wide_Over) := table_cons ok_wide_Over tok_wide_Mul

/-! frac.Right -/
def e_frac_Right : Entry := fun args => match args with | [.agg [.int .i64 false f_n, .int .i64 false f_d]] => some (.leaf (bb (decide (0 < f_d)))) | _ => none
theorem ok_frac_Right : EntryOk Try.prog 183 e_frac_Right := entry_ok progOk (T := table tab_wide_Over) tok_wide_Over 16 12 noKnown (fun _ _ _ _ => noKnown_ok) (by
  intro args t v h hv
  unfold e_frac_Right at h
  split at h
  · cases h
    cases hv
    refine ⟨rfl, by kernel_rfl, fun φ cs hl => ?_⟩
    rename_i f_n f_d
    obtain ⟨h_f_n, h_f_d, _⟩ : InR .i64 f_n ∧ InR .i64 f_d ∧ True := rngL_of _ _ True hl trivial
    exact (congrArg Tr.run (by kernel_rfl : evV Try.prog (table tab_wide_Over) 16 12 noKnown 183 [.agg [.int .i64 false f_n, .int .i64 false f_d]] = tr_frac_Right f_n f_d)).trans (run_frac_Right f_n f_d h_f_n h_f_d)
  · cases h)
noncomputable def tab_frac_Right : List (FuncId × Entry) := (183, e_frac_Right) :: tab_wide_Over
theorem tok_frac_Right : TableOk Try.prog (table tab_frac_Right) := table_cons ok_frac_Right tok_wide_Over

/-! frac.At -/
def e_frac_At : Entry := fun args => match args with | [.int .i64 false v, .agg [.int .i64 false f_n, .int .i64 false f_d]] => some (.leaf (i6 (atF v f_n f_d))) | _ => none
theorem ok_frac_At : EntryOk Try.prog 130 e_frac_At := entry_ok progOk (T := table tab_frac_Right) tok_frac_Right 16 12 noKnown (fun _ _ _ _ => noKnown_ok) (by
  intro args t v h hv
  unfold e_frac_At at h
  split at h
  · cases h
    cases hv
    refine ⟨rfl, by kernel_rfl, fun φ cs hl => ?_⟩
    rename_i v f_n f_d
    obtain ⟨h_v, h_f_n, h_f_d, _⟩ : InR .i64 v ∧ InR .i64 f_n ∧ InR .i64 f_d ∧ True := rngL_of _ _ True hl trivial
    exact (congrArg Tr.run (by kernel_rfl : evV Try.prog (table tab_frac_Right) 16 12 noKnown 130 [.int .i64 false v, .agg [.int .i64 false f_n, .int .i64 false f_d]] = tr_frac_At v f_n f_d)).trans (run_frac_At v f_n f_d h_v h_f_n h_f_d)
  · cases h)
noncomputable def tab_frac_At : List (FuncId × Entry) := (130, e_frac_At) :: tab_frac_Right
theorem tok_frac_At : TableOk Try.prog (table tab_frac_At) := table_cons ok_frac_At tok_frac_Right

end Go.Proofs.Ytfbakgcemnkcpaa
