/- Entries of the table: what functions give. -/
import Derived.Test.YtfbakgcemnkcpaaZEntRef4
import Derived.Test.YtfbakgcemnkcpaaQSkyTells
set_option linter.unusedSimpArgs false
set_option linter.unusedVariables false
namespace Go.Proofs.Ytfbakgcemnkcpaa
open Go Go.Sky
set_option maxRecDepth 100000

/-! skylightlaw06.VecTells -/
def e_skylightlaw06_VecTells : Entry := fun args => match args with | [.agg [.int .i64 false a_x, .int .i64 false a_y, .int .i64 false a_z], .agg [.int .i64 false b_x, .int .i64 false b_y, .int .i64 false b_z], .agg [.int .i64 false c_x, .int .i64 false c_y, .int .i64 false c_z], .agg [.int .i64 false f_n, .int .i64 false f_d]] => some (.leaf (bb true)) | _ => none
theorem ok_skylightlaw06_VecTells : EntryOk Try.prog 5 e_skylightlaw06_VecTells := entry_ok progOk (T := table tab_skylightref06_Unit) tok_skylightref06_Unit 16 12 noKnown (fun _ _ _ _ => noKnown_ok) (by
  intro args t v h hv
  unfold e_skylightlaw06_VecTells at h
  split at h
  · cases h
    cases hv
    refine ⟨rfl, by kernel_rfl, fun φ cs hl => ?_⟩
    rename_i a_x a_y a_z b_x b_y b_z c_x c_y c_z f_n f_d
    obtain ⟨h_a_x, h_a_y, h_a_z, h_b_x, h_b_y, h_b_z, h_c_x, h_c_y, h_c_z, h_f_n, h_f_d, _⟩ : InR .i64 a_x ∧ InR .i64 a_y ∧ InR .i64 a_z ∧ InR .i64 b_x ∧ InR .i64 b_y ∧ InR .i64 b_z ∧ InR .i64 c_x ∧ InR .i64 c_y ∧ InR .i64 c_z ∧ InR .i64 f_n ∧ InR .i64 f_d ∧ True := rngL_of _ _ True hl trivial
    exact (congrArg Tr.run (by kernel_rfl : evV Try.prog (table tab_skylightref06_Unit) 16 12 noKnown 5 [.agg [.int .i64 false a_x, .int .i64 false a_y, .int .i64 false a_z], .agg [.int .i64 false b_x, .int .i64 false b_y, .int .i64 false b_z], .agg [.int .i64 false c_x, .int .i64 false c_y, .int .i64 false c_z], .agg [.int .i64 false f_n, .int .i64 false f_d]] = tr_skylightlaw06_VecTells a_x a_y a_z b_x b_y b_z c_x c_y c_z f_n f_d)).trans (run_skylightlaw06_VecTells a_x a_y a_z b_x b_y b_z c_x c_y c_z f_n f_d h_a_x h_a_y h_a_z h_b_x h_b_y h_b_z h_c_x h_c_y h_c_z h_f_n h_f_d)
  · cases h)
noncomputable def tab_skylightlaw06_VecTells : List (FuncId × Entry) := (5, e_skylightlaw06_VecTells) :: tab_skylightref06_Unit
theorem tok_skylightlaw06_VecTells : TableOk Try.prog (table tab_skylightlaw06_VecTells) := table_cons ok_skylightlaw06_VecTells tok_skylightref06_Unit

end Go.Proofs.Ytfbakgcemnkcpaa
