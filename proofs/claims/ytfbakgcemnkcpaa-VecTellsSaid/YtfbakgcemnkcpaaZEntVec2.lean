/- Entries of the table: what functions give. -/
import Derived.Test.YtfbakgcemnkcpaaZEntVec1
import Derived.Test.YtfbakgcemnkcpaaQSkyVec2
set_option linter.unusedSimpArgs false
set_option linter.unusedVariables false
namespace Go.Proofs.Ytfbakgcemnkcpaa
open Go Go.Sky
set_option maxRecDepth 100000

/-! skylightlaw06.awake -/
def e_skylightlaw06_awake : Entry := fun args => match args with | [] => some (.leaf (bb true)) | _ => none
theorem ok_skylightlaw06_awake : EntryOk Try.prog 34 e_skylightlaw06_awake := entry_ok progOk (T := table tab_skylightref06_Near) tok_skylightref06_Near 100 20 noKnown (fun _ _ _ _ => noKnown_ok) (by
  intro args t v h hv
  unfold e_skylightlaw06_awake at h
  split at h
  · cases h
    cases hv
    refine ⟨rfl, by kernel_rfl, fun φ cs hl => ?_⟩
    exact (congrArg Tr.run (by kernel_rfl : evV Try.prog (table tab_skylightref06_Near) 100 20 noKnown 34 [] = tr_skylightlaw06_awake )).trans (run_skylightlaw06_awake  )
  · cases h)
noncomputable def tab_skylightlaw06_awake : List (FuncId × Entry) := (34, e_skylightlaw06_awake) :: tab_skylightref06_Near
theorem tok_skylightlaw06_awake : TableOk Try.prog (table tab_skylightlaw06_awake) := table_cons ok_skylightlaw06_awake tok_skylightref06_Near

/-! skylightlaw06.VecVolume -/
def e_skylightlaw06_VecVolume : Entry := fun args => match args with | [.agg [.int .i64 false a_x, .int .i64 false a_y, .int .i64 false a_z], .agg [.int .i64 false b_x, .int .i64 false b_y, .int .i64 false b_z], .agg [.int .i64 false c_x, .int .i64 false c_y, .int .i64 false c_z]] => some (.leaf (bb true)) | _ => none
theorem ok_skylightlaw06_VecVolume : EntryOk Try.prog 6 e_skylightlaw06_VecVolume := entry_ok progOk (T := table tab_skylightlaw06_awake) tok_skylightlaw06_awake 16 12 noKnown (fun _ _ _ _ => noKnown_ok) (by
  intro args t v h hv
  unfold e_skylightlaw06_VecVolume at h
  split at h
  · cases h
    cases hv
    refine ⟨rfl, by kernel_rfl, fun φ cs hl => ?_⟩
    rename_i a_x a_y a_z b_x b_y b_z c_x c_y c_z
    obtain ⟨h_a_x, h_a_y, h_a_z, h_b_x, h_b_y, h_b_z, h_c_x, h_c_y, h_c_z, _⟩ : InR .i64 a_x ∧ InR .i64 a_y ∧ InR .i64 a_z ∧ InR .i64 b_x ∧ InR .i64 b_y ∧ InR .i64 b_z ∧ InR .i64 c_x ∧ InR .i64 c_y ∧ InR .i64 c_z ∧ True := rngL_of _ _ True hl trivial
    exact (congrArg Tr.run (by kernel_rfl : evV Try.prog (table tab_skylightlaw06_awake) 16 12 noKnown 6 [.agg [.int .i64 false a_x, .int .i64 false a_y, .int .i64 false a_z], .agg [.int .i64 false b_x, .int .i64 false b_y, .int .i64 false b_z], .agg [.int .i64 false c_x, .int .i64 false c_y, .int .i64 false c_z]] = tr_skylightlaw06_VecVolume a_x a_y a_z b_x b_y b_z c_x c_y c_z)).trans (run_skylightlaw06_VecVolume a_x a_y a_z b_x b_y b_z c_x c_y c_z h_a_x h_a_y h_a_z h_b_x h_b_y h_b_z h_c_x h_c_y h_c_z)
  · cases h)
noncomputable def tab_skylightlaw06_VecVolume : List (FuncId × Entry) := (6, e_skylightlaw06_VecVolume) :: tab_skylightlaw06_awake
theorem tok_skylightlaw06_VecVolume : TableOk Try.prog (table tab_skylightlaw06_VecVolume) := table_cons ok_skylightlaw06_VecVolume tok_skylightlaw06_awake

end Go.Proofs.Ytfbakgcemnkcpaa
