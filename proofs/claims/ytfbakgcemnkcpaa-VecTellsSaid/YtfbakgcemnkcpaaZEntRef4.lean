/- Entries of the table: what functions give. -/
import Derived.Test.YtfbakgcemnkcpaaZEntRef3
import Derived.Test.YtfbakgcemnkcpaaQSkyRef4
set_option linter.unusedSimpArgs false
set_option linter.unusedVariables false
namespace Go.Proofs.Ytfbakgcemnkcpaa
open Go Go.Sky
set_option maxRecDepth 100000

/-! skylightref06.Even -/
def e_skylightref06_Even : Entry := fun args => match args with | [.agg [.int .i64 false v_x, .int .i64 false v_y, .int .i64 false v_z]] => some (.node (decide (1 ≤ mostI v_x v_y v_z ∧ mostI v_x v_y v_z ≤ 4611686018427387904)) (.leaf (v3 (nrm v_x v_y v_z v_x) (nrm v_x v_y v_z v_y) (nrm v_x v_y v_z v_z))) .bad) | _ => none
noncomputable def O_skylightref06_Even_0 : Known := known 0 (piece Try.prog (table tab_skylightref06_Along) noKnown 119 0 29 [3, 4, 5, 6, 7, 8, 9, 10, 11, 12, 13, 14] [1] g_skylightref06_Even_0) noKnown
theorem O_skylightref06_Even_0_ok : ∀ fn c, Try.prog.funcs[119]? = some fn → fn.body = some c → KnownOk Try.prog O_skylightref06_Even_0 (blocksOf c) :=
  known_ok (by kernel_rfl) (piece_wp progOk tok_skylightref06_Along (known_in (by kernel_rfl) (fun _ _ _ _ => noKnown_ok)) (piece_skylightref06_Even_0 (by kernel_rfl) (by kernel_rfl) (fun L t_x t_y t_z q_x q_y q_z x0 x2 x3 x4 x5 x6 x7 x8 x9 x10 x11 x12 x13 x14 x15 x16 x17 x18 x19 x20 x21 x22 x23 x24 x25 x26 x27 x28 => by kernel_rfl))) (fun _ _ _ _ => noKnown_ok)
noncomputable def O_skylightref06_Even_2 : Known := known 2 (piece Try.prog (table tab_skylightref06_Along) O_skylightref06_Even_0 119 2 29 [15, 16, 17, 18, 19, 20, 21, 22, 23, 24, 25, 26, 27] [1] g_skylightref06_Even_2) O_skylightref06_Even_0
theorem O_skylightref06_Even_2_ok : ∀ fn c, Try.prog.funcs[119]? = some fn → fn.body = some c → KnownOk Try.prog O_skylightref06_Even_2 (blocksOf c) :=
  known_ok (by kernel_rfl) (piece_wp progOk tok_skylightref06_Along (known_in (by kernel_rfl) O_skylightref06_Even_0_ok) (piece_skylightref06_Even_2 (by kernel_rfl) (by kernel_rfl) (fun L t_x t_y t_z q_x q_y q_z x0 x2 x3 x4 x5 x6 x7 x8 x9 x10 x11 x12 x13 x14 x15 x16 x17 x18 x19 x20 x21 x22 x23 x24 x25 x26 x27 x28 => by kernel_rfl))) O_skylightref06_Even_0_ok
theorem ok_skylightref06_Even : EntryOk Try.prog 119 e_skylightref06_Even := entry_ok progOk (T := table tab_skylightref06_Along) tok_skylightref06_Along 16 12 O_skylightref06_Even_2 O_skylightref06_Even_2_ok (by
  intro args t v h hv
  unfold e_skylightref06_Even at h
  split at h
  · cases h
    simp only [Tr.run] at hv
    split at hv
    rotate_left
    · cases hv
    rename_i hpre0
    have hpre := of_decide_eq_true hpre0
    cases hv
    refine ⟨rfl, by kernel_rfl, fun φ cs hl => ?_⟩
    rename_i v_x v_y v_z
    obtain ⟨h_v_x, h_v_y, h_v_z, _⟩ : InR .i64 v_x ∧ InR .i64 v_y ∧ InR .i64 v_z ∧ True := rngL_of _ _ True hl trivial
    exact (congrArg Tr.run (by kernel_rfl : evV Try.prog (table tab_skylightref06_Along) 16 12 O_skylightref06_Even_2 119 [.agg [.int .i64 false v_x, .int .i64 false v_y, .int .i64 false v_z]] = tr_skylightref06_Even v_x v_y v_z)).trans (run_skylightref06_Even v_x v_y v_z h_v_x h_v_y h_v_z hpre)
  · cases h)
noncomputable def tab_skylightref06_Even : List (FuncId × Entry) := (119, e_skylightref06_Even) :: tab_skylightref06_Along
theorem tok_skylightref06_Even : TableOk Try.prog (table tab_skylightref06_Even) := table_cons ok_skylightref06_Even tok_skylightref06_Along

/-! skylightref06.Unit -/
def e_skylightref06_Unit : Entry := fun args => match args with | [.agg [.int .i64 false v_x, .int .i64 false v_y, .int .i64 false v_z]] => some (.leaf (.tuple [v3 (unitC v_x v_y v_z v_x) (unitC v_x v_y v_z v_y) (unitC v_x v_y v_z v_z), bb (okU v_x v_y v_z)])) | _ => none
theorem ok_skylightref06_Unit : EntryOk Try.prog 36 e_skylightref06_Unit := entry_ok progOk (T := table tab_skylightref06_Even) tok_skylightref06_Even 16 12 noKnown (fun _ _ _ _ => noKnown_ok) (by
  intro args t v h hv
  unfold e_skylightref06_Unit at h
  split at h
  · cases h
    cases hv
    refine ⟨rfl, by kernel_rfl, fun φ cs hl => ?_⟩
    rename_i v_x v_y v_z
    obtain ⟨h_v_x, h_v_y, h_v_z, _⟩ : InR .i64 v_x ∧ InR .i64 v_y ∧ InR .i64 v_z ∧ True := rngL_of _ _ True hl trivial
    exact (congrArg Tr.run (by kernel_rfl : evV Try.prog (table tab_skylightref06_Even) 16 12 noKnown 36 [.agg [.int .i64 false v_x, .int .i64 false v_y, .int .i64 false v_z]] = tr_skylightref06_Unit v_x v_y v_z)).trans (run_skylightref06_Unit v_x v_y v_z h_v_x h_v_y h_v_z)
  · cases h)
noncomputable def tab_skylightref06_Unit : List (FuncId × Entry) := (36, e_skylightref06_Unit) :: tab_skylightref06_Even
theorem tok_skylightref06_Unit : TableOk Try.prog (table tab_skylightref06_Unit) := table_cons ok_skylightref06_Unit tok_skylightref06_Even

end Go.Proofs.Ytfbakgcemnkcpaa
