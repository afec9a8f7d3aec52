/- Entries of the table: what functions give. -/
import Derived.Test.YtfbakgcemnkcpaaZEntRef2
import Derived.Test.YtfbakgcemnkcpaaQSkyRef3
set_option linter.unusedSimpArgs false
set_option linter.unusedVariables false
namespace Go.Proofs.Ytfbakgcemnkcpaa
open Go Go.Sky
set_option maxRecDepth 100000

/-! skylightref03.At -/
def e_skylightref03_At : Entry := fun args => match args with | [.int .i64 false v, .agg [.int .i64 false f_n, .int .i64 false f_d]] => some (.leaf (i6 (atF v f_n f_d))) | _ => none
theorem ok_skylightref03_At : EntryOk Try.prog 131 e_skylightref03_At := entry_ok progOk (T := table tab_skylightref01_Part) tok_skylightref01_Part 16 12 noKnown (fun _ _ _ _ => noKnown_ok) (by
  intro args t v h hv
  unfold e_skylightref03_At at h
  split at h
  · cases h
    cases hv
    refine ⟨rfl, by kernel_rfl, fun φ cs hl => ?_⟩
    rename_i v f_n f_d
    obtain ⟨h_v, h_f_n, h_f_d, _⟩ : InR .i64 v ∧ InR .i64 f_n ∧ InR .i64 f_d ∧ True := rngL_of _ _ True hl trivial
    exact (congrArg Tr.run (by kernel_rfl : evV Try.prog (table tab_skylightref01_Part) 16 12 noKnown 131 [.int .i64 false v, .agg [.int .i64 false f_n, .int .i64 false f_d]] = tr_skylightref03_At v f_n f_d)).trans (run_skylightref03_At v f_n f_d h_v h_f_n h_f_d)
  · cases h)
noncomputable def tab_skylightref03_At : List (FuncId × Entry) := (131, e_skylightref03_At) :: tab_skylightref01_Part
theorem tok_skylightref03_At : TableOk Try.prog (table tab_skylightref03_At) := table_cons ok_skylightref03_At tok_skylightref01_Part

/-! skylightref06.within -/
def e_skylightref06_within : Entry := fun args => match args with | [.agg [.int .i64 false v_x, .int .i64 false v_y, .int .i64 false v_z], .int .i64 false n] => some (.node (decide (-9223372036854775808 < n)) (.leaf (bb (decide ((-n ≤ v_x ∧ v_x ≤ n) ∧ (-n ≤ v_y ∧ v_y ≤ n) ∧ (-n ≤ v_z ∧ v_z ≤ n))))) .bad) | _ => none
theorem ok_skylightref06_within : EntryOk Try.prog 118 e_skylightref06_within := entry_ok progOk (T := table tab_skylightref03_At) tok_skylightref03_At 16 12 noKnown (fun _ _ _ _ => noKnown_ok) (by
  intro args t v h hv
  unfold e_skylightref06_within at h
  split at h
  · cases h
    simp only [Tr.run] at hv
    split at hv
    rotate_left
    · cases hv
    rename_i hpre0
    have hpre := of_decide_eq_true hpre0
    cases hv
    refine ⟨rfl, by kernel_rfl, fun φ cs hl => ?_⟩
    rename_i v_x v_y v_z n
    obtain ⟨h_v_x, h_v_y, h_v_z, h_n, _⟩ : InR .i64 v_x ∧ InR .i64 v_y ∧ InR .i64 v_z ∧ InR .i64 n ∧ True := rngL_of _ _ True hl trivial
    exact (congrArg Tr.run (by kernel_rfl : evV Try.prog (table tab_skylightref03_At) 16 12 noKnown 118 [.agg [.int .i64 false v_x, .int .i64 false v_y, .int .i64 false v_z], .int .i64 false n] = tr_skylightref06_within v_x v_y v_z n)).trans (run_skylightref06_within v_x v_y v_z n h_v_x h_v_y h_v_z h_n hpre)
  · cases h)
noncomputable def tab_skylightref06_within : List (FuncId × Entry) := (118, e_skylightref06_within) :: tab_skylightref03_At
theorem tok_skylightref06_within : TableOk Try.prog (table tab_skylightref06_within) := table_cons ok_skylightref06_within tok_skylightref03_At

/-! skylightref06.Scale -/
def e_skylightref06_Scale : Entry := fun args => match args with | [.agg [.int .i64 false v_x, .int .i64 false v_y, .int .i64 false v_z], .agg [.int .i64 false f_n, .int .i64 false f_d]] => some (.leaf (v3 (atF v_x f_n f_d) (atF v_y f_n f_d) (atF v_z f_n f_d))) | _ => none
theorem ok_skylightref06_Scale : EntryOk Try.prog 51 e_skylightref06_Scale := entry_ok progOk (T := table tab_skylightref06_within) tok_skylightref06_within 16 12 noKnown (fun _ _ _ _ => noKnown_ok) (by
  intro args t v h hv
  unfold e_skylightref06_Scale at h
  split at h
  · cases h
    cases hv
    refine ⟨rfl, by kernel_rfl, fun φ cs hl => ?_⟩
    rename_i v_x v_y v_z f_n f_d
    obtain ⟨h_v_x, h_v_y, h_v_z, h_f_n, h_f_d, _⟩ : InR .i64 v_x ∧ InR .i64 v_y ∧ InR .i64 v_z ∧ InR .i64 f_n ∧ InR .i64 f_d ∧ True := rngL_of _ _ True hl trivial
    exact (congrArg Tr.run (by kernel_rfl : evV Try.prog (table tab_skylightref06_within) 16 12 noKnown 51 [.agg [.int .i64 false v_x, .int .i64 false v_y, .int .i64 false v_z], .agg [.int .i64 false f_n, .int .i64 false f_d]] = tr_skylightref06_Scale v_x v_y v_z f_n f_d)).trans (run_skylightref06_Scale v_x v_y v_z f_n f_d h_v_x h_v_y h_v_z h_f_n h_f_d)
  · cases h)
noncomputable def tab_skylightref06_Scale : List (FuncId × Entry) := (51, e_skylightref06_Scale) :: tab_skylightref06_within
theorem tok_skylightref06_Scale : TableOk Try.prog (table tab_skylightref06_Scale) := table_cons ok_skylightref06_Scale tok_skylightref06_within

/-! skylightref06.Along -/
def e_skylightref06_Along : Entry := fun args => match args with | [.agg [.int .i64 false r_o_x, .int .i64 false r_o_y, .int .i64 false r_o_z, .int .i64 false r_d_x, .int .i64 false r_d_y, .int .i64 false r_d_z], .agg [.int .i64 false f_n, .int .i64 false f_d]] => some (.leaf (v3 (sat (r_o_x + atF r_d_x f_n f_d)) (sat (r_o_y + atF r_d_y f_n f_d)) (sat (r_o_z + atF r_d_z f_n f_d)))) | _ => none
theorem ok_skylightref06_Along : EntryOk Try.prog 53 e_skylightref06_Along := entry_ok progOk (T := table tab_skylightref06_Scale) tok_skylightref06_Scale 16 12 noKnown (fun _ _ _ _ => noKnown_ok) (by
  intro args t v h hv
  unfold e_skylightref06_Along at h
  split at h
  · cases h
    cases hv
    refine ⟨rfl, by kernel_rfl, fun φ cs hl => ?_⟩
    rename_i r_o_x r_o_y r_o_z r_d_x r_d_y r_d_z f_n f_d
    obtain ⟨h_r_o_x, h_r_o_y, h_r_o_z, h_r_d_x, h_r_d_y, h_r_d_z, h_f_n, h_f_d, _⟩ : InR .i64 r_o_x ∧ InR .i64 r_o_y ∧ InR .i64 r_o_z ∧ InR .i64 r_d_x ∧ InR .i64 r_d_y ∧ InR .i64 r_d_z ∧ InR .i64 f_n ∧ InR .i64 f_d ∧ True := rngL_of _ _ True hl trivial
    exact (congrArg Tr.run (by kernel_rfl : evV Try.prog (table tab_skylightref06_Scale) 16 12 noKnown 53 [.agg [.int .i64 false r_o_x, .int .i64 false r_o_y, .int .i64 false r_o_z, .int .i64 false r_d_x, .int .i64 false r_d_y, .int .i64 false r_d_z], .agg [.int .i64 false f_n, .int .i64 false f_d]] = tr_skylightref06_Along r_o_x r_o_y r_o_z r_d_x r_d_y r_d_z f_n f_d)).trans (run_skylightref06_Along r_o_x r_o_y r_o_z r_d_x r_d_y r_d_z f_n f_d h_r_o_x h_r_o_y h_r_o_z h_r_d_x h_r_d_y h_r_d_z h_f_n h_f_d)
  · cases h)
noncomputable def tab_skylightref06_Along : List (FuncId × Entry) := (53, e_skylightref06_Along) :: tab_skylightref06_Scale
theorem tok_skylightref06_Along : TableOk Try.prog (table tab_skylightref06_Along) := table_cons ok_skylightref06_Along tok_skylightref06_Scale

end Go.Proofs.Ytfbakgcemnkcpaa
