/- Entries of the table: what functions give. -/
import Derived.Test.YtfbakgcemnkcpaaZEntWide1
import Derived.Test.YtfbakgcemnkcpaaQSkyVec1
set_option linter.unusedSimpArgs false
set_option linter.unusedVariables false
namespace Go.Proofs.Ytfbakgcemnkcpaa
open Go Go.Sky
set_option maxRecDepth 100000

/-! vec.Near -/
def e_vec_Near : Entry := fun args => match args with | [.agg [.int .i64 false v_x, .int .i64 false v_y, .int .i64 false v_z]] => some (.leaf (bb (nearB v_x v_y v_z))) | _ => none
theorem ok_vec_Near : EntryOk Try.prog 37 e_vec_Near := entry_ok progOk (T := table tab_frac_At) tok_frac_At 16 12 noKnown (fun _ _ _ _ => noKnown_ok) (by
  intro args t v h hv
  unfold e_vec_Near at h
  split at h
  · cases h
    cases hv
    refine ⟨rfl, by kernel_rfl, fun φ cs hl => ?_⟩
    rename_i v_x v_y v_z
    obtain ⟨h_v_x, h_v_y, h_v_z, _⟩ : InR .i64 v_x ∧ InR .i64 v_y ∧ InR .i64 v_z ∧ True := rngL_of _ _ True hl trivial
    exact (congrArg Tr.run (by kernel_rfl : evV Try.prog (table tab_frac_At) 16 12 noKnown 37 [.agg [.int .i64 false v_x, .int .i64 false v_y, .int .i64 false v_z]] = tr_vec_Near v_x v_y v_z)).trans (run_vec_Near v_x v_y v_z h_v_x h_v_y h_v_z)
  · cases h)
noncomputable def tab_vec_Near : List (FuncId × Entry) := (37, e_vec_Near) :: tab_frac_At
theorem tok_vec_Near : TableOk Try.prog (table tab_vec_Near) := table_cons ok_vec_Near tok_frac_At

/-! vec.Add -/
def e_vec_Add : Entry := fun args => match args with | [.agg [.int .i64 false a_x, .int .i64 false a_y, .int .i64 false a_z], .agg [.int .i64 false b_x, .int .i64 false b_y, .int .i64 false b_z]] => some (.leaf (v3 (sat (a_x + b_x)) (sat (a_y + b_y)) (sat (a_z + b_z)))) | _ => none
theorem ok_vec_Add : EntryOk Try.prog 39 e_vec_Add := entry_ok progOk (T := table tab_vec_Near) tok_vec_Near 16 12 noKnown (fun _ _ _ _ => noKnown_ok) (by
  intro args t v h hv
  unfold e_vec_Add at h
  split at h
  · cases h
    cases hv
    refine ⟨rfl, by kernel_rfl, fun φ cs hl => ?_⟩
    rename_i a_x a_y a_z b_x b_y b_z
    obtain ⟨h_a_x, h_a_y, h_a_z, h_b_x, h_b_y, h_b_z, _⟩ : InR .i64 a_x ∧ InR .i64 a_y ∧ InR .i64 a_z ∧ InR .i64 b_x ∧ InR .i64 b_y ∧ InR .i64 b_z ∧ True := rngL_of _ _ True hl trivial
    exact (congrArg Tr.run (by kernel_rfl : evV Try.prog (table tab_vec_Near) 16 12 noKnown 39 [.agg [.int .i64 false a_x, .int .i64 false a_y, .int .i64 false a_z], .agg [.int .i64 false b_x, .int .i64 false b_y, .int .i64 false b_z]] = tr_vec_Add a_x a_y a_z b_x b_y b_z)).trans (run_vec_Add a_x a_y a_z b_x b_y b_z h_a_x h_a_y h_a_z h_b_x h_b_y h_b_z)
  · cases h)
noncomputable def tab_vec_Add : List (FuncId × Entry) := (39, e_vec_Add) :: tab_vec_Near
theorem tok_vec_Add : TableOk Try.prog (table tab_vec_Add) := table_cons ok_vec_Add tok_vec_Near

/-! vec.Sub -/
def e_vec_Sub : Entry := fun args => match args with | [.agg [.int .i64 false a_x, .int .i64 false a_y, .int .i64 false a_z], .agg [.int .i64 false b_x, .int .i64 false b_y, .int .i64 false b_z]] => some (.leaf (v3 (sat (a_x + sat (b_x * -1))) (sat (a_y + sat (b_y * -1))) (sat (a_z + sat (b_z * -1))))) | _ => none
theorem ok_vec_Sub : EntryOk Try.prog 41 e_vec_Sub := entry_ok progOk (T := table tab_vec_Add) tok_vec_Add 16 12 noKnown (fun _ _ _ _ => noKnown_ok) (by
  intro args t v h hv
  unfold e_vec_Sub at h
  split at h
  · cases h
    cases hv
    refine ⟨rfl, by kernel_rfl, fun φ cs hl => ?_⟩
    rename_i a_x a_y a_z b_x b_y b_z
    obtain ⟨h_a_x, h_a_y, h_a_z, h_b_x, h_b_y, h_b_z, _⟩ : InR .i64 a_x ∧ InR .i64 a_y ∧ InR .i64 a_z ∧ InR .i64 b_x ∧ InR .i64 b_y ∧ InR .i64 b_z ∧ True := rngL_of _ _ True hl trivial
    exact (congrArg Tr.run (by kernel_rfl : evV Try.prog (table tab_vec_Add) 16 12 noKnown 41 [.agg [.int .i64 false a_x, .int .i64 false a_y, .int .i64 false a_z], .agg [.int .i64 false b_x, .int .i64 false b_y, .int .i64 false b_z]] = tr_vec_Sub a_x a_y a_z b_x b_y b_z)).trans (run_vec_Sub a_x a_y a_z b_x b_y b_z h_a_x h_a_y h_a_z h_b_x h_b_y h_b_z)
  · cases h)
noncomputable def tab_vec_Sub : List (FuncId × Entry) := (41, e_vec_Sub) :: tab_vec_Add
theorem tok_vec_Sub : TableOk Try.prog (table tab_vec_Sub) := table_cons ok_vec_Sub tok_vec_Add

/-! vec.Dot -/
def e_vec_Dot : Entry := fun args => match args with | [.agg [.int .i64 false a_x, .int .i64 false a_y, .int .i64 false a_z], .agg [.int .i64 false b_x, .int .i64 false b_y, .int .i64 false b_z]] => some (.leaf (i6 (dotN a_x a_y a_z b_x b_y b_z))) | _ => none
theorem ok_vec_Dot : EntryOk Try.prog 43 e_vec_Dot := entry_ok progOk (T := table tab_vec_Sub) tok_vec_Sub 16 12 noKnown (fun _ _ _ _ => noKnown_ok) (by
  intro args t v h hv
  unfold e_vec_Dot at h
  split at h
  · cases h
    cases hv
    refine ⟨rfl, by kernel_rfl, fun φ cs hl => ?_⟩
    rename_i a_x a_y a_z b_x b_y b_z
    obtain ⟨h_a_x, h_a_y, h_a_z, h_b_x, h_b_y, h_b_z, _⟩ : InR .i64 a_x ∧ InR .i64 a_y ∧ InR .i64 a_z ∧ InR .i64 b_x ∧ InR .i64 b_y ∧ InR .i64 b_z ∧ True := rngL_of _ _ True hl trivial
    exact (congrArg Tr.run (by kernel_rfl : evV Try.prog (table tab_vec_Sub) 16 12 noKnown 43 [.agg [.int .i64 false a_x, .int .i64 false a_y, .int .i64 false a_z], .agg [.int .i64 false b_x, .int .i64 false b_y, .int .i64 false b_z]] = tr_vec_Dot a_x a_y a_z b_x b_y b_z)).trans (run_vec_Dot a_x a_y a_z b_x b_y b_z h_a_x h_a_y h_a_z h_b_x h_b_y h_b_z)
  · cases h)
noncomputable def tab_vec_Dot : List (FuncId × Entry) := (43, e_vec_Dot) :: tab_vec_Sub
theorem tok_vec_Dot : TableOk Try.prog (table tab_vec_Dot) := table_cons ok_vec_Dot tok_vec_Sub

/-! vec.Cross -/
def e_vec_Cross : Entry := fun args => match args with | [.agg [.int .i64 false a_x, .int .i64 false a_y, .int .i64 false a_z], .agg [.int .i64 false b_x, .int .i64 false b_y, .int .i64 false b_z]] => some (.leaf (v3 (crN a_y a_z b_y b_z a_x b_x) (crN a_z a_x b_z b_x a_y b_y) (crN a_x a_y b_x b_y a_z b_z))) | _ => none
theorem ok_vec_Cross : EntryOk Try.prog 45 e_vec_Cross := entry_ok progOk (T := table tab_vec_Dot) tok_vec_Dot 16 12 noKnown (fun _ _ _ _ => noKnown_ok) (by
  intro args t v h hv
  unfold e_vec_Cross at h
  split at h
  · cases h
    cases hv
    refine ⟨rfl, by kernel_rfl, fun φ cs hl => ?_⟩
    rename_i a_x a_y a_z b_x b_y b_z
    obtain ⟨h_a_x, h_a_y, h_a_z, h_b_x, h_b_y, h_b_z, _⟩ : InR .i64 a_x ∧ InR .i64 a_y ∧ InR .i64 a_z ∧ InR .i64 b_x ∧ InR .i64 b_y ∧ InR .i64 b_z ∧ True := rngL_of _ _ True hl trivial
    exact (congrArg Tr.run (by kernel_rfl : evV Try.prog (table tab_vec_Dot) 16 12 noKnown 45 [.agg [.int .i64 false a_x, .int .i64 false a_y, .int .i64 false a_z], .agg [.int .i64 false b_x, .int .i64 false b_y, .int .i64 false b_z]] = tr_vec_Cross a_x a_y a_z b_x b_y b_z)).trans (run_vec_Cross a_x a_y a_z b_x b_y b_z h_a_x h_a_y h_a_z h_b_x h_b_y h_b_z)
  · cases h)
noncomputable def tab_vec_Cross : List (FuncId × Entry) := (45, e_vec_Cross) :: tab_vec_Dot
theorem tok_vec_Cross : TableOk Try.prog (table tab_vec_Cross) := table_cons ok_vec_Cross tok_vec_Dot

/-! vec.Volume -/
def e_vec_Volume : Entry := fun args => match args with | [.agg [.int .i64 false a_x, .int .i64 false a_y, .int .i64 false a_z], .agg [.int .i64 false b_x, .int .i64 false b_y, .int .i64 false b_z], .agg [.int .i64 false c_x, .int .i64 false c_y, .int .i64 false c_z]] => some (.leaf (i6 (volN a_x a_y a_z b_x b_y b_z c_x c_y c_z))) | _ => none
theorem ok_vec_Volume : EntryOk Try.prog 47 e_vec_Volume := entry_ok progOk (T := table tab_vec_Cross) tok_vec_Cross 16 12 noKnown (fun _ _ _ _ => noKnown_ok) (by
  intro args t v h hv
  unfold e_vec_Volume at h
  split at h
  · cases h
    cases hv
    refine ⟨rfl, by kernel_rfl, fun φ cs hl => ?_⟩
    rename_i a_x a_y a_z b_x b_y b_z c_x c_y c_z
    obtain ⟨h_a_x, h_a_y, h_a_z, h_b_x, h_b_y, h_b_z, h_c_x, h_c_y, h_c_z, _⟩ : InR .i64 a_x ∧ InR .i64 a_y ∧ InR .i64 a_z ∧ InR .i64 b_x ∧ InR .i64 b_y ∧ InR .i64 b_z ∧ InR .i64 c_x ∧ InR .i64 c_y ∧ InR .i64 c_z ∧ True := rngL_of _ _ True hl trivial
    exact (congrArg Tr.run (by kernel_rfl : evV Try.prog (table tab_vec_Cross) 16 12 noKnown 47 [.agg [.int .i64 false a_x, .int .i64 false a_y, .int .i64 false a_z], .agg [.int .i64 false b_x, .int .i64 false b_y, .int .i64 false b_z], .agg [.int .i64 false c_x, .int .i64 false c_y, .int .i64 false c_z]] = tr_vec_Volume a_x a_y a_z b_x b_y b_z c_x c_y c_z)).trans (run_vec_Volume a_x a_y a_z b_x b_y b_z c_x c_y c_z h_a_x h_a_y h_a_z h_b_x h_b_y h_b_z h_c_x h_c_y h_c_z)
  · cases h)
noncomputable def tab_vec_Volume : List (FuncId × Entry) := (47, e_vec_Volume) :: tab_vec_Cross
theorem tok_vec_Volume : TableOk Try.prog (table tab_vec_Volume) := table_cons ok_vec_Volume tok_vec_Cross

/-! skylightref06.Near -/
def e_skylightref06_Near : Entry := fun args => match args with | [.agg [.int .i64 false v_x, .int .i64 false v_y, .int .i64 false v_z]] => some (.leaf (bb (nearB v_x v_y v_z))) | _ => none
theorem ok_skylightref06_Near : EntryOk Try.prog 38 e_skylightref06_Near := entry_ok progOk (T := table tab_vec_Volume) tok_vec_Volume 16 12 noKnown (fun _ _ _ _ => noKnown_ok) (by
  intro args t v h hv
  unfold e_skylightref06_Near at h
  split at h
  · cases h
    cases hv
    refine ⟨rfl, by kernel_rfl, fun φ cs hl => ?_⟩
    rename_i v_x v_y v_z
    obtain ⟨h_v_x, h_v_y, h_v_z, _⟩ : InR .i64 v_x ∧ InR .i64 v_y ∧ InR .i64 v_z ∧ True := rngL_of _ _ True hl trivial
    exact (congrArg Tr.run (by kernel_rfl : evV Try.prog (table tab_vec_Volume) 16 12 noKnown 38 [.agg [.int .i64 false v_x, .int .i64 false v_y, .int .i64 false v_z]] = tr_skylightref06_Near v_x v_y v_z)).trans (run_skylightref06_Near v_x v_y v_z h_v_x h_v_y h_v_z)
  · cases h)
noncomputable def tab_skylightref06_Near : List (FuncId × Entry) := (38, e_skylightref06_Near) :: tab_vec_Volume
theorem tok_skylightref06_Near : TableOk Try.prog (table tab_skylightref06_Near) := table_cons ok_skylightref06_Near tok_vec_Volume

end Go.Proofs.Ytfbakgcemnkcpaa
