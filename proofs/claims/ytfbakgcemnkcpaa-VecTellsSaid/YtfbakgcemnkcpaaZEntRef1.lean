/- Entries of the table: what functions give. -/
import Derived.Test.YtfbakgcemnkcpaaZEntVec3
import Derived.Test.YtfbakgcemnkcpaaQSkyRef1
set_option linter.unusedSimpArgs false
set_option linter.unusedVariables false
namespace Go.Proofs.Ytfbakgcemnkcpaa
open Go Go.Sky
set_option maxRecDepth 100000

/-! skylightref01.Plus -/
def e_skylightref01_Plus : Entry := fun args => match args with | [.int .i64 false a, .int .i64 false b] => some (.leaf (i6 (sat (a + b)))) | _ => none
theorem ok_skylightref01_Plus : EntryOk Try.prog 122 e_skylightref01_Plus := entry_ok progOk (T := table tab_skylightlaw06_VecUnit) tok_skylightlaw06_VecUnit 16 12 noKnown (fun _ _ _ _ => noKnown_ok) (by
  intro args t v h hv
  unfold e_skylightref01_Plus at h
  split at h
  · cases h
    cases hv
    refine ⟨rfl, by kernel_rfl, fun φ cs hl => ?_⟩
    rename_i a b
    obtain ⟨h_a, h_b, _⟩ : InR .i64 a ∧ InR .i64 b ∧ True := rngL_of _ _ True hl trivial
    exact (congrArg Tr.run (by kernel_rfl : evV Try.prog (table tab_skylightlaw06_VecUnit) 16 12 noKnown 122 [.int .i64 false a, .int .i64 false b] = tr_skylightref01_Plus a b)).trans (run_skylightref01_Plus a b h_a h_b)
  · cases h)
noncomputable def tab_skylightref01_Plus : List (FuncId × Entry) := (122, e_skylightref01_Plus) :: tab_skylightlaw06_VecUnit
theorem tok_skylightref01_Plus : TableOk Try.prog (table tab_skylightref01_Plus) := table_cons ok_skylightref01_Plus tok_skylightlaw06_VecUnit

/-! skylightref01.Size -/
def e_skylightref01_Size : Entry := fun args => match args with | [.int .i64 false n] => some (.leaf (u6 (sz n))) | _ => none
theorem ok_skylightref01_Size : EntryOk Try.prog 182 e_skylightref01_Size := entry_ok progOk (T := table tab_skylightref01_Plus) tok_skylightref01_Plus 16 12 noKnown (fun _ _ _ _ => noKnown_ok) (by
  intro args t v h hv
  unfold e_skylightref01_Size at h
  split at h
  · cases h
    cases hv
    refine ⟨rfl, by kernel_rfl, fun φ cs hl => ?_⟩
    rename_i n
    obtain ⟨h_n, _⟩ : InR .i64 n ∧ True := rngL_of _ _ True hl trivial
    exact (congrArg Tr.run (by kernel_rfl : evV Try.prog (table tab_skylightref01_Plus) 16 12 noKnown 182 [.int .i64 false n] = tr_skylightref01_Size n)).trans (run_skylightref01_Size n h_n)
  · cases h)
noncomputable def tab_skylightref01_Size : List (FuncId × Entry) := (182, e_skylightref01_Size) :: tab_skylightref01_Plus
theorem tok_skylightref01_Size : TableOk Try.prog (table tab_skylightref01_Size) := table_cons ok_skylightref01_Size tok_skylightref01_Plus

/-! skylightref01.Mul -/
def e_skylightref01_Mul : Entry := fun args => match args with | [.int .u64 false a, .int .u64 false b] => some (.leaf (.tuple [u6 (a*b/18446744073709551616), u6 (a*b%18446744073709551616)])) | _ => none
theorem ok_skylightref01_Mul : EntryOk Try.prog 181 e_skylightref01_Mul := entry_ok progOk (T := table tab_skylightref01_Size) tok_skylightref01_Size 16 12 noKnown (fun _ _ _ _ => noKnown_ok) (by
  intro args t v h hv
  unfold e_skylightref01_Mul at h
  split at h
  · cases h
    cases hv
    refine ⟨rfl, by kernel_rfl, fun φ cs hl => ?_⟩
    rename_i a b
    obtain ⟨h_a, h_b, _⟩ : InR .u64 a ∧ InR .u64 b ∧ True := rngL_of _ _ True hl trivial
    exact (congrArg Tr.run (by kernel_rfl : evV Try.prog (table tab_skylightref01_Size) 16 12 noKnown 181 [.int .u64 false a, .int .u64 false b] = tr_skylightref01_Mul a b)).trans (run_skylightref01_Mul a b h_a h_b)
  · cases h)
noncomputable def tab_skylightref01_Mul : List (FuncId × Entry) := (181, e_skylightref01_Mul) :: tab_skylightref01_Size
theorem tok_skylightref01_Mul : TableOk Try.prog (table tab_skylightref01_Mul) := table_cons ok_skylightref01_Mul tok_skylightref01_Size

/-! skylightref01.Times -/
def e_skylightref01_Times : Entry := fun args => match args with | [.int .i64 false a, .int .i64 false b] => some (.leaf (i6 (sat (a * b)))) | _ => none
theorem ok_skylightref01_Times : EntryOk Try.prog 125 e_skylightref01_Times := entry_ok progOk (T := table tab_skylightref01_Mul) tok_skylightref01_Mul 16 12 noKnown (fun _ _ _ _ => noKnown_ok) (by
  intro args t v h hv
  unfold e_skylightref01_Times at h
  split at h
  · cases h
    cases hv
    refine ⟨rfl, by kernel_rfl, fun φ cs hl => ?_⟩
    rename_i a b
    obtain ⟨h_a, h_b, _⟩ : InR .i64 a ∧ InR .i64 b ∧ True := rngL_of _ _ True hl trivial
    exact (congrArg Tr.run (by kernel_rfl : evV Try.prog (table tab_skylightref01_Mul) 16 12 noKnown 125 [.int .i64 false a, .int .i64 false b] = tr_skylightref01_Times a b)).trans (run_skylightref01_Times a b h_a h_b)
  · cases h)
noncomputable def tab_skylightref01_Times : List (FuncId × Entry) := (125, e_skylightref01_Times) :: tab_skylightref01_Mul
theorem tok_skylightref01_Times : TableOk Try.prog (table tab_skylightref01_Times) := table_cons ok_skylightref01_Times tok_skylightref01_Mul

/-! skylightref01.Div -/
def e_skylightref01_Div : Entry := fun args => match args with | [.int .i64 false a, .int .i64 false b] => some (.leaf (i6 (if 1 ≤ b then a / b else 0))) | _ => none
theorem ok_skylightref01_Div : EntryOk Try.prog 167 e_skylightref01_Div := entry_ok progOk (T := table tab_skylightref01_Times) tok_skylightref01_Times 16 12 noKnown (fun _ _ _ _ => noKnown_ok) (by
  intro args t v h hv
  unfold e_skylightref01_Div at h
  split at h
  · cases h
    cases hv
    refine ⟨rfl, by kernel_rfl, fun φ cs hl => ?_⟩
    rename_i a b
    obtain ⟨h_a, h_b, _⟩ : InR .i64 a ∧ InR .i64 b ∧ True := rngL_of _ _ True hl trivial
    exact (congrArg Tr.run (by kernel_rfl : evV Try.prog (table tab_skylightref01_Times) 16 12 noKnown 167 [.int .i64 false a, .int .i64 false b] = tr_skylightref01_Div a b)).trans (run_skylightref01_Div a b h_a h_b)
  · cases h)
noncomputable def tab_skylightref01_Div : List (FuncId × Entry) := (167, e_skylightref01_Div) :: tab_skylightref01_Times
theorem tok_skylightref01_Div : TableOk Try.prog (table tab_skylightref01_Div) := table_cons ok_skylightref01_Div tok_skylightref01_Times

/-! skylightref03.Right -/
def e_skylightref03_Right : Entry := fun args => match args with | [.agg [.int .i64 false f_n, .int .i64 false f_d]] => some (.leaf (bb (decide (f_d ≥ 1)))) | _ => none
theorem ok_skylightref03_Right : EntryOk Try.prog 185 e_skylightref03_Right := entry_ok progOk (T := table tab_skylightref01_Div) tok_skylightref01_Div 16 12 noKnown (fun _ _ _ _ => noKnown_ok) (by
  intro args t v h hv
  unfold e_skylightref03_Right at h
  split at h
  · cases h
    cases hv
    refine ⟨rfl, by kernel_rfl, fun φ cs hl => ?_⟩
    rename_i f_n f_d
    obtain ⟨h_f_n, h_f_d, _⟩ : InR .i64 f_n ∧ InR .i64 f_d ∧ True := rngL_of _ _ True hl trivial
    exact (congrArg Tr.run (by kernel_rfl : evV Try.prog (table tab_skylightref01_Div) 16 12 noKnown 185 [.agg [.int .i64 false f_n, .int .i64 false f_d]] = tr_skylightref03_Right f_n f_d)).trans (run_skylightref03_Right f_n f_d h_f_n h_f_d)
  · cases h)
noncomputable def tab_skylightref03_Right : List (FuncId × Entry) := (185, e_skylightref03_Right) :: tab_skylightref01_Div
theorem tok_skylightref03_Right : TableOk Try.prog (table tab_skylightref03_Right) := table_cons ok_skylightref03_Right tok_skylightref01_Div

/-! skylightref06.Add -/
def e_skylightref06_Add : Entry := fun args => match args with | [.agg [.int .i64 false a_x, .int .i64 false a_y, .int .i64 false a_z], .agg [.int .i64 false b_x, .int .i64 false b_y, .int .i64 false b_z]] => some (.leaf (v3 (sat (a_x + b_x)) (sat (a_y + b_y)) (sat (a_z + b_z)))) | _ => none
theorem ok_skylightref06_Add : EntryOk Try.prog 40 e_skylightref06_Add := entry_ok progOk (T := table tab_skylightref03_Right) tok_skylightref03_Right 16 12 noKnown (fun _ _ _ _ => noKnown_ok) (by
  intro args t v h hv
  unfold e_skylightref06_Add at h
  split at h
  · cases h
    cases hv
    refine ⟨rfl, by kernel_rfl, fun φ cs hl => ?_⟩
    rename_i a_x a_y a_z b_x b_y b_z
    obtain ⟨h_a_x, h_a_y, h_a_z, h_b_x, h_b_y, h_b_z, _⟩ : InR .i64 a_x ∧ InR .i64 a_y ∧ InR .i64 a_z ∧ InR .i64 b_x ∧ InR .i64 b_y ∧ InR .i64 b_z ∧ True := rngL_of _ _ True hl trivial
    exact (congrArg Tr.run (by kernel_rfl : evV Try.prog (table tab_skylightref03_Right) 16 12 noKnown 40 [.agg [.int .i64 false a_x, .int .i64 false a_y, .int .i64 false a_z], .agg [.int .i64 false b_x, .int .i64 false b_y, .int .i64 false b_z]] = tr_skylightref06_Add a_x a_y a_z b_x b_y b_z)).trans (run_skylightref06_Add a_x a_y a_z b_x b_y b_z h_a_x h_a_y h_a_z h_b_x h_b_y h_b_z)
  · cases h)
noncomputable def tab_skylightref06_Add : List (FuncId × Entry) := (40, e_skylightref06_Add) :: tab_skylightref03_Right
theorem tok_skylightref06_Add : TableOk Try.prog (table tab_skylightref06_Add) := table_cons ok_skylightref06_Add tok_skylightref03_Right

/-! skylightref06.Sub -/
def e_skylightref06_Sub : Entry := fun args => match args with | [.agg [.int .i64 false a_x, .int .i64 false a_y, .int .i64 false a_z], .agg [.int .i64 false b_x, .int .i64 false b_y, .int .i64 false b_z]] => some (.leaf (v3 (sat (a_x + sat (b_x * -1))) (sat (a_y + sat (b_y * -1))) (sat (a_z + sat (b_z * -1))))) | _ => none
theorem ok_skylightref06_Sub : EntryOk Try.prog 42 e_skylightref06_Sub := entry_ok progOk (T := table tab_skylightref06_Add) tok_skylightref06_Add 16 12 noKnown (fun _ _ _ _ => noKnown_ok) (by
  intro args t v h hv
  unfold e_skylightref06_Sub at h
  split at h
  · cases h
    cases hv
    refine ⟨rfl, by kernel_rfl, fun φ cs hl => ?_⟩
    rename_i a_x a_y a_z b_x b_y b_z
    obtain ⟨h_a_x, h_a_y, h_a_z, h_b_x, h_b_y, h_b_z, _⟩ : InR .i64 a_x ∧ InR .i64 a_y ∧ InR .i64 a_z ∧ InR .i64 b_x ∧ InR .i64 b_y ∧ InR .i64 b_z ∧ True := rngL_of _ _ True hl trivial
    exact (congrArg Tr.run (by kernel_rfl : evV Try.prog (table tab_skylightref06_Add) 16 12 noKnown 42 [.agg [.int .i64 false a_x, .int .i64 false a_y, .int .i64 false a_z], .agg [.int .i64 false b_x, .int .i64 false b_y, .int .i64 false b_z]] = tr_skylightref06_Sub a_x a_y a_z b_x b_y b_z)).trans (run_skylightref06_Sub a_x a_y a_z b_x b_y b_z h_a_x h_a_y h_a_z h_b_x h_b_y h_b_z)
  · cases h)
noncomputable def tab_skylightref06_Sub : List (FuncId × Entry) := (42, e_skylightref06_Sub) :: tab_skylightref06_Add
theorem tok_skylightref06_Sub : TableOk Try.prog (table tab_skylightref06_Sub) := table_cons ok_skylightref06_Sub tok_skylightref06_Add

/-! skylightref06.Dot -/
def e_skylightref06_Dot : Entry := fun args => match args with | [.agg [.int .i64 false a_x, .int .i64 false a_y, .int .i64 false a_z], .agg [.int .i64 false b_x, .int .i64 false b_y, .int .i64 false b_z]] => some (.leaf (i6 (dotN a_x a_y a_z b_x b_y b_z))) | _ => none
theorem ok_skylightref06_Dot : EntryOk Try.prog 44 e_skylightref06_Dot := entry_ok progOk (T := table tab_skylightref06_Sub) tok_skylightref06_Sub 16 12 noKnown (fun _ _ _ _ => noKnown_ok) (by
  intro args t v h hv
  unfold e_skylightref06_Dot at h
  split at h
  · cases h
    cases hv
    refine ⟨rfl, by kernel_rfl, fun φ cs hl => ?_⟩
    rename_i a_x a_y a_z b_x b_y b_z
    obtain ⟨h_a_x, h_a_y, h_a_z, h_b_x, h_b_y, h_b_z, _⟩ : InR .i64 a_x ∧ InR .i64 a_y ∧ InR .i64 a_z ∧ InR .i64 b_x ∧ InR .i64 b_y ∧ InR .i64 b_z ∧ True := rngL_of _ _ True hl trivial
    exact (congrArg Tr.run (by kernel_rfl : evV Try.prog (table tab_skylightref06_Sub) 16 12 noKnown 44 [.agg [.int .i64 false a_x, .int .i64 false a_y, .int .i64 false a_z], .agg [.int .i64 false b_x, .int .i64 false b_y, .int .i64 false b_z]] = tr_skylightref06_Dot a_x a_y a_z b_x b_y b_z)).trans (run_skylightref06_Dot a_x a_y a_z b_x b_y b_z h_a_x h_a_y h_a_z h_b_x h_b_y h_b_z)
  · cases h)
noncomputable def tab_skylightref06_Dot : List (FuncId × Entry) := (44, e_skylightref06_Dot) :: tab_skylightref06_Sub
theorem tok_skylightref06_Dot : TableOk Try.prog (table tab_skylightref06_Dot) := table_cons ok_skylightref06_Dot tok_skylightref06_Sub

/-! skylightref06.Cross -/
def e_skylightref06_Cross : Entry := fun args => match args with | [.agg [.int .i64 false a_x, .int .i64 false a_y, .int .i64 false a_z], .agg [.int .i64 false b_x, .int .i64 false b_y, .int .i64 false b_z]] => some (.leaf (v3 (crN a_y a_z b_y b_z a_x b_x) (crN a_z a_x b_z b_x a_y b_y) (crN a_x a_y b_x b_y a_z b_z))) | _ => none
theorem ok_skylightref06_Cross : EntryOk Try.prog 46 e_skylightref06_Cross := entry_ok progOk (T := table tab_skylightref06_Dot) tok_skylightref06_Dot 16 12 noKnown (fun _ _ _ _ => noKnown_ok) (by
  intro args t v h hv
  unfold e_skylightref06_Cross at h
  split at h
  · cases h
    cases hv
    refine ⟨rfl, by kernel_rfl, fun φ cs hl => ?_⟩
    rename_i a_x a_y a_z b_x b_y b_z
    obtain ⟨h_a_x, h_a_y, h_a_z, h_b_x, h_b_y, h_b_z, _⟩ : InR .i64 a_x ∧ InR .i64 a_y ∧ InR .i64 a_z ∧ InR .i64 b_x ∧ InR .i64 b_y ∧ InR .i64 b_z ∧ True := rngL_of _ _ True hl trivial
    exact (congrArg Tr.run (by kernel_rfl : evV Try.prog (table tab_skylightref06_Dot) 16 12 noKnown 46 [.agg [.int .i64 false a_x, .int .i64 false a_y, .int .i64 false a_z], .agg [.int .i64 false b_x, .int .i64 false b_y, .int .i64 false b_z]] = tr_skylightref06_Cross a_x a_y a_z b_x b_y b_z)).trans (run_skylightref06_Cross a_x a_y a_z b_x b_y b_z h_a_x h_a_y h_a_z h_b_x h_b_y h_b_z)
  · cases h)
noncomputable def tab_skylightref06_Cross : List (FuncId × Entry) := (46, e_skylightref06_Cross) :: tab_skylightref06_Dot
theorem tok_skylightref06_Cross : TableOk Try.prog (table tab_skylightref06_Cross) := table_cons ok_skylightref06_Cross tok_skylightref06_Dot

/-! skylightref06.Volume -/
def e_skylightref06_Volume : Entry := fun args => match args with | [.agg [.int .i64 false a_x, .int .i64 false a_y, .int .i64 false a_z], .agg [.int .i64 false b_x, .int .i64 false b_y, .int .i64 false b_z], .agg [.int .i64 false c_x, .int .i64 false c_y, .int .i64 false c_z]] => some (.leaf (i6 (volN a_x a_y a_z b_x b_y b_z c_x c_y c_z))) | _ => none
theorem ok_skylightref06_Volume : EntryOk Try.prog 48 e_skylightref06_Volume := entry_ok progOk (T := table tab_skylightref06_Cross) tok_skylightref06_Cross 16 12 noKnown (fun _ _ _ _ => noKnown_ok) (by
  intro args t v h hv
  unfold e_skylightref06_Volume at h
  split at h
  · cases h
    cases hv
    refine ⟨rfl, by kernel_rfl, fun φ cs hl => ?_⟩
    rename_i a_x a_y a_z b_x b_y b_z c_x c_y c_z
    obtain ⟨h_a_x, h_a_y, h_a_z, h_b_x, h_b_y, h_b_z, h_c_x, h_c_y, h_c_z, _⟩ : InR .i64 a_x ∧ InR .i64 a_y ∧ InR .i64 a_z ∧ InR .i64 b_x ∧ InR .i64 b_y ∧ InR .i64 b_z ∧ InR .i64 c_x ∧ InR .i64 c_y ∧ InR .i64 c_z ∧ True := rngL_of _ _ True hl trivial
    exact (congrArg Tr.run (by kernel_rfl : evV Try.prog (table tab_skylightref06_Cross) 16 12 noKnown 48 [.agg [.int .i64 false a_x, .int .i64 false a_y, .int .i64 false a_z], .agg [.int .i64 false b_x, .int .i64 false b_y, .int .i64 false b_z], .agg [.int .i64 false c_x, .int .i64 false c_y, .int .i64 false c_z]] = tr_skylightref06_Volume a_x a_y a_z b_x b_y b_z c_x c_y c_z)).trans (run_skylightref06_Volume a_x a_y a_z b_x b_y b_z c_x c_y c_z h_a_x h_a_y h_a_z h_b_x h_b_y h_b_z h_c_x h_c_y h_c_z)
  · cases h)
noncomputable def tab_skylightref06_Volume : List (FuncId × Entry) := (48, e_skylightref06_Volume) :: tab_skylightref06_Cross
theorem tok_skylightref06_Volume : TableOk Try.prog (table tab_skylightref06_Volume) := table_cons ok_skylightref06_Volume tok_skylightref06_Cross

/-! skylightref06.Len -/
def e_skylightref06_Len : Entry := fun args => match args with | [.agg [.int .i64 false v_x, .int .i64 false v_y, .int .i64 false v_z]] => some (.leaf (i6 (isq (dotN v_x v_y v_z v_x v_y v_z)))) | _ => none
theorem ok_skylightref06_Len : EntryOk Try.prog 49 e_skylightref06_Len := entry_ok progOk (T := table tab_skylightref06_Volume) tok_skylightref06_Volume 16 12 noKnown (fun _ _ _ _ => noKnown_ok) (by
  intro args t v h hv
  unfold e_skylightref06_Len at h
  split at h
  · cases h
    cases hv
    refine ⟨rfl, by kernel_rfl, fun φ cs hl => ?_⟩
    rename_i v_x v_y v_z
    obtain ⟨h_v_x, h_v_y, h_v_z, _⟩ : InR .i64 v_x ∧ InR .i64 v_y ∧ InR .i64 v_z ∧ True := rngL_of _ _ True hl trivial
    exact (congrArg Tr.run (by kernel_rfl : evV Try.prog (table tab_skylightref06_Volume) 16 12 noKnown 49 [.agg [.int .i64 false v_x, .int .i64 false v_y, .int .i64 false v_z]] = tr_skylightref06_Len v_x v_y v_z)).trans (run_skylightref06_Len v_x v_y v_z h_v_x h_v_y h_v_z)
  · cases h)
noncomputable def tab_skylightref06_Len : List (FuncId × Entry) := (49, e_skylightref06_Len) :: tab_skylightref06_Volume
theorem tok_skylightref06_Len : TableOk Try.prog (table tab_skylightref06_Len) := table_cons ok_skylightref06_Len tok_skylightref06_Volume

/-! skylightref06.toward -/
def e_skylightref06_toward : Entry := fun args => match args with | [.int .i64 false a, .int .i64 false b] => some (.leaf (i6 (towS a b))) | _ => none
theorem ok_skylightref06_toward : EntryOk Try.prog 120 e_skylightref06_toward := entry_ok progOk (T := table tab_skylightref06_Len) tok_skylightref06_Len 16 12 noKnown (fun _ _ _ _ => noKnown_ok) (by
  intro args t v h hv
  unfold e_skylightref06_toward at h
  split at h
  · cases h
    cases hv
    refine ⟨rfl, by kernel_rfl, fun φ cs hl => ?_⟩
    rename_i a b
    obtain ⟨h_a, h_b, _⟩ : InR .i64 a ∧ InR .i64 b ∧ True := rngL_of _ _ True hl trivial
    exact (congrArg Tr.run (by kernel_rfl : evV Try.prog (table tab_skylightref06_Len) 16 12 noKnown 120 [.int .i64 false a, .int .i64 false b] = tr_skylightref06_toward a b)).trans (run_skylightref06_toward a b h_a h_b)
  · cases h)
noncomputable def tab_skylightref06_toward : List (FuncId × Entry) := (120, e_skylightref06_toward) :: tab_skylightref06_Len
theorem tok_skylightref06_toward : TableOk Try.prog (table tab_skylightref06_toward) := table_cons ok_skylightref06_toward tok_skylightref06_Len

/-! vec.Scale -/
def e_vec_Scale : Entry := fun args => match args with | [.agg [.int .i64 false v_x, .int .i64 false v_y, .int .i64 false v_z], .agg [.int .i64 false f_n, .int .i64 false f_d]] => some (.leaf (v3 (atF v_x f_n f_d) (atF v_y f_n f_d) (atF v_z f_n f_d))) | _ => none
theorem ok_vec_Scale : EntryOk Try.prog 50 e_vec_Scale := entry_ok progOk (T := table tab_skylightref06_toward) tok_skylightref06_toward 16 12 noKnown (fun _ _ _ _ => noKnown_ok) (by
  intro args t v h hv
  unfold e_vec_Scale at h
  split at h
  · cases h
    cases hv
    refine ⟨rfl, by kernel_rfl, fun φ cs hl => ?_⟩
    rename_i v_x v_y v_z f_n f_d
    obtain ⟨h_v_x, h_v_y, h_v_z, h_f_n, h_f_d, _⟩ : InR .i64 v_x ∧ InR .i64 v_y ∧ InR .i64 v_z ∧ InR .i64 f_n ∧ InR .i64 f_d ∧ True := rngL_of _ _ True hl trivial
    exact (congrArg Tr.run (by kernel_rfl : evV Try.prog (table tab_skylightref06_toward) 16 12 noKnown 50 [.agg [.int .i64 false v_x, .int .i64 false v_y, .int .i64 false v_z], .agg [.int .i64 false f_n, .int .i64 false f_d]] = tr_vec_Scale v_x v_y v_z f_n f_d)).trans (run_vec_Scale v_x v_y v_z f_n f_d h_v_x h_v_y h_v_z h_f_n h_f_d)
  · cases h)
noncomputable def tab_vec_Scale : List (FuncId × Entry) := (50, e_vec_Scale) :: tab_skylightref06_toward
theorem tok_vec_Scale : TableOk Try.prog (table tab_vec_Scale) := table_cons ok_vec_Scale tok_skylightref06_toward

/-! vec.Along -/
def e_vec_Along : Entry := fun args => match args with | [.agg [.int .i64 false r_o_x, .int .i64 false r_o_y, .int .i64 false r_o_z, .int .i64 false r_d_x, .int .i64 false r_d_y, .int .i64 false r_d_z], .agg [.int .i64 false f_n, .int .i64 false f_d]] => some (.leaf (v3 (sat (r_o_x + atF r_d_x f_n f_d)) (sat (r_o_y + atF r_d_y f_n f_d)) (sat (r_o_z + atF r_d_z f_n f_d)))) | _ => none
theorem ok_vec_Along : EntryOk Try.prog 52 e_vec_Along := entry_ok progOk (T := table tab_vec_Scale) tok_vec_Scale 16 12 noKnown (fun _ _ _ _ => noKnown_ok) (by
  intro args t v h hv
  unfold e_vec_Along at h
  split at h
  · cases h
    cases hv
    refine ⟨rfl, by kernel_rfl, fun φ cs hl => ?_⟩
    rename_i r_o_x r_o_y r_o_z r_d_x r_d_y r_d_z f_n f_d
    obtain ⟨h_r_o_x, h_r_o_y, h_r_o_z, h_r_d_x, h_r_d_y, h_r_d_z, h_f_n, h_f_d, _⟩ : InR .i64 r_o_x ∧ InR .i64 r_o_y ∧ InR .i64 r_o_z ∧ InR .i64 r_d_x ∧ InR .i64 r_d_y ∧ InR .i64 r_d_z ∧ InR .i64 f_n ∧ InR .i64 f_d ∧ True := rngL_of _ _ True hl trivial
    exact (congrArg Tr.run (by kernel_rfl : evV Try.prog (table tab_vec_Scale) 16 12 noKnown 52 [.agg [.int .i64 false r_o_x, .int .i64 false r_o_y, .int .i64 false r_o_z, .int .i64 false r_d_x, .int .i64 false r_d_y, .int .i64 false r_d_z], .agg [.int .i64 false f_n, .int .i64 false f_d]] = tr_vec_Along r_o_x r_o_y r_o_z r_d_x r_d_y r_d_z f_n f_d)).trans (run_vec_Along r_o_x r_o_y r_o_z r_d_x r_d_y r_d_z f_n f_d h_r_o_x h_r_o_y h_r_o_z h_r_d_x h_r_d_y h_r_d_z h_f_n h_f_d)
  · cases h)
noncomputable def tab_vec_Along : List (FuncId × Entry) := (52, e_vec_Along) :: tab_vec_Scale
theorem tok_vec_Along : TableOk Try.prog (table tab_vec_Along) := table_cons ok_vec_Along tok_vec_Scale

end Go.Proofs.Ytfbakgcemnkcpaa
