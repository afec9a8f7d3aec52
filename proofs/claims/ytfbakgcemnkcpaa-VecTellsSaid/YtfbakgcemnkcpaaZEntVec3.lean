/- Entries of the table: what functions give. -/
import Derived.Test.YtfbakgcemnkcpaaZEntVec2
import Derived.Test.YtfbakgcemnkcpaaQSkyVec3
set_option linter.unusedSimpArgs false
set_option linter.unusedVariables false
namespace Go.Proofs.Ytfbakgcemnkcpaa
open Go Go.Sky
set_option maxRecDepth 100000

/-! (vec.triple).most -/
def e_vec_triple_most : Entry := fun args => match args with | [.agg [.int .i64 false v_x, .int .i64 false v_y, .int .i64 false v_z]] => some (.leaf (i6 (mostI v_x v_y v_z))) | _ => none
theorem ok_vec_triple_most : EntryOk Try.prog 111 e_vec_triple_most := entry_ok progOk (T := table tab_skylightlaw06_VecVolume) tok_skylightlaw06_VecVolume 16 12 noKnown (fun _ _ _ _ => noKnown_ok) (by
  intro args t v h hv
  unfold e_vec_triple_most at h
  split at h
  · cases h
    cases hv
    refine ⟨rfl, by kernel_rfl, fun φ cs hl => ?_⟩
    rename_i v_x v_y v_z
    obtain ⟨h_v_x, h_v_y, h_v_z, _⟩ : InR .i64 v_x ∧ InR .i64 v_y ∧ InR .i64 v_z ∧ True := rngL_of _ _ True hl trivial
    exact (congrArg Tr.run (by kernel_rfl : evV Try.prog (table tab_skylightlaw06_VecVolume) 16 12 noKnown 111 [.agg [.int .i64 false v_x, .int .i64 false v_y, .int .i64 false v_z]] = tr_vec_triple_most v_x v_y v_z)).trans (run_vec_triple_most v_x v_y v_z h_v_x h_v_y h_v_z)
  · cases h)
noncomputable def tab_vec_triple_most : List (FuncId × Entry) := (111, e_vec_triple_most) :: tab_skylightlaw06_VecVolume
theorem tok_vec_triple_most : TableOk Try.prog (table tab_vec_triple_most) := table_cons ok_vec_triple_most tok_skylightlaw06_VecVolume

/-! vec.Len -/
def e_vec_Len : Entry := fun args => match args with | [.agg [.int .i64 false v_x, .int .i64 false v_y, .int .i64 false v_z]] => some (.leaf (i6 (isq (dotN v_x v_y v_z v_x v_y v_z)))) | _ => none
theorem ok_vec_Len : EntryOk Try.prog 35 e_vec_Len := entry_ok progOk (T := table tab_vec_triple_most) tok_vec_triple_most 16 12 noKnown (fun _ _ _ _ => noKnown_ok) (by
  intro args t v h hv
  unfold e_vec_Len at h
  split at h
  · cases h
    cases hv
    refine ⟨rfl, by kernel_rfl, fun φ cs hl => ?_⟩
    rename_i v_x v_y v_z
    obtain ⟨h_v_x, h_v_y, h_v_z, _⟩ : InR .i64 v_x ∧ InR .i64 v_y ∧ InR .i64 v_z ∧ True := rngL_of _ _ True hl trivial
    exact (congrArg Tr.run (by kernel_rfl : evV Try.prog (table tab_vec_triple_most) 16 12 noKnown 35 [.agg [.int .i64 false v_x, .int .i64 false v_y, .int .i64 false v_z]] = tr_vec_Len v_x v_y v_z)).trans (run_vec_Len v_x v_y v_z h_v_x h_v_y h_v_z)
  · cases h)
noncomputable def tab_vec_Len : List (FuncId × Entry) := (35, e_vec_Len) :: tab_vec_triple_most
theorem tok_vec_Len : TableOk Try.prog (table tab_vec_Len) := table_cons ok_vec_Len tok_vec_triple_most

/-! vec.Unit -/
def e_vec_Unit : Entry := fun args => match args with | [.agg [.int .i64 false v_x, .int .i64 false v_y, .int .i64 false v_z]] => some (.leaf (.tuple [v3 (unitC v_x v_y v_z v_x) (unitC v_x v_y v_z v_y) (unitC v_x v_y v_z v_z), bb (okU v_x v_y v_z)])) | _ => none
noncomputable def O_vec_Unit_0 : Known := known 0 (piece Try.prog (table tab_vec_Len) noKnown 33 0 36 [5, 18, 19, 20, 21, 22, 23] [4, 5] g_vec_Unit_0) noKnown
theorem O_vec_Unit_0_ok : ∀ fn c, Try.prog.funcs[33]? = some fn → fn.body = some c → KnownOk Try.prog O_vec_Unit_0 (blocksOf c) :=
  known_ok (by kernel_rfl) (piece_wp progOk tok_vec_Len (known_in (by kernel_rfl) (fun _ _ _ _ => noKnown_ok)) (piece_vec_Unit_0 (by kernel_rfl) (by kernel_rfl) (fun L m p_x p_y p_z q_x q_y q_z t_x t_y t_z x0 x1 x2 x3 x6 x7 x8 x9 x10 x11 x12 x13 x14 x15 x16 x17 x18 x19 x20 x21 x22 x23 x24 x25 x26 x27 x28 x29 x30 x31 x32 x33 x34 x35 => by kernel_rfl))) (fun _ _ _ _ => noKnown_ok)
noncomputable def O_vec_Unit_2 : Known := known 2 (piece Try.prog (table tab_vec_Len) O_vec_Unit_0 33 2 36 [24, 25, 26, 27, 28] [4] g_vec_Unit_2) O_vec_Unit_0
theorem O_vec_Unit_2_ok : ∀ fn c, Try.prog.funcs[33]? = some fn → fn.body = some c → KnownOk Try.prog O_vec_Unit_2 (blocksOf c) :=
  known_ok (by kernel_rfl) (piece_wp progOk tok_vec_Len (known_in (by kernel_rfl) O_vec_Unit_0_ok) (piece_vec_Unit_2 (by kernel_rfl) (by kernel_rfl) (fun L p_x p_y p_z q_x q_y q_z t_x t_y t_z x0 x1 x2 x3 x5 x6 x7 x8 x9 x10 x11 x12 x13 x14 x15 x16 x17 x18 x19 x20 x21 x22 x23 x24 x25 x26 x27 x28 x29 x30 x31 x32 x33 x34 x35 => by kernel_rfl))) O_vec_Unit_0_ok
theorem ok_vec_Unit : EntryOk Try.prog 33 e_vec_Unit := entry_ok progOk (T := table tab_vec_Len) tok_vec_Len 16 12 O_vec_Unit_2 O_vec_Unit_2_ok (by
  intro args t v h hv
  unfold e_vec_Unit at h
  split at h
  · cases h
    cases hv
    refine ⟨rfl, by kernel_rfl, fun φ cs hl => ?_⟩
    rename_i v_x v_y v_z
    obtain ⟨h_v_x, h_v_y, h_v_z, _⟩ : InR .i64 v_x ∧ InR .i64 v_y ∧ InR .i64 v_z ∧ True := rngL_of _ _ True hl trivial
    exact (congrArg Tr.run (by kernel_rfl : evV Try.prog (table tab_vec_Len) 16 12 O_vec_Unit_2 33 [.agg [.int .i64 false v_x, .int .i64 false v_y, .int .i64 false v_z]] = tr_vec_Unit v_x v_y v_z)).trans (run_vec_Unit v_x v_y v_z h_v_x h_v_y h_v_z)
  · cases h)
noncomputable def tab_vec_Unit : List (FuncId × Entry) := (33, e_vec_Unit) :: tab_vec_Len
theorem tok_vec_Unit : TableOk Try.prog (table tab_vec_Unit) := table_cons ok_vec_Unit tok_vec_Len

/-! skylightlaw06.VecUnit -/
def e_skylightlaw06_VecUnit : Entry := fun args => match args with | [.agg [.int .i64 false v_x, .int .i64 false v_y, .int .i64 false v_z]] => some (.leaf (bb true)) | _ => none
theorem ok_skylightlaw06_VecUnit : EntryOk Try.prog 4 e_skylightlaw06_VecUnit := entry_ok progOk (T := table tab_vec_Unit) tok_vec_Unit 16 12 noKnown (fun _ _ _ _ => noKnown_ok) (by
  intro args t v h hv
  unfold e_skylightlaw06_VecUnit at h
  split at h
  · cases h
    cases hv
    refine ⟨rfl, by kernel_rfl, fun φ cs hl => ?_⟩
    rename_i v_x v_y v_z
    obtain ⟨h_v_x, h_v_y, h_v_z, _⟩ : InR .i64 v_x ∧ InR .i64 v_y ∧ InR .i64 v_z ∧ True := rngL_of _ _ True hl trivial
    exact (congrArg Tr.run (by kernel_rfl : evV Try.prog (table tab_vec_Unit) 16 12 noKnown 4 [.agg [.int .i64 false v_x, .int .i64 false v_y, .int .i64 false v_z]] = tr_skylightlaw06_VecUnit v_x v_y v_z)).trans (run_skylightlaw06_VecUnit v_x v_y v_z h_v_x h_v_y h_v_z)
  · cases h)
noncomputable def tab_skylightlaw06_VecUnit : List (FuncId × Entry) := (4, e_skylightlaw06_VecUnit) :: tab_vec_Unit
theorem tok_skylightlaw06_VecUnit : TableOk Try.prog (table tab_skylightlaw06_VecUnit) := table_cons ok_skylightlaw06_VecUnit tok_vec_Unit

end Go.Proofs.Ytfbakgcemnkcpaa
