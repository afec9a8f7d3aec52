/- Entries of the table: what functions give. -/
import Derived.Test.YtfbakgcemnkcpaaZEntNum1
import Derived.Test.YtfbakgcemnkcpaaQSkyNum2
set_option linter.unusedSimpArgs false
set_option linter.unusedVariables false
namespace Go.Proofs.Ytfbakgcemnkcpaa
open Go Go.Sky
set_option maxRecDepth 100000

/-! num.Root -/
def e_num_Root : Entry := fun args => match args with | [.int .u64 false n] => some (.leaf (i6 (isq n))) | _ => none
noncomputable def O_num_Root_0 : Known := known 0 (piece Try.prog (table tab_num_Plus) noKnown 117 0 24 [2, 3, 4, 12, 13, 14, 15, 16, 17, 18, 19, 20, 21, 22, 23] [0, 3] g_num_Root_0) noKnown
theorem O_num_Root_0_ok : ∀ fn c, Try.prog.funcs[117]? = some fn → fn.body = some c → KnownOk Try.prog O_num_Root_0 (blocksOf c) :=
  known_ok (by kernel_rfl) (piece_wp progOk tok_num_Plus (known_in (by kernel_rfl) (fun _ _ _ _ => noKnown_ok)) (piece_num_Root_0 (by kernel_rfl) (by kernel_rfl) (fun L n r x1 x2 x4 x5 x6 x7 x8 x9 x10 x11 x12 x13 x14 x15 x16 x17 x18 x19 x20 x21 x22 x23 h => by kernel_rfl))) (fun _ _ _ _ => noKnown_ok)
theorem ok_num_Root : EntryOk Try.prog 117 e_num_Root := entry_ok progOk (T := table tab_num_Plus) tok_num_Plus 16 12 O_num_Root_0 O_num_Root_0_ok (by
  intro args t v h hv
  unfold e_num_Root at h
  split at h
  · cases h
    cases hv
    refine ⟨rfl, by kernel_rfl, fun φ cs hl => ?_⟩
    rename_i n
    obtain ⟨h_n, _⟩ : InR .u64 n ∧ True := rngL_of _ _ True hl trivial
    exact (congrArg Tr.run (by kernel_rfl : evV Try.prog (table tab_num_Plus) 16 12 O_num_Root_0 117 [.int .u64 false n] = tr_num_Root n)).trans (run_num_Root n h_n)
  · cases h)
noncomputable def tab_num_Root : List (FuncId × Entry) := (117, e_num_Root) :: tab_num_Plus
theorem tok_num_Root : TableOk Try.prog (table tab_num_Root) := table_cons ok_num_Root tok_num_Plus

/-! skylightref01.Root -/
def e_skylightref01_Root : Entry := fun args => match args with | [.int .u64 false n] => some (.leaf (i6 (isq n))) | _ => none
noncomputable def O_skylightref01_Root_0 : Known := known 0 (piece Try.prog (table tab_num_Root) noKnown 128 0 22 [3, 4, 5, 6, 7, 8, 9, 10, 11, 12, 13, 14, 15, 16, 17, 18, 19] [0, 3, 4] g_skylightref01_Root_0) noKnown
theorem O_skylightref01_Root_0_ok : ∀ fn c, Try.prog.funcs[128]? = some fn → fn.body = some c → KnownOk Try.prog O_skylightref01_Root_0 (blocksOf c) :=
  known_ok (by kernel_rfl) (piece_wp progOk tok_num_Root (known_in (by kernel_rfl) (fun _ _ _ _ => noKnown_ok)) (piece_skylightref01_Root_0 (by kernel_rfl) (by kernel_rfl) (fun L n r i x1 x2 x5 x6 x7 x8 x9 x10 x11 x12 x13 x14 x15 x16 x17 x18 x19 x20 x21 h => by kernel_rfl))) (fun _ _ _ _ => noKnown_ok)
theorem ok_skylightref01_Root : EntryOk Try.prog 128 e_skylightref01_Root := entry_ok progOk (T := table tab_num_Root) tok_num_Root 16 12 O_skylightref01_Root_0 O_skylightref01_Root_0_ok (by
  intro args t v h hv
  unfold e_skylightref01_Root at h
  split at h
  · cases h
    cases hv
    refine ⟨rfl, by kernel_rfl, fun φ cs hl => ?_⟩
    rename_i n
    obtain ⟨h_n, _⟩ : InR .u64 n ∧ True := rngL_of _ _ True hl trivial
    exact (congrArg Tr.run (by kernel_rfl : evV Try.prog (table tab_num_Root) 16 12 O_skylightref01_Root_0 128 [.int .u64 false n] = tr_skylightref01_Root n)).trans (run_skylightref01_Root n h_n)
  · cases h)
noncomputable def tab_skylightref01_Root : List (FuncId × Entry) := (128, e_skylightref01_Root) :: tab_num_Root
theorem tok_skylightref01_Root : TableOk Try.prog (table tab_skylightref01_Root) := table_cons ok_skylightref01_Root tok_num_Root

end Go.Proofs.Ytfbakgcemnkcpaa
