/- Entries of the table: what functions give. -/
import Derived.Test.YtfbakgcemnkcpaaZEntRef1
import Derived.Test.YtfbakgcemnkcpaaQSkyRef2
set_option linter.unusedSimpArgs false
set_option linter.unusedVariables false
namespace Go.Proofs.Ytfbakgcemnkcpaa
open Go Go.Sky
set_option maxRecDepth 100000

/-! skylightref01.Part -/
def e_skylightref01_Part : Entry := fun args => match args with | [.int .u64 false a, .int .u64 false b, .int .u64 false c] => some (.leaf (.tuple [u6 (partQ (a * b) c), bb (decide (a * b / 18446744073709551616 < c))])) | _ => none
noncomputable def O_skylightref01_Part_0 : Known := known 0 (piece Try.prog (table tab_vec_Along) noKnown 186 0 54 [10, 11, 12, 13, 23, 24, 25, 26, 27, 28, 29, 30, 31, 32, 33, 34, 35, 36, 37, 38, 39, 40, 41, 42, 43, 44, 45, 46, 47, 48, 49, 50, 51, 52] [2, 8, 9, 10, 11] g_skylightref01_Part_0) noKnown
theorem O_skylightref01_Part_0_ok : ∀ fn c, Try.prog.funcs[186]? = some fn → fn.body = some c → KnownOk Try.prog O_skylightref01_Part_0 (blocksOf c) :=
  known_ok (by kernel_rfl) (piece_wp progOk tok_vec_Along (known_in (by kernel_rfl) (fun _ _ _ _ => noKnown_ok)) (piece_skylightref01_Part_0 (by kernel_rfl) (by kernel_rfl) (fun L c hi lo q i x0 x1 x3 x4 x5 x6 x7 x12 x13 x14 x15 x16 x17 x18 x19 x20 x21 x22 x23 x24 x25 x26 x27 x28 x29 x30 x31 x32 x33 x34 x35 x36 x37 x38 x39 x40 x41 x42 x43 x44 x45 x46 x47 x48 x49 x50 x51 x52 x53 h => by kernel_rfl))) (fun _ _ _ _ => noKnown_ok)
theorem ok_skylightref01_Part : EntryOk Try.prog 186 e_skylightref01_Part := entry_ok progOk (T := table tab_vec_Along) tok_vec_Along 16 12 O_skylightref01_Part_0 O_skylightref01_Part_0_ok (by
  intro args t v h hv
  unfold e_skylightref01_Part at h
  split at h
  · cases h
    cases hv
    refine ⟨rfl, by kernel_rfl, fun φ cs hl => ?_⟩
    rename_i a b c
    obtain ⟨h_a, h_b, h_c, _⟩ : InR .u64 a ∧ InR .u64 b ∧ InR .u64 c ∧ True := rngL_of _ _ True hl trivial
    exact (congrArg Tr.run (by kernel_rfl : evV Try.prog (table tab_vec_Along) 16 12 O_skylightref01_Part_0 186 [.int .u64 false a, .int .u64 false b, .int .u64 false c] = tr_skylightref01_Part a b c)).trans (run_skylightref01_Part a b c h_a h_b h_c)
  · cases h)
noncomputable def tab_skylightref01_Part : List (FuncId × Entry) := (186, e_skylightref01_Part) :: tab_vec_Along
theorem tok_skylightref01_Part : TableOk Try.prog (table tab_skylightref01_Part) := table_cons ok_skylightref01_Part tok_vec_Along

end Go.Proofs.Ytfbakgcemnkcpaa
