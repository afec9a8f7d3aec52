/- Entries of the table: what functions give. -/
import Derived.Test.YtfbakgcemnkcpaaProg
import Derived.Test.YtfbakgcemnkcpaaZShelf
import Derived.Test.YtfbakgcemnkcpaaQSkyNum1
set_option linter.unusedSimpArgs false
set_option linter.unusedVariables false
namespace Go.Proofs.Ytfbakgcemnkcpaa
open Go Go.Sky
set_option maxRecDepth 100000
theorem progOk : ProgOk Try.prog := ⟨by kernel_rfl, by kernel_rfl⟩

/-! math/bits.Mul64 -/
def e_math_bits_Mul64 : Entry := fun args => match args with | [.int .u64 false x, .int .u64 false y] => some (.leaf (.tuple [u6 (x*y/18446744073709551616), u6 (x*y%18446744073709551616)])) | _ => none
theorem ok_math_bits_Mul64 : EntryOk Try.prog 179 e_math_bits_Mul64 := by
  refine entry_calls progOk (by kernel_rfl) ?_
  intro args t v h ht φ cs hl
  unfold e_math_bits_Mul64 at h
  split at h
  · cases h
    cases ht
    obtain ⟨rfl, hx, hy⟩ := ints2 hl
    rename_i x y
    obtain ⟨hx0, hx1⟩ := inR_u64.1 hx
    obtain ⟨hy0, hy1⟩ := inR_u64.1 hy
    obtain ⟨X, rfl⟩ := Int.eq_ofNat_of_zero_le hx0
    obtain ⟨Y, rfl⟩ := Int.eq_ofNat_of_zero_le hy0
    refine ⟨_, ?_, fun w => Try.bits_Mul64 X Y (by omega) (by omega) w⟩
    have h1 : X * Y < 18446744073709551616 * 18446744073709551616 := Nat.mul_lt_mul'' (by omega) (by omega)
    have h2 : X * Y / 18446744073709551616 < 18446744073709551616 := Nat.div_lt_of_lt_mul h1
    rw [Int.natCast_ediv, Int.natCast_emod, Int.natCast_mul]
    exact rel_pair (inR_u64.2 ⟨by omega, by omega⟩) (inR_u64.2 ⟨by omega, by omega⟩)
  · cases h
noncomputable def tab_math_bits_Mul64 : List (FuncId × Entry) := (179, e_math_bits_Mul64) :: []
theorem tok_math_bits_Mul64 : TableOk Try.prog (table tab_math_bits_Mul64) := table_cons ok_math_bits_Mul64 table_nil

/-! math/bits.Len64 -/
def e_math_bits_Len64 : Entry := fun args => match args with | [.int .u64 false x] => some (.leaf (i6 (Lib.bitLen x.toNat))) | _ => none
theorem ok_math_bits_Len64 : EntryOk Try.prog 178 e_math_bits_Len64 := by
  refine entry_calls progOk (by kernel_rfl) ?_
  intro args t v h ht φ cs hl
  unfold e_math_bits_Len64 at h
  split at h
  · cases h
    cases ht
    obtain ⟨rfl, hx⟩ := ints1 hl
    rename_i x
    obtain ⟨hx0, hx1⟩ := inR_u64.1 hx
    refine ⟨_, ?_, fun w => Try.bits_Len64 x w hx0 hx1⟩
    exact rel_int (inR_i64.2 (bitLen_r x hx0 hx1))
  · cases h
noncomputable def tab_math_bits_Len64 : List (FuncId × Entry) := (178, e_math_bits_Len64) :: tab_math_bits_Mul64
theorem tok_math_bits_Len64 : TableOk Try.prog (table tab_math_bits_Len64) := table_cons ok_math_bits_Len64 tok_math_bits_Mul64

/-! num.size -/
def e_num_size : Entry := fun args => match args with | [.int .i64 false n] => some (.leaf (u6 (sz n))) | _ => none
theorem ok_num_size : EntryOk Try.prog 180 e_num_size := entry_ok progOk (T := table tab_math_bits_Len64) tok_math_bits_Len64 16 12 noKnown (fun _ _ _ _ => noKnown_ok) (by
  intro args t v h hv
  unfold e_num_size at h
  split at h
  · cases h
    cases hv
    refine ⟨rfl, by kernel_rfl, fun φ cs hl => ?_⟩
    rename_i n
    obtain ⟨h_n, _⟩ : InR .i64 n ∧ True := rngL_of _ _ True hl trivial
    exact (congrArg Tr.run (by kernel_rfl : evV Try.prog (table tab_math_bits_Len64) 16 12 noKnown 180 [.int .i64 false n] = tr_num_size n)).trans (run_num_size n h_n)
  · cases h)
noncomputable def tab_num_size : List (FuncId × Entry) := (180, e_num_size) :: tab_math_bits_Len64
theorem tok_num_size : TableOk Try.prog (table tab_num_size) := table_cons ok_num_size tok_math_bits_Len64

/-! num.Times -/
def e_num_Times : Entry := fun args => match args with | [.int .i64 false a, .int .i64 false b] => some (.leaf (i6 (sat (a * b)))) | _ => none
theorem ok_num_Times : EntryOk Try.prog 124 e_num_Times := entry_ok progOk (T := table tab_num_size) tok_num_size 16 12 noKnown (fun _ _ _ _ => noKnown_ok) (by
  intro args t v h hv
  unfold e_num_Times at h
  split at h
  · cases h
    cases hv
    refine ⟨rfl, by kernel_rfl, fun φ cs hl => ?_⟩
    rename_i a b
    obtain ⟨h_a, h_b, _⟩ : InR .i64 a ∧ InR .i64 b ∧ True := rngL_of _ _ True hl trivial
    exact (congrArg Tr.run (by kernel_rfl : evV Try.prog (table tab_num_size) 16 12 noKnown 124 [.int .i64 false a, .int .i64 false b] = tr_num_Times a b)).trans (run_num_Times a b h_a h_b)
  · cases h)
noncomputable def tab_num_Times : List (FuncId × Entry) := (124, e_num_Times) :: tab_num_size
theorem tok_num_Times : TableOk Try.prog (table tab_num_Times) := table_cons ok_num_Times tok_num_size

/-! num.Plus -/
def e_num_Plus : Entry := fun args => match args with | [.int .i64 false a, .int .i64 false b] => some (.leaf (i6 (sat (a + b)))) | _ => none
theorem ok_num_Plus : EntryOk Try.prog 121 e_num_Plus := entry_ok progOk (T := table tab_num_Times) tok_num_Times 16 12 noKnown (fun _ _ _ _ => noKnown_ok) (by
  intro args t v h hv
  unfold e_num_Plus at h
  split at h
  · cases h
    cases hv
    refine ⟨rfl, by kernel_rfl, fun φ cs hl => ?_⟩
    rename_i a b
    obtain ⟨h_a, h_b, _⟩ : InR .i64 a ∧ InR .i64 b ∧ True := rngL_of _ _ True hl trivial
    exact (congrArg Tr.run (by kernel_rfl : evV Try.prog (table tab_num_Times) 16 12 noKnown 121 [.int .i64 false a, .int .i64 false b] = tr_num_Plus a b)).trans (run_num_Plus a b h_a h_b)
  · cases h)
noncomputable def tab_num_Plus : List (FuncId × Entry) := (121, e_num_Plus) :: tab_num_Times
theorem tok_num_Plus : TableOk Try.prog (table tab_num_Plus) := table_cons ok_num_Plus tok_num_Times

end Go.Proofs.Ytfbakgcemnkcpaa
