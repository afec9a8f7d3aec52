/- Entries of the table: what functions give. -/
import Derived.Test.YtfbakgcemnkcpaaZEntNum2
import Derived.Test.YtfbakgcemnkcpaaQSkyDiv
set_option linter.unusedSimpArgs false
set_option linter.unusedVariables false
namespace Go.Proofs.Ytfbakgcemnkcpaa
open Go Go.Sky
set_option maxRecDepth 100000

/-! math/bits.LeadingZeros64 -/
def e_math_bits_LeadingZeros64 : Entry := fun args => match args with | [.int .u64 false x] => some (.leaf (i6 (64 - (Lib.bitLen x.toNat : Nat)))) | _ => none
theorem ok_math_bits_LeadingZeros64 : EntryOk Try.prog 208 e_math_bits_LeadingZeros64 := by
  refine entry_calls progOk (by kernel_rfl) ?_
  intro args t v h ht φ cs hl
  unfold e_math_bits_LeadingZeros64 at h
  split at h
  · cases h
    cases ht
    obtain ⟨rfl, hx⟩ := ints1 hl
    rename_i x
    obtain ⟨hx0, hx1⟩ := inR_u64.1 hx
    refine ⟨_, ?_, fun w => Try.bits_LeadingZeros64 x w hx0 hx1⟩
    have := Any.bitLen_le64 x hx0 hx1
    exact rel_int (inR_i64.2 (by omega))
  · cases h
noncomputable def tab_math_bits_LeadingZeros64 : List (FuncId × Entry) := (208, e_math_bits_LeadingZeros64) :: tab_skylightref01_Root
theorem tok_math_bits_LeadingZeros64 : TableOk Try.prog (table tab_math_bits_LeadingZeros64) := table_cons ok_math_bits_LeadingZeros64 tok_skylightref01_Root

/-! math/bits.Div64 -/
def e_math_bits_Div64 : Entry := fun args => match args with | [.int .u64 false hi, .int .u64 false lo, .int .u64 false y] => some (.node (decide (hi < y)) (.leaf (.tuple [u6 ((hi * 18446744073709551616 + lo) / y), u6 ((hi * 18446744073709551616 + lo) % y)])) .bad) | _ => none
noncomputable def O_math_bits_Div64_0 : Known := known 0 (piece Try.prog (table tab_math_bits_LeadingZeros64) noKnown 202 0 135 [15, 16, 67, 68, 69, 70, 71, 72, 73, 74, 75, 76, 77, 78, 79, 80, 81, 82, 83, 84, 85] [9, 10, 13, 15, 16] g_math_bits_Div64_0) noKnown
theorem O_math_bits_Div64_0_ok : ∀ fn c, Try.prog.funcs[202]? = some fn → fn.body = some c → KnownOk Try.prog O_math_bits_Div64_0 (blocksOf c) :=
  known_ok (by kernel_rfl) (piece_wp progOk tok_math_bits_LeadingZeros64 (known_in (by kernel_rfl) (fun _ _ _ _ => noKnown_ok)) (piece_math_bits_Div64_0 (by kernel_rfl) (by kernel_rfl) (fun L yn1 yn0 un1 q rh x0 x1 x2 x3 x4 x5 x6 x7 x8 x11 x12 x14 x17 x18 x19 x20 x21 x22 x23 x24 x25 x26 x27 x28 x29 x30 x31 x32 x33 x34 x35 x36 x37 x38 x39 x40 x41 x42 x43 x44 x45 x46 x47 x48 x49 x50 x51 x52 x53 x54 x55 x56 x57 x58 x59 x60 x61 x62 x63 x64 x65 x66 x67 x68 x69 x70 x71 x72 x73 x74 x75 x76 x77 x78 x79 x80 x81 x82 x83 x84 x85 x86 x87 x88 x89 x90 x91 x92 x93 x94 x95 x96 x97 x98 x99 x100 x101 x102 x103 x104 x105 x106 x107 x108 x109 x110 x111 x112 x113 x114 x115 x116 x117 x118 x119 x120 x121 x122 x123 x124 x125 x126 x127 x128 x129 x130 x131 x132 x133 x134 h => by kernel_rfl))) (fun _ _ _ _ => noKnown_ok)
noncomputable def O_math_bits_Div64_2 : Known := known 2 (piece Try.prog (table tab_math_bits_LeadingZeros64) O_math_bits_Div64_0 202 2 135 [16, 18, 102, 103, 104, 105, 106, 107, 108, 109, 110, 111, 112, 113, 114, 115, 116, 117, 118, 119, 120] [9, 10, 14, 18, 16] g_math_bits_Div64_2) O_math_bits_Div64_0
theorem O_math_bits_Div64_2_ok : ∀ fn c, Try.prog.funcs[202]? = some fn → fn.body = some c → KnownOk Try.prog O_math_bits_Div64_2 (blocksOf c) :=
  known_ok (by kernel_rfl) (piece_wp progOk tok_math_bits_LeadingZeros64 (known_in (by kernel_rfl) O_math_bits_Div64_0_ok) (piece_math_bits_Div64_2 (by kernel_rfl) (by kernel_rfl) (fun L yn1 yn0 un1 q rh x0 x1 x2 x3 x4 x5 x6 x7 x8 x11 x12 x13 x15 x17 x19 x20 x21 x22 x23 x24 x25 x26 x27 x28 x29 x30 x31 x32 x33 x34 x35 x36 x37 x38 x39 x40 x41 x42 x43 x44 x45 x46 x47 x48 x49 x50 x51 x52 x53 x54 x55 x56 x57 x58 x59 x60 x61 x62 x63 x64 x65 x66 x67 x68 x69 x70 x71 x72 x73 x74 x75 x76 x77 x78 x79 x80 x81 x82 x83 x84 x85 x86 x87 x88 x89 x90 x91 x92 x93 x94 x95 x96 x97 x98 x99 x100 x101 x102 x103 x104 x105 x106 x107 x108 x109 x110 x111 x112 x113 x114 x115 x116 x117 x118 x119 x120 x121 x122 x123 x124 x125 x126 x127 x128 x129 x130 x131 x132 x133 x134 h => by kernel_rfl))) O_math_bits_Div64_0_ok
theorem ok_math_bits_Div64 : EntryOk Try.prog 202 e_math_bits_Div64 := entry_ok progOk (T := table tab_math_bits_LeadingZeros64) tok_math_bits_LeadingZeros64 16 12 O_math_bits_Div64_2 O_math_bits_Div64_2_ok (by
  intro args t v h hv
  unfold e_math_bits_Div64 at h
  split at h
  · cases h
    simp only [Tr.run] at hv
    split at hv
    rotate_left
    · cases hv
    rename_i hpre0
    have hpre := of_decide_eq_true hpre0
    cases hv
    refine ⟨rfl, by kernel_rfl, fun φ cs hl => ?_⟩
    rename_i hi lo y
    obtain ⟨h_hi, h_lo, h_y, _⟩ : InR .u64 hi ∧ InR .u64 lo ∧ InR .u64 y ∧ True := rngL_of _ _ True hl trivial
    exact (congrArg Tr.run (by kernel_rfl : evV Try.prog (table tab_math_bits_LeadingZeros64) 16 12 O_math_bits_Div64_2 202 [.int .u64 false hi, .int .u64 false lo, .int .u64 false y] = tr_math_bits_Div64 hi lo y)).trans (run_math_bits_Div64 hi lo y h_hi h_lo h_y hpre)
  · cases h)
noncomputable def tab_math_bits_Div64 : List (FuncId × Entry) := (202, e_math_bits_Div64) :: tab_math_bits_LeadingZeros64
theorem tok_math_bits_Div64 : TableOk Try.prog (table tab_math_bits_Div64) := table_cons ok_math_bits_Div64 tok_math_bits_LeadingZeros64

end Go.Proofs.Ytfbakgcemnkcpaa
