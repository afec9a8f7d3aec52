/-
  DERIVED: THE SHELF's CONTRACTS AT THIS DUMP, IN PLAIN WORDS (tools/lay-plain.mjs out of 'TryShelf.lean', which tools/lay-shelf.mjs wrote): THE SAME DECLARATIONS UNDER THE SAME NAMES: 'import', 'namespace', 'open', 'def', 'theorem' AND NOTHING ELSE: no command of the shelf's: FOR A HAND-IN. Each laying: the table of numbers ('.._ren') and one theorem, a field a fact of the dump's own or the kernel's comparison; each contract: ONE APPLICATION.
-/
import Derived.Shelf.Small.Bits
import Derived.Shelf.Strconv.Itoa0
import Derived.Shelf.Bits.Mul64
import Derived.Test.YtfbakgcemnkcpaaProg
import Derived.Test.YtfbakgcemnkcpaaQ8b1166ad
namespace Go.Proofs
open Go.Shelf
def Try.lays134_ren : Go.Shelf.Ren := ⟨fun | 134 => 208 | 129 => 178 | n => n, fun | 53 => 79 | 3 => 3 | 4 => 4 | 46 => 188 | 5 => 5 | 9 => 9 | n => n, fun | n => n⟩
theorem Try.lays134 : Go.Proofs.Lays.n134 Try.prog Try.lays134_ren := {
  mixed := by kernel_rfl
  f129 := Try.func178.trans (congrArg some (by kernel_rfl))
  f134 := Try.func208.trans (congrArg some (by kernel_rfl))
  t3 := Try.underlying3
  a3 := Try.isAgg3
  z3 := Try.sizeOf3
  v3 := Try.zeroValue3
  t4 := Try.underlying4
  a4 := Try.isAgg4
  z4 := Try.sizeOf4
  v4 := Try.zeroValue4
  t5 := Try.underlying5
  a5 := Try.isAgg5
  z5 := Try.sizeOf5
  v5 := Try.zeroValue5
  t9 := Try.underlying9
  a9 := Try.isAgg9
  z9 := Try.sizeOf9
  v9 := Try.zeroValue9
  t46 := Try.underlying188
  a46 := Try.isAgg188
  z46 := Try.sizeOf188
  v46 := Try.zeroValue188
  t53 := Try.underlying79
  a53 := Try.isAgg79
  z53 := Try.sizeOf79
  v53 := Try.zeroValue79 }
/-- bits.LeadingZeros64: "LeadingZeros64 returns the number of leading zero bits in x; the result is 64 for x == 0.": IT RETURNS '64 - Lib.bitLen x'; the world is as it was. ITS CALLEE bits.Len64 IS MET BY ITS OWN CONTRACT OFF THE SHELF (lay that first): entered in place it sends the kernel out of memory. (LAID: no walk: one application.) -/
theorem Try.bits_LeadingZeros64 (x : Int) (w : World) (h0 : 0 ≤ x) (h1 : x ≤ 18446744073709551615) :
    Calls Try.prog 208 #[.int .u64 x] w fun e w' => e = .returned (.int .i64 (64 - (Lib.bitLen x.toNat : Int))) ∧ w' = w := Any.bits_LeadingZeros64 Try.lays134 x w h0 h1
def Try.lays129_ren : Go.Shelf.Ren := ⟨fun | 129 => 178 | n => n, fun | 53 => 79 | 3 => 3 | 4 => 4 | 46 => 188 | 5 => 5 | 9 => 9 | n => n, fun | n => n⟩
theorem Try.lays129 : Go.Proofs.Lays.n129 Try.prog Try.lays129_ren := {
  mixed := by kernel_rfl
  f129 := Try.func178.trans (congrArg some (by kernel_rfl))
  t3 := Try.underlying3
  a3 := Try.isAgg3
  z3 := Try.sizeOf3
  v3 := Try.zeroValue3
  t4 := Try.underlying4
  a4 := Try.isAgg4
  z4 := Try.sizeOf4
  v4 := Try.zeroValue4
  t5 := Try.underlying5
  a5 := Try.isAgg5
  z5 := Try.sizeOf5
  v5 := Try.zeroValue5
  t9 := Try.underlying9
  a9 := Try.isAgg9
  z9 := Try.sizeOf9
  v9 := Try.zeroValue9
  t46 := Try.underlying188
  a46 := Try.isAgg188
  z46 := Try.sizeOf188
  v46 := Try.zeroValue188
  t53 := Try.underlying79
  a53 := Try.isAgg79
  z53 := Try.sizeOf79
  v53 := Try.zeroValue79 }
/-- bits.Len64: "Len64 returns the minimum number of bits required to represent x; the result is 0 for x == 0.": IT RETURNS 'Lib.bitLen x'; the world is as it was. ('h0', 'h1': x is a uint64.) (LAID: no walk: one application.) -/
theorem Try.bits_Len64 (x : Int) (w : World) (h0 : 0 ≤ x) (h1 : x ≤ 18446744073709551615) :
    Calls Try.prog 178 #[.int .u64 x] w fun e w' => e = .returned (.int .i64 (Lib.bitLen x.toNat)) ∧ w' = w := Any.bits_Len64 Try.lays129 x w h0 h1
def Try.lays264_ren : Go.Shelf.Ren := ⟨fun | 264 => 179 | n => n, fun | 53 => 79 | 46 => 188 | n => n, fun | n => n⟩
theorem Try.lays264 : Go.Proofs.Lays.n264 Try.prog Try.lays264_ren := {
  mixed := by kernel_rfl
  f264 := Try.func179.trans (congrArg some (by kernel_rfl))
  t46 := Try.underlying188
  a46 := Try.isAgg188
  z46 := Try.sizeOf188
  v46 := Try.zeroValue188
  t53 := Try.underlying79
  a53 := Try.isAgg79
  z53 := Try.sizeOf79
  v53 := Try.zeroValue79 }
open Go.RowKit Go.Lib in
theorem Try.bits_Mul64 (x y : Nat) (hx : x < 18446744073709551616) (hy : y < 18446744073709551616) (w : World) :
    Calls Try.prog 179 #[.int .u64 x, .int .u64 y] w fun e w' => e = .returned (.tuple #[.int .u64 ((x * y / 18446744073709551616 : Nat) : Int), .int .u64 ((x * y % 18446744073709551616 : Nat) : Int)]) ∧ w' = w := Any.bits_Mul64 Try.lays264 x y hx hy w
end Go.Proofs

/- Entries of the table: what functions give. -/
set_option linter.unusedSimpArgs false
set_option linter.unusedVariables false
namespace Go.Proofs.Ytfbakgcemnkcpaa
open Go Go.Sky
set_option maxRecDepth 100000
theorem progOk : ProgOk Try.prog := ⟨by kernel_rfl, by kernel_rfl⟩

/-! math/bits.Mul64 -/
def e_math_bits_Mul64 : Entry := fun args => match args with | [.int .u64 false x, .int .u64 false y] => some (.leaf (.tuple [u6 (x*y/18446744073709551616), u6 (x*y%18446744073709551616)])) | _ => none
theorem ok_math_bits_Mul64 : EntryOk Try.prog 179 e_math_bits_Mul64 := by
  refine entry_calls progOk (by kernel_rfl) ?_
  intro args t v h ht φ cs hl
  unfold e_math_bits_Mul64 at h
  split at h
  · cases h
    cases ht
    obtain ⟨rfl, hx, hy⟩ := ints2 hl
    rename_i x y
    obtain ⟨hx0, hx1⟩ := inR_u64.1 hx
    obtain ⟨hy0, hy1⟩ := inR_u64.1 hy
    obtain ⟨X, rfl⟩ := Int.eq_ofNat_of_zero_le hx0
    obtain ⟨Y, rfl⟩ := Int.eq_ofNat_of_zero_le hy0
    refine ⟨_, ?_, fun w => Try.bits_Mul64 X Y (by omega) (by omega) w⟩
    have h1 : X * Y < 18446744073709551616 * 18446744073709551616 := Nat.mul_lt_mul'' (by omega) (by omega)
    have h2 : X * Y / 18446744073709551616 < 18446744073709551616 := Nat.div_lt_of_lt_mul h1
    rw [Int.natCast_ediv, Int.natCast_emod, Int.natCast_mul]
    exact rel_pair (inR_u64.2 ⟨by omega, by omega⟩) (inR_u64.2 ⟨by omega, by omega⟩)
  · cases h
noncomputable def tab_math_bits_Mul64 : List (FuncId × Entry) := (179, e_math_bits_Mul64) :: []
theorem tok_math_bits_Mul64 : TableOk Try.prog (table tab_math_bits_Mul64) := table_cons ok_math_bits_Mul64 table_nil

/-! math/bits.Len64 -/
def e_math_bits_Len64 : Entry := fun args => match args with | [.int .u64 false x] => some (.leaf (i6 (Lib.bitLen x.toNat))) | _ => none
theorem ok_math_bits_Len64 : EntryOk Try.prog 178 e_math_bits_Len64 := by
  refine entry_calls progOk (by kernel_rfl) ?_
  intro args t v h ht φ cs hl
  unfold e_math_bits_Len64 at h
  split at h
  · cases h
    cases ht
    obtain ⟨rfl, hx⟩ := ints1 hl
    rename_i x
    obtain ⟨hx0, hx1⟩ := inR_u64.1 hx
    refine ⟨_, ?_, fun w => Try.bits_Len64 x w hx0 hx1⟩
    exact rel_int (inR_i64.2 (bitLen_r x hx0 hx1))
  · cases h
noncomputable def tab_math_bits_Len64 : List (FuncId × Entry) := (178, e_math_bits_Len64) :: tab_math_bits_Mul64
theorem tok_math_bits_Len64 : TableOk Try.prog (table tab_math_bits_Len64) := table_cons ok_math_bits_Len64 tok_math_bits_Mul64

/-! num.size -/
def e_num_size : Entry := fun args => match args with | [.int .i64 false n] => some (.leaf (u6 (sz n))) | _ => none
theorem ok_num_size : EntryOk Try.prog 180 e_num_size := entry_ok progOk (T := table tab_math_bits_Len64) tok_math_bits_Len64 16 12 noKnown (fun _ _ _ _ => noKnown_ok) (by
  intro args t v h hv
  unfold e_num_size at h
  split at h
  · cases h
    cases hv
    refine ⟨rfl, by kernel_rfl, fun φ cs hl => ?_⟩
    rename_i n
    obtain ⟨h_n, _⟩ : InR .i64 n ∧ True := rngL_of _ _ True hl trivial
    exact (congrArg Tr.run (by kernel_rfl : evV Try.prog (table tab_math_bits_Len64) 16 12 noKnown 180 [.int .i64 false n] = tr_num_size n)).trans (run_num_size n h_n)
  · cases h)
noncomputable def tab_num_size : List (FuncId × Entry) := (180, e_num_size) :: tab_math_bits_Len64
theorem tok_num_size : TableOk Try.prog (table tab_num_size) := table_cons ok_num_size tok_math_bits_Len64

/-! num.Times -/
def e_num_Times : Entry := fun args => match args with | [.int .i64 false a, .int .i64 false b] => some (.leaf (i6 (sat (a * b)))) | _ => none
theorem ok_num_Times : EntryOk Try.prog 124 e_num_Times := entry_ok progOk (T := table tab_num_size) tok_num_size 16 12 noKnown (fun _ _ _ _ => noKnown_ok) (by
  intro args t v h hv
  unfold e_num_Times at h
  split at h
  · cases h
    cases hv
    refine ⟨rfl, by kernel_rfl, fun φ cs hl => ?_⟩
    rename_i a b
    obtain ⟨h_a, h_b, _⟩ : InR .i64 a ∧ InR .i64 b ∧ True := rngL_of _ _ True hl trivial
    exact (congrArg Tr.run (by kernel_rfl : evV Try.prog (table tab_num_size) 16 12 noKnown 124 [.int .i64 false a, .int .i64 false b] = tr_num_Times a b)).trans (run_num_Times a b h_a h_b)
  · cases h)
noncomputable def tab_num_Times : List (FuncId × Entry) := (124, e_num_Times) :: tab_num_size
theorem tok_num_Times : TableOk Try.prog (table tab_num_Times) := table_cons ok_num_Times tok_num_size

/-! num.Plus -/
def e_num_Plus : Entry := fun args => match args with | [.int .i64 false a, .int .i64 false b] => some (.leaf (i6 (sat (a + b)))) | _ => none
theorem ok_num_Plus : EntryOk Try.prog 121 e_num_Plus := entry_ok progOk (T := table tab_num_Times) tok_num_Times 16 12 noKnown (fun _ _ _ _ => noKnown_ok) (by
  intro args t v h hv
  unfold e_num_Plus at h
  split at h
  · cases h
    cases hv
    refine ⟨rfl, by kernel_rfl, fun φ cs hl => ?_⟩
    rename_i a b
    obtain ⟨h_a, h_b, _⟩ : InR .i64 a ∧ InR .i64 b ∧ True := rngL_of _ _ True hl trivial
    exact (congrArg Tr.run (by kernel_rfl : evV Try.prog (table tab_num_Times) 16 12 noKnown 121 [.int .i64 false a, .int .i64 false b] = tr_num_Plus a b)).trans (run_num_Plus a b h_a h_b)
  · cases h)
noncomputable def tab_num_Plus : List (FuncId × Entry) := (121, e_num_Plus) :: tab_num_Times
theorem tok_num_Plus : TableOk Try.prog (table tab_num_Plus) := table_cons ok_num_Plus tok_num_Times

end Go.Proofs.Ytfbakgcemnkcpaa

/- Entries of the table: what functions give. -/
set_option linter.unusedSimpArgs false
set_option linter.unusedVariables false
namespace Go.Proofs.Ytfbakgcemnkcpaa
open Go Go.Sky
set_option maxRecDepth 100000

/-! num.Root -/
def e_num_Root : Entry := fun args => match args with | [.int .u64 false n] => some (.leaf (i6 (isq n))) | _ => none
noncomputable def O_num_Root_0 : Known := known 0 (piece Try.prog (table tab_num_Plus) noKnown 117 0 24 [2, 3, 4, 12, 13, 14, 15, 16, 17, 18, 19, 20, 21, 22, 23] [0, 3] g_num_Root_0) noKnown
theorem O_num_Root_0_ok : ∀ fn c, Try.prog.funcs[117]? = some fn → fn.body = some c → KnownOk Try.prog O_num_Root_0 (blocksOf c) :=
  known_ok (by kernel_rfl) (piece_wp progOk tok_num_Plus (known_in (by kernel_rfl) (fun _ _ _ _ => noKnown_ok)) (piece_num_Root_0 (by kernel_rfl) (by kernel_rfl) (fun L n r x1 x2 x4 x5 x6 x7 x8 x9 x10 x11 x12 x13 x14 x15 x16 x17 x18 x19 x20 x21 x22 x23 h => by kernel_rfl))) (fun _ _ _ _ => noKnown_ok)
theorem ok_num_Root : EntryOk Try.prog 117 e_num_Root := entry_ok progOk (T := table tab_num_Plus) tok_num_Plus 16 12 O_num_Root_0 O_num_Root_0_ok (by
  intro args t v h hv
  unfold e_num_Root at h
  split at h
  · cases h
    cases hv
    refine ⟨rfl, by kernel_rfl, fun φ cs hl => ?_⟩
    rename_i n
    obtain ⟨h_n, _⟩ : InR .u64 n ∧ True := rngL_of _ _ True hl trivial
    exact (congrArg Tr.run (by kernel_rfl : evV Try.prog (table tab_num_Plus) 16 12 O_num_Root_0 117 [.int .u64 false n] = tr_num_Root n)).trans (run_num_Root n h_n)
  · cases h)
noncomputable def tab_num_Root : List (FuncId × Entry) := (117, e_num_Root) :: tab_num_Plus
theorem tok_num_Root : TableOk Try.prog (table tab_num_Root) := table_cons ok_num_Root tok_num_Plus

/-! skylightref01.Root -/
def e_skylightref01_Root : Entry := fun args => match args with | [.int .u64 false n] => some (.leaf (i6 (isq n))) | _ => none
noncomputable def O_skylightref01_Root_0 : Known := known 0 (piece Try.prog (table tab_num_Root) noKnown 128 0 22 [3, 4, 5, 6, 7, 8, 9, 10, 11, 12, 13, 14, 15, 16, 17, 18, 19] [0, 3, 4] g_skylightref01_Root_0) noKnown
theorem O_skylightref01_Root_0_ok : ∀ fn c, Try.prog.funcs[128]? = some fn → fn.body = some c → KnownOk Try.prog O_skylightref01_Root_0 (blocksOf c) :=
  known_ok (by kernel_rfl) (piece_wp progOk tok_num_Root (known_in (by kernel_rfl) (fun _ _ _ _ => noKnown_ok)) (piece_skylightref01_Root_0 (by kernel_rfl) (by kernel_rfl) (fun L n r i x1 x2 x5 x6 x7 x8 x9 x10 x11 x12 x13 x14 x15 x16 x17 x18 x19 x20 x21 h => by kernel_rfl))) (fun _ _ _ _ => noKnown_ok)
theorem ok_skylightref01_Root : EntryOk Try.prog 128 e_skylightref01_Root := entry_ok progOk (T := table tab_num_Root) tok_num_Root 16 12 O_skylightref01_Root_0 O_skylightref01_Root_0_ok (by
  intro args t v h hv
  unfold e_skylightref01_Root at h
  split at h
  · cases h
    cases hv
    refine ⟨rfl, by kernel_rfl, fun φ cs hl => ?_⟩
    rename_i n
    obtain ⟨h_n, _⟩ : InR .u64 n ∧ True := rngL_of _ _ True hl trivial
    exact (congrArg Tr.run (by kernel_rfl : evV Try.prog (table tab_num_Root) 16 12 O_skylightref01_Root_0 128 [.int .u64 false n] = tr_skylightref01_Root n)).trans (run_skylightref01_Root n h_n)
  · cases h)
noncomputable def tab_skylightref01_Root : List (FuncId × Entry) := (128, e_skylightref01_Root) :: tab_num_Root
theorem tok_skylightref01_Root : TableOk Try.prog (table tab_skylightref01_Root) := table_cons ok_skylightref01_Root tok_num_Root

end Go.Proofs.Ytfbakgcemnkcpaa

/- Entries of the table: what functions give. -/
set_option linter.unusedSimpArgs false
set_option linter.unusedVariables false
namespace Go.Proofs.Ytfbakgcemnkcpaa
open Go Go.Sky
set_option maxRecDepth 100000

/-! math/bits.LeadingZeros64 -/
def e_math_bits_LeadingZeros64 : Entry := fun args => match args with | [.int .u64 false x] => some (.leaf (i6 (64 - (Lib.bitLen x.toNat : Nat)))) | _ => none
theorem ok_math_bits_LeadingZeros64 : EntryOk Try.prog 208 e_math_bits_LeadingZeros64 := by
  refine entry_calls progOk (by kernel_rfl) ?_
  intro args t v h ht φ cs hl
  unfold e_math_bits_LeadingZeros64 at h
  split at h
  · cases h
    cases ht
    obtain ⟨rfl, hx⟩ := ints1 hl
    rename_i x
    obtain ⟨hx0, hx1⟩ := inR_u64.1 hx
    refine ⟨_, ?_, fun w => Try.bits_LeadingZeros64 x w hx0 hx1⟩
    have := Any.bitLen_le64 x hx0 hx1
    exact rel_int (inR_i64.2 (by omega))
  · cases h
noncomputable def tab_math_bits_LeadingZeros64 : List (FuncId × Entry) := (208, e_math_bits_LeadingZeros64) :: tab_skylightref01_Root
theorem tok_math_bits_LeadingZeros64 : TableOk Try.prog (table tab_math_bits_LeadingZeros64) := table_cons ok_math_bits_LeadingZeros64 tok_skylightref01_Root

/-! math/bits.Div64 -/
def e_math_bits_Div64 : Entry := fun args => match args with | [.int .u64 false hi, .int .u64 false lo, .int .u64 false y] => some (.node (decide (hi < y)) (.leaf (.tuple [u6 ((hi * 18446744073709551616 + lo) / y), u6 ((hi * 18446744073709551616 + lo) % y)])) .bad) | _ => none
noncomputable def O_math_bits_Div64_0 : Known := known 0 (piece Try.prog (table tab_math_bits_LeadingZeros64) noKnown 202 0 135 [15, 16, 67, 68, 69, 70, 71, 72, 73, 74, 75, 76, 77, 78, 79, 80, 81, 82, 83, 84, 85] [9, 10, 13, 15, 16] g_math_bits_Div64_0) noKnown
theorem O_math_bits_Div64_0_ok : ∀ fn c, Try.prog.funcs[202]? = some fn → fn.body = some c → KnownOk Try.prog O_math_bits_Div64_0 (blocksOf c) :=
  known_ok (by kernel_rfl) (piece_wp progOk tok_math_bits_LeadingZeros64 (known_in (by kernel_rfl) (fun _ _ _ _ => noKnown_ok)) (piece_math_bits_Div64_0 (by kernel_rfl) (by kernel_rfl) (fun L yn1 yn0 un1 q rh x0 x1 x2 x3 x4 x5 x6 x7 x8 x11 x12 x14 x17 x18 x19 x20 x21 x22 x23 x24 x25 x26 x27 x28 x29 x30 x31 x32 x33 x34 x35 x36 x37 x38 x39 x40 x41 x42 x43 x44 x45 x46 x47 x48 x49 x50 x51 x52 x53 x54 x55 x56 x57 x58 x59 x60 x61 x62 x63 x64 x65 x66 x67 x68 x69 x70 x71 x72 x73 x74 x75 x76 x77 x78 x79 x80 x81 x82 x83 x84 x85 x86 x87 x88 x89 x90 x91 x92 x93 x94 x95 x96 x97 x98 x99 x100 x101 x102 x103 x104 x105 x106 x107 x108 x109 x110 x111 x112 x113 x114 x115 x116 x117 x118 x119 x120 x121 x122 x123 x124 x125 x126 x127 x128 x129 x130 x131 x132 x133 x134 h => by kernel_rfl))) (fun _ _ _ _ => noKnown_ok)
noncomputable def O_math_bits_Div64_2 : Known := known 2 (piece Try.prog (table tab_math_bits_LeadingZeros64) O_math_bits_Div64_0 202 2 135 [16, 18, 102, 103, 104, 105, 106, 107, 108, 109, 110, 111, 112, 113, 114, 115, 116, 117, 118, 119, 120] [9, 10, 14, 18, 16] g_math_bits_Div64_2) O_math_bits_Div64_0
theorem O_math_bits_Div64_2_ok : ∀ fn c, Try.prog.funcs[202]? = some fn → fn.body = some c → KnownOk Try.prog O_math_bits_Div64_2 (blocksOf c) :=
  known_ok (by kernel_rfl) (piece_wp progOk tok_math_bits_LeadingZeros64 (known_in (by kernel_rfl) O_math_bits_Div64_0_ok) (piece_math_bits_Div64_2 (by kernel_rfl) (by kernel_rfl) (fun L yn1 yn0 un1 q rh x0 x1 x2 x3 x4 x5 x6 x7 x8 x11 x12 x13 x15 x17 x19 x20 x21 x22 x23 x24 x25 x26 x27 x28 x29 x30 x31 x32 x33 x34 x35 x36 x37 x38 x39 x40 x41 x42 x43 x44 x45 x46 x47 x48 x49 x50 x51 x52 x53 x54 x55 x56 x57 x58 x59 x60 x61 x62 x63 x64 x65 x66 x67 x68 x69 x70 x71 x72 x73 x74 x75 x76 x77 x78 x79 x80 x81 x82 x83 x84 x85 x86 x87 x88 x89 x90 x91 x92 x93 x94 x95 x96 x97 x98 x99 x100 x101 x102 x103 x104 x105 x106 x107 x108 x109 x110 x111 x112 x113 x114 x115 x116 x117 x118 x119 x120 x121 x122 x123 x124 x125 x126 x127 x128 x129 x130 x131 x132 x133 x134 h => by kernel_rfl))) O_math_bits_Div64_0_ok
theorem ok_math_bits_Div64 : EntryOk Try.prog 202 e_math_bits_Div64 := entry_ok progOk (T := table tab_math_bits_LeadingZeros64) tok_math_bits_LeadingZeros64 16 12 O_math_bits_Div64_2 O_math_bits_Div64_2_ok (by
  intro args t v h hv
  unfold e_math_bits_Div64 at h
  split at h
  · cases h
    simp only [Tr.run] at hv
    split at hv
    rotate_left
    · cases hv
    rename_i hpre0
    have hpre := of_decide_eq_true hpre0
    cases hv
    refine ⟨rfl, by kernel_rfl, fun φ cs hl => ?_⟩
    rename_i hi lo y
    obtain ⟨h_hi, h_lo, h_y, _⟩ : InR .u64 hi ∧ InR .u64 lo ∧ InR .u64 y ∧ True := rngL_of _ _ True hl trivial
    exact (congrArg Tr.run (by kernel_rfl : evV Try.prog (table tab_math_bits_LeadingZeros64) 16 12 O_math_bits_Div64_2 202 [.int .u64 false hi, .int .u64 false lo, .int .u64 false y] = tr_math_bits_Div64 hi lo y)).trans (run_math_bits_Div64 hi lo y h_hi h_lo h_y hpre)
  · cases h)
noncomputable def tab_math_bits_Div64 : List (FuncId × Entry) := (202, e_math_bits_Div64) :: tab_math_bits_LeadingZeros64
theorem tok_math_bits_Div64 : TableOk Try.prog (table tab_math_bits_Div64) := table_cons ok_math_bits_Div64 tok_math_bits_LeadingZeros64

end Go.Proofs.Ytfbakgcemnkcpaa

/- Entries of the table: what functions give. -/
set_option linter.unusedSimpArgs false
set_option linter.unusedVariables false
namespace Go.Proofs.Ytfbakgcemnkcpaa
open Go Go.Sky
set_option maxRecDepth 100000

/-! wide.Mul -/
def e_wide_Mul : Entry := fun args => match args with | [.int .i64 false a, .int .i64 false b] => some (.leaf (w2 (a * b / 18446744073709551616) (a * b % 18446744073709551616))) | _ => none
theorem ok_wide_Mul : EntryOk Try.prog 164 e_wide_Mul := entry_ok progOk (T := table tab_math_bits_Div64) tok_math_bits_Div64 16 12 noKnown (fun _ _ _ _ => noKnown_ok) (by
  intro args t v h hv
  unfold e_wide_Mul at h
  split at h
  · cases h
    cases hv
    refine ⟨rfl, by kernel_rfl, fun φ cs hl => ?_⟩
    rename_i a b
    obtain ⟨h_a, h_b, _⟩ : InR .i64 a ∧ InR .i64 b ∧ True := rngL_of _ _ True hl trivial
    exact (congrArg Tr.run (by kernel_rfl : evV Try.prog (table tab_math_bits_Div64) 16 12 noKnown 164 [.int .i64 false a, .int .i64 false b] = tr_wide_Mul a b)).trans (run_wide_Mul a b h_a h_b)
  · cases h)
noncomputable def tab_wide_Mul : List (FuncId × Entry) := (164, e_wide_Mul) :: tab_math_bits_Div64
theorem tok_wide_Mul : TableOk Try.prog (table tab_wide_Mul) := table_cons ok_wide_Mul tok_math_bits_Div64

/-! wide.Over -/
def e_wide_Over : Entry := fun args => match args with | [.agg [.int .i64 false a_hi, .int .u64 false a_lo], .int .i64 false d] => some (.leaf (.tuple [i6 (ovQ (a_hi * 18446744073709551616 + a_lo) d), bb (ovOk (a_hi * 18446744073709551616 + a_lo) d)])) | _ => none
theorem ok_wide_Over : EntryOk Try.prog 184 e_wide_Over := entry_ok progOk (T := table tab_wide_Mul) tok_wide_Mul 16 12 noKnown (fun _ _ _ _ => noKnown_ok) (by
  intro args t v h hv
  unfold e_wide_Over at h
  split at h
  · cases h
    cases hv
    refine ⟨rfl, by kernel_rfl, fun φ cs hl => ?_⟩
    rename_i a_hi a_lo d
    obtain ⟨h_a_hi, h_a_lo, h_d, _⟩ : InR .i64 a_hi ∧ InR .u64 a_lo ∧ InR .i64 d ∧ True := rngL_of _ _ True hl trivial
    exact (congrArg Tr.run (by kernel_rfl : evV Try.prog (table tab_wide_Mul) 16 12 noKnown 184 [.agg [.int .i64 false a_hi, .int .u64 false a_lo], .int .i64 false d] = tr_wide_Over a_hi a_lo d)).trans (run_wide_Over a_hi a_lo d h_a_hi h_a_lo h_d)
  · cases h)
noncomputable def tab_wide_Over : List (FuncId × Entry) := (184, e_wide_Over) :: tab_wide_Mul
theorem tok_wide_Over : TableOk Try.prog (table tab_wide_Over) := table_cons ok_wide_Over tok_wide_Mul

/-! frac.Right -/
def e_frac_Right : Entry := fun args => match args with | [.agg [.int .i64 false f_n, .int .i64 false f_d]] => some (.leaf (bb (decide (0 < f_d)))) | _ => none
theorem ok_frac_Right : EntryOk Try.prog 183 e_frac_Right := entry_ok progOk (T := table tab_wide_Over) tok_wide_Over 16 12 noKnown (fun _ _ _ _ => noKnown_ok) (by
  intro args t v h hv
  unfold e_frac_Right at h
  split at h
  · cases h
    cases hv
    refine ⟨rfl, by kernel_rfl, fun φ cs hl => ?_⟩
    rename_i f_n f_d
    obtain ⟨h_f_n, h_f_d, _⟩ : InR .i64 f_n ∧ InR .i64 f_d ∧ True := rngL_of _ _ True hl trivial
    exact (congrArg Tr.run (by kernel_rfl : evV Try.prog (table tab_wide_Over) 16 12 noKnown 183 [.agg [.int .i64 false f_n, .int .i64 false f_d]] = tr_frac_Right f_n f_d)).trans (run_frac_Right f_n f_d h_f_n h_f_d)
  · cases h)
noncomputable def tab_frac_Right : List (FuncId × Entry) := (183, e_frac_Right) :: tab_wide_Over
theorem tok_frac_Right : TableOk Try.prog (table tab_frac_Right) := table_cons ok_frac_Right tok_wide_Over

/-! frac.At -/
def e_frac_At : Entry := fun args => match args with | [.int .i64 false v, .agg [.int .i64 false f_n, .int .i64 false f_d]] => some (.leaf (i6 (atF v f_n f_d))) | _ => none
theorem ok_frac_At : EntryOk Try.prog 130 e_frac_At := entry_ok progOk (T := table tab_frac_Right) tok_frac_Right 16 12 noKnown (fun _ _ _ _ => noKnown_ok) (by
  intro args t v h hv
  unfold e_frac_At at h
  split at h
  · cases h
    cases hv
    refine ⟨rfl, by kernel_rfl, fun φ cs hl => ?_⟩
    rename_i v f_n f_d
    obtain ⟨h_v, h_f_n, h_f_d, _⟩ : InR .i64 v ∧ InR .i64 f_n ∧ InR .i64 f_d ∧ True := rngL_of _ _ True hl trivial
    exact (congrArg Tr.run (by kernel_rfl : evV Try.prog (table tab_frac_Right) 16 12 noKnown 130 [.int .i64 false v, .agg [.int .i64 false f_n, .int .i64 false f_d]] = tr_frac_At v f_n f_d)).trans (run_frac_At v f_n f_d h_v h_f_n h_f_d)
  · cases h)
noncomputable def tab_frac_At : List (FuncId × Entry) := (130, e_frac_At) :: tab_frac_Right
theorem tok_frac_At : TableOk Try.prog (table tab_frac_At) := table_cons ok_frac_At tok_frac_Right

end Go.Proofs.Ytfbakgcemnkcpaa

/- Entries of the table: what functions give. -/
set_option linter.unusedSimpArgs false
set_option linter.unusedVariables false
namespace Go.Proofs.Ytfbakgcemnkcpaa
open Go Go.Sky
set_option maxRecDepth 100000

/-! vec.Near -/
def e_vec_Near : Entry := fun args => match args with | [.agg [.int .i64 false v_x, .int .i64 false v_y, .int .i64 false v_z]] => some (.leaf (bb (nearB v_x v_y v_z))) | _ => none
theorem ok_vec_Near : EntryOk Try.prog 37 e_vec_Near := entry_ok progOk (T := table tab_frac_At) tok_frac_At 16 12 noKnown (fun _ _ _ _ => noKnown_ok) (by
  intro args t v h hv
  unfold e_vec_Near at h
  split at h
  · cases h
    cases hv
    refine ⟨rfl, by kernel_rfl, fun φ cs hl => ?_⟩
    rename_i v_x v_y v_z
    obtain ⟨h_v_x, h_v_y, h_v_z, _⟩ : InR .i64 v_x ∧ InR .i64 v_y ∧ InR .i64 v_z ∧ True := rngL_of _ _ True hl trivial
    exact (congrArg Tr.run (by kernel_rfl : evV Try.prog (table tab_frac_At) 16 12 noKnown 37 [.agg [.int .i64 false v_x, .int .i64 false v_y, .int .i64 false v_z]] = tr_vec_Near v_x v_y v_z)).trans (run_vec_Near v_x v_y v_z h_v_x h_v_y h_v_z)
  · cases h)
noncomputable def tab_vec_Near : List (FuncId × Entry) := (37, e_vec_Near) :: tab_frac_At
theorem tok_vec_Near : TableOk Try.prog (table tab_vec_Near) := table_cons ok_vec_Near tok_frac_At

/-! vec.Add -/
def e_vec_Add : Entry := fun args => match args with | [.agg [.int .i64 false a_x, .int .i64 false a_y, .int .i64 false a_z], .agg [.int .i64 false b_x, .int .i64 false b_y, .int .i64 false b_z]] => some (.leaf (v3 (sat (a_x + b_x)) (sat (a_y + b_y)) (sat (a_z + b_z)))) | _ => none
theorem ok_vec_Add : EntryOk Try.prog 39 e_vec_Add := entry_ok progOk (T := table tab_vec_Near) tok_vec_Near 16 12 noKnown (fun _ _ _ _ => noKnown_ok) (by
  intro args t v h hv
  unfold e_vec_Add at h
  split at h
  · cases h
    cases hv
    refine ⟨rfl, by kernel_rfl, fun φ cs hl => ?_⟩
    rename_i a_x a_y a_z b_x b_y b_z
    obtain ⟨h_a_x, h_a_y, h_a_z, h_b_x, h_b_y, h_b_z, _⟩ : InR .i64 a_x ∧ InR .i64 a_y ∧ InR .i64 a_z ∧ InR .i64 b_x ∧ InR .i64 b_y ∧ InR .i64 b_z ∧ True := rngL_of _ _ True hl trivial
    exact (congrArg Tr.run (by kernel_rfl : evV Try.prog (table tab_vec_Near) 16 12 noKnown 39 [.agg [.int .i64 false a_x, .int .i64 false a_y, .int .i64 false a_z], .agg [.int .i64 false b_x, .int .i64 false b_y, .int .i64 false b_z]] = tr_vec_Add a_x a_y a_z b_x b_y b_z)).trans (run_vec_Add a_x a_y a_z b_x b_y b_z h_a_x h_a_y h_a_z h_b_x h_b_y h_b_z)
  · cases h)
noncomputable def tab_vec_Add : List (FuncId × Entry) := (39, e_vec_Add) :: tab_vec_Near
theorem tok_vec_Add : TableOk Try.prog (table tab_vec_Add) := table_cons ok_vec_Add tok_vec_Near

/-! vec.Sub -/
def e_vec_Sub : Entry := fun args => match args with | [.agg [.int .i64 false a_x, .int .i64 false a_y, .int .i64 false a_z], .agg [.int .i64 false b_x, .int .i64 false b_y, .int .i64 false b_z]] => some (.leaf (v3 (sat (a_x + sat (b_x * -1))) (sat (a_y + sat (b_y * -1))) (sat (a_z + sat (b_z * -1))))) | _ => none
theorem ok_vec_Sub : EntryOk Try.prog 41 e_vec_Sub := entry_ok progOk (T := table tab_vec_Add) tok_vec_Add 16 12 noKnown (fun _ _ _ _ => noKnown_ok) (by
  intro args t v h hv
  unfold e_vec_Sub at h
  split at h
  · cases h
    cases hv
    refine ⟨rfl, by kernel_rfl, fun φ cs hl => ?_⟩
    rename_i a_x a_y a_z b_x b_y b_z
    obtain ⟨h_a_x, h_a_y, h_a_z, h_b_x, h_b_y, h_b_z, _⟩ : InR .i64 a_x ∧ InR .i64 a_y ∧ InR .i64 a_z ∧ InR .i64 b_x ∧ InR .i64 b_y ∧ InR .i64 b_z ∧ True := rngL_of _ _ True hl trivial
    exact (congrArg Tr.run (by kernel_rfl : evV Try.prog (table tab_vec_Add) 16 12 noKnown 41 [.agg [.int .i64 false a_x, .int .i64 false a_y, .int .i64 false a_z], .agg [.int .i64 false b_x, .int .i64 false b_y, .int .i64 false b_z]] = tr_vec_Sub a_x a_y a_z b_x b_y b_z)).trans (run_vec_Sub a_x a_y a_z b_x b_y b_z h_a_x h_a_y h_a_z h_b_x h_b_y h_b_z)
  · cases h)
noncomputable def tab_vec_Sub : List (FuncId × Entry) := (41, e_vec_Sub) :: tab_vec_Add
theorem tok_vec_Sub : TableOk Try.prog (table tab_vec_Sub) := table_cons ok_vec_Sub tok_vec_Add

/-! vec.Dot -/
def e_vec_Dot : Entry := fun args => match args with | [.agg [.int .i64 false a_x, .int .i64 false a_y, .int .i64 false a_z], .agg [.int .i64 false b_x, .int .i64 false b_y, .int .i64 false b_z]] => some (.leaf (i6 (dotN a_x a_y a_z b_x b_y b_z))) | _ => none
theorem ok_vec_Dot : EntryOk Try.prog 43 e_vec_Dot := entry_ok progOk (T := table tab_vec_Sub) tok_vec_Sub 16 12 noKnown (fun _ _ _ _ => noKnown_ok) (by
  intro args t v h hv
  unfold e_vec_Dot at h
  split at h
  · cases h
    cases hv
    refine ⟨rfl, by kernel_rfl, fun φ cs hl => ?_⟩
    rename_i a_x a_y a_z b_x b_y b_z
    obtain ⟨h_a_x, h_a_y, h_a_z, h_b_x, h_b_y, h_b_z, _⟩ : InR .i64 a_x ∧ InR .i64 a_y ∧ InR .i64 a_z ∧ InR .i64 b_x ∧ InR .i64 b_y ∧ InR .i64 b_z ∧ True := rngL_of _ _ True hl trivial
    exact (congrArg Tr.run (by kernel_rfl : evV Try.prog (table tab_vec_Sub) 16 12 noKnown 43 [.agg [.int .i64 false a_x, .int .i64 false a_y, .int .i64 false a_z], .agg [.int .i64 false b_x, .int .i64 false b_y, .int .i64 false b_z]] = tr_vec_Dot a_x a_y a_z b_x b_y b_z)).trans (run_vec_Dot a_x a_y a_z b_x b_y b_z h_a_x h_a_y h_a_z h_b_x h_b_y h_b_z)
  · cases h)
noncomputable def tab_vec_Dot : List (FuncId × Entry) := (43, e_vec_Dot) :: tab_vec_Sub
theorem tok_vec_Dot : TableOk Try.prog (table tab_vec_Dot) := table_cons ok_vec_Dot tok_vec_Sub

/-! vec.Cross -/
def e_vec_Cross : Entry := fun args => match args with | [.agg [.int .i64 false a_x, .int .i64 false a_y, .int .i64 false a_z], .agg [.int .i64 false b_x, .int .i64 false b_y, .int .i64 false b_z]] => some (.leaf (v3 (crN a_y a_z b_y b_z a_x b_x) (crN a_z a_x b_z b_x a_y b_y) (crN a_x a_y b_x b_y a_z b_z))) | _ => none
theorem ok_vec_Cross : EntryOk Try.prog 45 e_vec_Cross := entry_ok progOk (T := table tab_vec_Dot) tok_vec_Dot 16 12 noKnown (fun _ _ _ _ => noKnown_ok) (by
  intro args t v h hv
  unfold e_vec_Cross at h
  split at h
  · cases h
    cases hv
    refine ⟨rfl, by kernel_rfl, fun φ cs hl => ?_⟩
    rename_i a_x a_y a_z b_x b_y b_z
    obtain ⟨h_a_x, h_a_y, h_a_z, h_b_x, h_b_y, h_b_z, _⟩ : InR .i64 a_x ∧ InR .i64 a_y ∧ InR .i64 a_z ∧ InR .i64 b_x ∧ InR .i64 b_y ∧ InR .i64 b_z ∧ True := rngL_of _ _ True hl trivial
    exact (congrArg Tr.run (by kernel_rfl : evV Try.prog (table tab_vec_Dot) 16 12 noKnown 45 [.agg [.int .i64 false a_x, .int .i64 false a_y, .int .i64 false a_z], .agg [.int .i64 false b_x, .int .i64 false b_y, .int .i64 false b_z]] = tr_vec_Cross a_x a_y a_z b_x b_y b_z)).trans (run_vec_Cross a_x a_y a_z b_x b_y b_z h_a_x h_a_y h_a_z h_b_x h_b_y h_b_z)
  · cases h)
noncomputable def tab_vec_Cross : List (FuncId × Entry) := (45, e_vec_Cross) :: tab_vec_Dot
theorem tok_vec_Cross : TableOk Try.prog (table tab_vec_Cross) := table_cons ok_vec_Cross tok_vec_Dot

/-! vec.Volume -/
def e_vec_Volume : Entry := fun args => match args with | [.agg [.int .i64 false a_x, .int .i64 false a_y, .int .i64 false a_z], .agg [.int .i64 false b_x, .int .i64 false b_y, .int .i64 false b_z], .agg [.int .i64 false c_x, .int .i64 false c_y, .int .i64 false c_z]] => some (.leaf (i6 (volN a_x a_y a_z b_x b_y b_z c_x c_y c_z))) | _ => none
theorem ok_vec_Volume : EntryOk Try.prog 47 e_vec_Volume := entry_ok progOk (T := table tab_vec_Cross) tok_vec_Cross 16 12 noKnown (fun _ _ _ _ => noKnown_ok) (by
  intro args t v h hv
  unfold e_vec_Volume at h
  split at h
  · cases h
    cases hv
    refine ⟨rfl, by kernel_rfl, fun φ cs hl => ?_⟩
    rename_i a_x a_y a_z b_x b_y b_z c_x c_y c_z
    obtain ⟨h_a_x, h_a_y, h_a_z, h_b_x, h_b_y, h_b_z, h_c_x, h_c_y, h_c_z, _⟩ : InR .i64 a_x ∧ InR .i64 a_y ∧ InR .i64 a_z ∧ InR .i64 b_x ∧ InR .i64 b_y ∧ InR .i64 b_z ∧ InR .i64 c_x ∧ InR .i64 c_y ∧ InR .i64 c_z ∧ True := rngL_of _ _ True hl trivial
    exact (congrArg Tr.run (by kernel_rfl : evV Try.prog (table tab_vec_Cross) 16 12 noKnown 47 [.agg [.int .i64 false a_x, .int .i64 false a_y, .int .i64 false a_z], .agg [.int .i64 false b_x, .int .i64 false b_y, .int .i64 false b_z], .agg [.int .i64 false c_x, .int .i64 false c_y, .int .i64 false c_z]] = tr_vec_Volume a_x a_y a_z b_x b_y b_z c_x c_y c_z)).trans (run_vec_Volume a_x a_y a_z b_x b_y b_z c_x c_y c_z h_a_x h_a_y h_a_z h_b_x h_b_y h_b_z h_c_x h_c_y h_c_z)
  · cases h)
noncomputable def tab_vec_Volume : List (FuncId × Entry) := (47, e_vec_Volume) :: tab_vec_Cross
theorem tok_vec_Volume : TableOk Try.prog (table tab_vec_Volume) := table_cons ok_vec_Volume tok_vec_Cross

/-! skylightref06.Near -/
def e_skylightref06_Near : Entry := fun args => match args with | [.agg [.int .i64 false v_x, .int .i64 false v_y, .int .i64 false v_z]] => some (.leaf (bb (nearB v_x v_y v_z))) | _ => none
theorem ok_skylightref06_Near : EntryOk Try.prog 38 e_skylightref06_Near := entry_ok progOk (T := table tab_vec_Volume) tok_vec_Volume 16 12 noKnown (fun _ _ _ _ => noKnown_ok) (by
  intro args t v h hv
  unfold e_skylightref06_Near at h
  split at h
  · cases h
    cases hv
    refine ⟨rfl, by kernel_rfl, fun φ cs hl => ?_⟩
    rename_i v_x v_y v_z
    obtain ⟨h_v_x, h_v_y, h_v_z, _⟩ : InR .i64 v_x ∧ InR .i64 v_y ∧ InR .i64 v_z ∧ True := rngL_of _ _ True hl trivial
    exact (congrArg Tr.run (by kernel_rfl : evV Try.prog (table tab_vec_Volume) 16 12 noKnown 38 [.agg [.int .i64 false v_x, .int .i64 false v_y, .int .i64 false v_z]] = tr_skylightref06_Near v_x v_y v_z)).trans (run_skylightref06_Near v_x v_y v_z h_v_x h_v_y h_v_z)
  · cases h)
noncomputable def tab_skylightref06_Near : List (FuncId × Entry) := (38, e_skylightref06_Near) :: tab_vec_Volume
theorem tok_skylightref06_Near : TableOk Try.prog (table tab_skylightref06_Near) := table_cons ok_skylightref06_Near tok_vec_Volume

end Go.Proofs.Ytfbakgcemnkcpaa

/- Entries of the table: what functions give. -/
set_option linter.unusedSimpArgs false
set_option linter.unusedVariables false
namespace Go.Proofs.Ytfbakgcemnkcpaa
open Go Go.Sky
set_option maxRecDepth 100000

/-! skylightlaw06.awake -/
def e_skylightlaw06_awake : Entry := fun args => match args with | [] => some (.leaf (bb true)) | _ => none
theorem ok_skylightlaw06_awake : EntryOk Try.prog 34 e_skylightlaw06_awake := entry_ok progOk (T := table tab_skylightref06_Near) tok_skylightref06_Near 100 20 noKnown (fun _ _ _ _ => noKnown_ok) (by
  intro args t v h hv
  unfold e_skylightlaw06_awake at h
  split at h
  · cases h
    cases hv
    refine ⟨rfl, by kernel_rfl, fun φ cs hl => ?_⟩
    exact (congrArg Tr.run (by kernel_rfl : evV Try.prog (table tab_skylightref06_Near) 100 20 noKnown 34 [] = tr_skylightlaw06_awake )).trans (run_skylightlaw06_awake  )
  · cases h)
noncomputable def tab_skylightlaw06_awake : List (FuncId × Entry) := (34, e_skylightlaw06_awake) :: tab_skylightref06_Near
theorem tok_skylightlaw06_awake : TableOk Try.prog (table tab_skylightlaw06_awake) := table_cons ok_skylightlaw06_awake tok_skylightref06_Near

/-! skylightlaw06.VecVolume -/
def e_skylightlaw06_VecVolume : Entry := fun args => match args with | [.agg [.int .i64 false a_x, .int .i64 false a_y, .int .i64 false a_z], .agg [.int .i64 false b_x, .int .i64 false b_y, .int .i64 false b_z], .agg [.int .i64 false c_x, .int .i64 false c_y, .int .i64 false c_z]] => some (.leaf (bb true)) | _ => none
theorem ok_skylightlaw06_VecVolume : EntryOk Try.prog 6 e_skylightlaw06_VecVolume := entry_ok progOk (T := table tab_skylightlaw06_awake) tok_skylightlaw06_awake 16 12 noKnown (fun _ _ _ _ => noKnown_ok) (by
  intro args t v h hv
  unfold e_skylightlaw06_VecVolume at h
  split at h
  · cases h
    cases hv
    refine ⟨rfl, by kernel_rfl, fun φ cs hl => ?_⟩
    rename_i a_x a_y a_z b_x b_y b_z c_x c_y c_z
    obtain ⟨h_a_x, h_a_y, h_a_z, h_b_x, h_b_y, h_b_z, h_c_x, h_c_y, h_c_z, _⟩ : InR .i64 a_x ∧ InR .i64 a_y ∧ InR .i64 a_z ∧ InR .i64 b_x ∧ InR .i64 b_y ∧ InR .i64 b_z ∧ InR .i64 c_x ∧ InR .i64 c_y ∧ InR .i64 c_z ∧ True := rngL_of _ _ True hl trivial
    exact (congrArg Tr.run (by kernel_rfl : evV Try.prog (table tab_skylightlaw06_awake) 16 12 noKnown 6 [.agg [.int .i64 false a_x, .int .i64 false a_y, .int .i64 false a_z], .agg [.int .i64 false b_x, .int .i64 false b_y, .int .i64 false b_z], .agg [.int .i64 false c_x, .int .i64 false c_y, .int .i64 false c_z]] = tr_skylightlaw06_VecVolume a_x a_y a_z b_x b_y b_z c_x c_y c_z)).trans (run_skylightlaw06_VecVolume a_x a_y a_z b_x b_y b_z c_x c_y c_z h_a_x h_a_y h_a_z h_b_x h_b_y h_b_z h_c_x h_c_y h_c_z)
  · cases h)
noncomputable def tab_skylightlaw06_VecVolume : List (FuncId × Entry) := (6, e_skylightlaw06_VecVolume) :: tab_skylightlaw06_awake
theorem tok_skylightlaw06_VecVolume : TableOk Try.prog (table tab_skylightlaw06_VecVolume) := table_cons ok_skylightlaw06_VecVolume tok_skylightlaw06_awake

end Go.Proofs.Ytfbakgcemnkcpaa

/- Entries of the table: what functions give. -/
set_option linter.unusedSimpArgs false
set_option linter.unusedVariables false
namespace Go.Proofs.Ytfbakgcemnkcpaa
open Go Go.Sky
set_option maxRecDepth 100000

/-! (vec.triple).most -/
def e_vec_triple_most : Entry := fun args => match args with | [.agg [.int .i64 false v_x, .int .i64 false v_y, .int .i64 false v_z]] => some (.leaf (i6 (mostI v_x v_y v_z))) | _ => none
theorem ok_vec_triple_most : EntryOk Try.prog 111 e_vec_triple_most := entry_ok progOk (T := table tab_skylightlaw06_VecVolume) tok_skylightlaw06_VecVolume 16 12 noKnown (fun _ _ _ _ => noKnown_ok) (by
  intro args t v h hv
  unfold e_vec_triple_most at h
  split at h
  · cases h
    cases hv
    refine ⟨rfl, by kernel_rfl, fun φ cs hl => ?_⟩
    rename_i v_x v_y v_z
    obtain ⟨h_v_x, h_v_y, h_v_z, _⟩ : InR .i64 v_x ∧ InR .i64 v_y ∧ InR .i64 v_z ∧ True := rngL_of _ _ True hl trivial
    exact (congrArg Tr.run (by kernel_rfl : evV Try.prog (table tab_skylightlaw06_VecVolume) 16 12 noKnown 111 [.agg [.int .i64 false v_x, .int .i64 false v_y, .int .i64 false v_z]] = tr_vec_triple_most v_x v_y v_z)).trans (run_vec_triple_most v_x v_y v_z h_v_x h_v_y h_v_z)
  · cases h)
noncomputable def tab_vec_triple_most : List (FuncId × Entry) := (111, e_vec_triple_most) :: tab_skylightlaw06_VecVolume
theorem tok_vec_triple_most : TableOk Try.prog (table tab_vec_triple_most) := table_cons ok_vec_triple_most tok_skylightlaw06_VecVolume

/-! vec.Len -/
def e_vec_Len : Entry := fun args => match args with | [.agg [.int .i64 false v_x, .int .i64 false v_y, .int .i64 false v_z]] => some (.leaf (i6 (isq (dotN v_x v_y v_z v_x v_y v_z)))) | _ => none
theorem ok_vec_Len : EntryOk Try.prog 35 e_vec_Len := entry_ok progOk (T := table tab_vec_triple_most) tok_vec_triple_most 16 12 noKnown (fun _ _ _ _ => noKnown_ok) (by
  intro args t v h hv
  unfold e_vec_Len at h
  split at h
  · cases h
    cases hv
    refine ⟨rfl, by kernel_rfl, fun φ cs hl => ?_⟩
    rename_i v_x v_y v_z
    obtain ⟨h_v_x, h_v_y, h_v_z, _⟩ : InR .i64 v_x ∧ InR .i64 v_y ∧ InR .i64 v_z ∧ True := rngL_of _ _ True hl trivial
    exact (congrArg Tr.run (by kernel_rfl : evV Try.prog (table tab_vec_triple_most) 16 12 noKnown 35 [.agg [.int .i64 false v_x, .int .i64 false v_y, .int .i64 false v_z]] = tr_vec_Len v_x v_y v_z)).trans (run_vec_Len v_x v_y v_z h_v_x h_v_y h_v_z)
  · cases h)
noncomputable def tab_vec_Len : List (FuncId × Entry) := (35, e_vec_Len) :: tab_vec_triple_most
theorem tok_vec_Len : TableOk Try.prog (table tab_vec_Len) := table_cons ok_vec_Len tok_vec_triple_most

/-! vec.Unit -/
def e_vec_Unit : Entry := fun args => match args with | [.agg [.int .i64 false v_x, .int .i64 false v_y, .int .i64 false v_z]] => some (.leaf (.tuple [v3 (unitC v_x v_y v_z v_x) (unitC v_x v_y v_z v_y) (unitC v_x v_y v_z v_z), bb (okU v_x v_y v_z)])) | _ => none
noncomputable def O_vec_Unit_0 : Known := known 0 (piece Try.prog (table tab_vec_Len) noKnown 33 0 36 [5, 18, 19, 20, 21, 22, 23] [4, 5] g_vec_Unit_0) noKnown
theorem O_vec_Unit_0_ok : ∀ fn c, Try.prog.funcs[33]? = some fn → fn.body = some c → KnownOk Try.prog O_vec_Unit_0 (blocksOf c) :=
  known_ok (by kernel_rfl) (piece_wp progOk tok_vec_Len (known_in (by kernel_rfl) (fun _ _ _ _ => noKnown_ok)) (piece_vec_Unit_0 (by kernel_rfl) (by kernel_rfl) (fun L m p_x p_y p_z q_x q_y q_z t_x t_y t_z x0 x1 x2 x3 x6 x7 x8 x9 x10 x11 x12 x13 x14 x15 x16 x17 x18 x19 x20 x21 x22 x23 x24 x25 x26 x27 x28 x29 x30 x31 x32 x33 x34 x35 => by kernel_rfl))) (fun _ _ _ _ => noKnown_ok)
noncomputable def O_vec_Unit_2 : Known := known 2 (piece Try.prog (table tab_vec_Len) O_vec_Unit_0 33 2 36 [24, 25, 26, 27, 28] [4] g_vec_Unit_2) O_vec_Unit_0
theorem O_vec_Unit_2_ok : ∀ fn c, Try.prog.funcs[33]? = some fn → fn.body = some c → KnownOk Try.prog O_vec_Unit_2 (blocksOf c) :=
  known_ok (by kernel_rfl) (piece_wp progOk tok_vec_Len (known_in (by kernel_rfl) O_vec_Unit_0_ok) (piece_vec_Unit_2 (by kernel_rfl) (by kernel_rfl) (fun L p_x p_y p_z q_x q_y q_z t_x t_y t_z x0 x1 x2 x3 x5 x6 x7 x8 x9 x10 x11 x12 x13 x14 x15 x16 x17 x18 x19 x20 x21 x22 x23 x24 x25 x26 x27 x28 x29 x30 x31 x32 x33 x34 x35 => by kernel_rfl))) O_vec_Unit_0_ok
theorem ok_vec_Unit : EntryOk Try.prog 33 e_vec_Unit := entry_ok progOk (T := table tab_vec_Len) tok_vec_Len 16 12 O_vec_Unit_2 O_vec_Unit_2_ok (by
  intro args t v h hv
  unfold e_vec_Unit at h
  split at h
  · cases h
    cases hv
    refine ⟨rfl, by kernel_rfl, fun φ cs hl => ?_⟩
    rename_i v_x v_y v_z
    obtain ⟨h_v_x, h_v_y, h_v_z, _⟩ : InR .i64 v_x ∧ InR .i64 v_y ∧ InR .i64 v_z ∧ True := rngL_of _ _ True hl trivial
    exact (congrArg Tr.run (by kernel_rfl : evV Try.prog (table tab_vec_Len) 16 12 O_vec_Unit_2 33 [.agg [.int .i64 false v_x, .int .i64 false v_y, .int .i64 false v_z]] = tr_vec_Unit v_x v_y v_z)).trans (run_vec_Unit v_x v_y v_z h_v_x h_v_y h_v_z)
  · cases h)
noncomputable def tab_vec_Unit : List (FuncId × Entry) := (33, e_vec_Unit) :: tab_vec_Len
theorem tok_vec_Unit : TableOk Try.prog (table tab_vec_Unit) := table_cons ok_vec_Unit tok_vec_Len

/-! skylightlaw06.VecUnit -/
def e_skylightlaw06_VecUnit : Entry := fun args => match args with | [.agg [.int .i64 false v_x, .int .i64 false v_y, .int .i64 false v_z]] => some (.leaf (bb true)) | _ => none
theorem ok_skylightlaw06_VecUnit : EntryOk Try.prog 4 e_skylightlaw06_VecUnit := entry_ok progOk (T := table tab_vec_Unit) tok_vec_Unit 16 12 noKnown (fun _ _ _ _ => noKnown_ok) (by
  intro args t v h hv
  unfold e_skylightlaw06_VecUnit at h
  split at h
  · cases h
    cases hv
    refine ⟨rfl, by kernel_rfl, fun φ cs hl => ?_⟩
    rename_i v_x v_y v_z
    obtain ⟨h_v_x, h_v_y, h_v_z, _⟩ : InR .i64 v_x ∧ InR .i64 v_y ∧ InR .i64 v_z ∧ True := rngL_of _ _ True hl trivial
    exact (congrArg Tr.run (by kernel_rfl : evV Try.prog (table tab_vec_Unit) 16 12 noKnown 4 [.agg [.int .i64 false v_x, .int .i64 false v_y, .int .i64 false v_z]] = tr_skylightlaw06_VecUnit v_x v_y v_z)).trans (run_skylightlaw06_VecUnit v_x v_y v_z h_v_x h_v_y h_v_z)
  · cases h)
noncomputable def tab_skylightlaw06_VecUnit : List (FuncId × Entry) := (4, e_skylightlaw06_VecUnit) :: tab_vec_Unit
theorem tok_skylightlaw06_VecUnit : TableOk Try.prog (table tab_skylightlaw06_VecUnit) := table_cons ok_skylightlaw06_VecUnit tok_vec_Unit

end Go.Proofs.Ytfbakgcemnkcpaa

/- Entries of the table: what functions give. -/
set_option linter.unusedSimpArgs false
set_option linter.unusedVariables false
namespace Go.Proofs.Ytfbakgcemnkcpaa
open Go Go.Sky
set_option maxRecDepth 100000

/-! skylightref01.Plus -/
def e_skylightref01_Plus : Entry := fun args => match args with | [.int .i64 false a, .int .i64 false b] => some (.leaf (i6 (sat (a + b)))) | _ => none
theorem ok_skylightref01_Plus : EntryOk Try.prog 122 e_skylightref01_Plus := entry_ok progOk (T := table tab_skylightlaw06_VecUnit) tok_skylightlaw06_VecUnit 16 12 noKnown (fun _ _ _ _ => noKnown_ok) (by
  intro args t v h hv
  unfold e_skylightref01_Plus at h
  split at h
  · cases h
    cases hv
    refine ⟨rfl, by kernel_rfl, fun φ cs hl => ?_⟩
    rename_i a b
    obtain ⟨h_a, h_b, _⟩ : InR .i64 a ∧ InR .i64 b ∧ True := rngL_of _ _ True hl trivial
    exact (congrArg Tr.run (by kernel_rfl : evV Try.prog (table tab_skylightlaw06_VecUnit) 16 12 noKnown 122 [.int .i64 false a, .int .i64 false b] = tr_skylightref01_Plus a b)).trans (run_skylightref01_Plus a b h_a h_b)
  · cases h)
noncomputable def tab_skylightref01_Plus : List (FuncId × Entry) := (122, e_skylightref01_Plus) :: tab_skylightlaw06_VecUnit
theorem tok_skylightref01_Plus : TableOk Try.prog (table tab_skylightref01_Plus) := table_cons ok_skylightref01_Plus tok_skylightlaw06_VecUnit

/-! skylightref01.Size -/
def e_skylightref01_Size : Entry := fun args => match args with | [.int .i64 false n] => some (.leaf (u6 (sz n))) | _ => none
theorem ok_skylightref01_Size : EntryOk Try.prog 182 e_skylightref01_Size := entry_ok progOk (T := table tab_skylightref01_Plus) tok_skylightref01_Plus 16 12 noKnown (fun _ _ _ _ => noKnown_ok) (by
  intro args t v h hv
  unfold e_skylightref01_Size at h
  split at h
  · cases h
    cases hv
    refine ⟨rfl, by kernel_rfl, fun φ cs hl => ?_⟩
    rename_i n
    obtain ⟨h_n, _⟩ : InR .i64 n ∧ True := rngL_of _ _ True hl trivial
    exact (congrArg Tr.run (by kernel_rfl : evV Try.prog (table tab_skylightref01_Plus) 16 12 noKnown 182 [.int .i64 false n] = tr_skylightref01_Size n)).trans (run_skylightref01_Size n h_n)
  · cases h)
noncomputable def tab_skylightref01_Size : List (FuncId × Entry) := (182, e_skylightref01_Size) :: tab_skylightref01_Plus
theorem tok_skylightref01_Size : TableOk Try.prog (table tab_skylightref01_Size) := table_cons ok_skylightref01_Size tok_skylightref01_Plus

/-! skylightref01.Mul -/
def e_skylightref01_Mul : Entry := fun args => match args with | [.int .u64 false a, .int .u64 false b] => some (.leaf (.tuple [u6 (a*b/18446744073709551616), u6 (a*b%18446744073709551616)])) | _ => none
theorem ok_skylightref01_Mul : EntryOk Try.prog 181 e_skylightref01_Mul := entry_ok progOk (T := table tab_skylightref01_Size) tok_skylightref01_Size 16 12 noKnown (fun _ _ _ _ => noKnown_ok) (by
  intro args t v h hv
  unfold e_skylightref01_Mul at h
  split at h
  · cases h
    cases hv
    refine ⟨rfl, by kernel_rfl, fun φ cs hl => ?_⟩
    rename_i a b
    obtain ⟨h_a, h_b, _⟩ : InR .u64 a ∧ InR .u64 b ∧ True := rngL_of _ _ True hl trivial
    exact (congrArg Tr.run (by kernel_rfl : evV Try.prog (table tab_skylightref01_Size) 16 12 noKnown 181 [.int .u64 false a, .int .u64 false b] = tr_skylightref01_Mul a b)).trans (run_skylightref01_Mul a b h_a h_b)
  · cases h)
noncomputable def tab_skylightref01_Mul : List (FuncId × Entry) := (181, e_skylightref01_Mul) :: tab_skylightref01_Size
theorem tok_skylightref01_Mul : TableOk Try.prog (table tab_skylightref01_Mul) := table_cons ok_skylightref01_Mul tok_skylightref01_Size

/-! skylightref01.Times -/
def e_skylightref01_Times : Entry := fun args => match args with | [.int .i64 false a, .int .i64 false b] => some (.leaf (i6 (sat (a * b)))) | _ => none
theorem ok_skylightref01_Times : EntryOk Try.prog 125 e_skylightref01_Times := entry_ok progOk (T := table tab_skylightref01_Mul) tok_skylightref01_Mul 16 12 noKnown (fun _ _ _ _ => noKnown_ok) (by
  intro args t v h hv
  unfold e_skylightref01_Times at h
  split at h
  · cases h
    cases hv
    refine ⟨rfl, by kernel_rfl, fun φ cs hl => ?_⟩
    rename_i a b
    obtain ⟨h_a, h_b, _⟩ : InR .i64 a ∧ InR .i64 b ∧ True := rngL_of _ _ True hl trivial
    exact (congrArg Tr.run (by kernel_rfl : evV Try.prog (table tab_skylightref01_Mul) 16 12 noKnown 125 [.int .i64 false a, .int .i64 false b] = tr_skylightref01_Times a b)).trans (run_skylightref01_Times a b h_a h_b)
  · cases h)
noncomputable def tab_skylightref01_Times : List (FuncId × Entry) := (125, e_skylightref01_Times) :: tab_skylightref01_Mul
theorem tok_skylightref01_Times : TableOk Try.prog (table tab_skylightref01_Times) := table_cons ok_skylightref01_Times tok_skylightref01_Mul

/-! skylightref01.Div -/
def e_skylightref01_Div : Entry := fun args => match args with | [.int .i64 false a, .int .i64 false b] => some (.leaf (i6 (if 1 ≤ b then a / b else 0))) | _ => none
theorem ok_skylightref01_Div : EntryOk Try.prog 167 e_skylightref01_Div := entry_ok progOk (T := table tab_skylightref01_Times) tok_skylightref01_Times 16 12 noKnown (fun _ _ _ _ => noKnown_ok) (by
  intro args t v h hv
  unfold e_skylightref01_Div at h
  split at h
  · cases h
    cases hv
    refine ⟨rfl, by kernel_rfl, fun φ cs hl => ?_⟩
    rename_i a b
    obtain ⟨h_a, h_b, _⟩ : InR .i64 a ∧ InR .i64 b ∧ True := rngL_of _ _ True hl trivial
    exact (congrArg Tr.run (by kernel_rfl : evV Try.prog (table tab_skylightref01_Times) 16 12 noKnown 167 [.int .i64 false a, .int .i64 false b] = tr_skylightref01_Div a b)).trans (run_skylightref01_Div a b h_a h_b)
  · cases h)
noncomputable def tab_skylightref01_Div : List (FuncId × Entry) := (167, e_skylightref01_Div) :: tab_skylightref01_Times
theorem tok_skylightref01_Div : TableOk Try.prog (table tab_skylightref01_Div) := table_cons ok_skylightref01_Div tok_skylightref01_Times

/-! skylightref03.Right -/
def e_skylightref03_Right : Entry := fun args => match args with | [.agg [.int .i64 false f_n, .int .i64 false f_d]] => some (.leaf (bb (decide (f_d ≥ 1)))) | _ => none
theorem ok_skylightref03_Right : EntryOk Try.prog 185 e_skylightref03_Right := entry_ok progOk (T := table tab_skylightref01_Div) tok_skylightref01_Div 16 12 noKnown (fun _ _ _ _ => noKnown_ok) (by
  intro args t v h hv
  unfold e_skylightref03_Right at h
  split at h
  · cases h
    cases hv
    refine ⟨rfl, by kernel_rfl, fun φ cs hl => ?_⟩
    rename_i f_n f_d
    obtain ⟨h_f_n, h_f_d, _⟩ : InR .i64 f_n ∧ InR .i64 f_d ∧ True := rngL_of _ _ True hl trivial
    exact (congrArg Tr.run (by kernel_rfl : evV Try.prog (table tab_skylightref01_Div) 16 12 noKnown 185 [.agg [.int .i64 false f_n, .int .i64 false f_d]] = tr_skylightref03_Right f_n f_d)).trans (run_skylightref03_Right f_n f_d h_f_n h_f_d)
  · cases h)
noncomputable def tab_skylightref03_Right : List (FuncId × Entry) := (185, e_skylightref03_Right) :: tab_skylightref01_Div
theorem tok_skylightref03_Right : TableOk Try.prog (table tab_skylightref03_Right) := table_cons ok_skylightref03_Right tok_skylightref01_Div

/-! skylightref06.Add -/
def e_skylightref06_Add : Entry := fun args => match args with | [.agg [.int .i64 false a_x, .int .i64 false a_y, .int .i64 false a_z], .agg [.int .i64 false b_x, .int .i64 false b_y, .int .i64 false b_z]] => some (.leaf (v3 (sat (a_x + b_x)) (sat (a_y + b_y)) (sat (a_z + b_z)))) | _ => none
theorem ok_skylightref06_Add : EntryOk Try.prog 40 e_skylightref06_Add := entry_ok progOk (T := table tab_skylightref03_Right) tok_skylightref03_Right 16 12 noKnown (fun _ _ _ _ => noKnown_ok) (by
  intro args t v h hv
  unfold e_skylightref06_Add at h
  split at h
  · cases h
    cases hv
    refine ⟨rfl, by kernel_rfl, fun φ cs hl => ?_⟩
    rename_i a_x a_y a_z b_x b_y b_z
    obtain ⟨h_a_x, h_a_y, h_a_z, h_b_x, h_b_y, h_b_z, _⟩ : InR .i64 a_x ∧ InR .i64 a_y ∧ InR .i64 a_z ∧ InR .i64 b_x ∧ InR .i64 b_y ∧ InR .i64 b_z ∧ True := rngL_of _ _ True hl trivial
    exact (congrArg Tr.run (by kernel_rfl : evV Try.prog (table tab_skylightref03_Right) 16 12 noKnown 40 [.agg [.int .i64 false a_x, .int .i64 false a_y, .int .i64 false a_z], .agg [.int .i64 false b_x, .int .i64 false b_y, .int .i64 false b_z]] = tr_skylightref06_Add a_x a_y a_z b_x b_y b_z)).trans (run_skylightref06_Add a_x a_y a_z b_x b_y b_z h_a_x h_a_y h_a_z h_b_x h_b_y h_b_z)
  · cases h)
noncomputable def tab_skylightref06_Add : List (FuncId × Entry) := (40, e_skylightref06_Add) :: tab_skylightref03_Right
theorem tok_skylightref06_Add : TableOk Try.prog (table tab_skylightref06_Add) := table_cons ok_skylightref06_Add tok_skylightref03_Right

/-! skylightref06.Sub -/
def e_skylightref06_Sub : Entry := fun args => match args with | [.agg [.int .i64 false a_x, .int .i64 false a_y, .int .i64 false a_z], .agg [.int .i64 false b_x, .int .i64 false b_y, .int .i64 false b_z]] => some (.leaf (v3 (sat (a_x + sat (b_x * -1))) (sat (a_y + sat (b_y * -1))) (sat (a_z + sat (b_z * -1))))) | _ => none
theorem ok_skylightref06_Sub : EntryOk Try.prog 42 e_skylightref06_Sub := entry_ok progOk (T := table tab_skylightref06_Add) tok_skylightref06_Add 16 12 noKnown (fun _ _ _ _ => noKnown_ok) (by
  intro args t v h hv
  unfold e_skylightref06_Sub at h
  split at h
  · cases h
    cases hv
    refine ⟨rfl, by kernel_rfl, fun φ cs hl => ?_⟩
    rename_i a_x a_y a_z b_x b_y b_z
    obtain ⟨h_a_x, h_a_y, h_a_z, h_b_x, h_b_y, h_b_z, _⟩ : InR .i64 a_x ∧ InR .i64 a_y ∧ InR .i64 a_z ∧ InR .i64 b_x ∧ InR .i64 b_y ∧ InR .i64 b_z ∧ True := rngL_of _ _ True hl trivial
    exact (congrArg Tr.run (by kernel_rfl : evV Try.prog (table tab_skylightref06_Add) 16 12 noKnown 42 [.agg [.int .i64 false a_x, .int .i64 false a_y, .int .i64 false a_z], .agg [.int .i64 false b_x, .int .i64 false b_y, .int .i64 false b_z]] = tr_skylightref06_Sub a_x a_y a_z b_x b_y b_z)).trans (run_skylightref06_Sub a_x a_y a_z b_x b_y b_z h_a_x h_a_y h_a_z h_b_x h_b_y h_b_z)
  · cases h)
noncomputable def tab_skylightref06_Sub : List (FuncId × Entry) := (42, e_skylightref06_Sub) :: tab_skylightref06_Add
theorem tok_skylightref06_Sub : TableOk Try.prog (table tab_skylightref06_Sub) := table_cons ok_skylightref06_Sub tok_skylightref06_Add

/-! skylightref06.Dot -/
def e_skylightref06_Dot : Entry := fun args => match args with | [.agg [.int .i64 false a_x, .int .i64 false a_y, .int .i64 false a_z], .agg [.int .i64 false b_x, .int .i64 false b_y, .int .i64 false b_z]] => some (.leaf (i6 (dotN a_x a_y a_z b_x b_y b_z))) | _ => none
theorem ok_skylightref06_Dot : EntryOk Try.prog 44 e_skylightref06_Dot := entry_ok progOk (T := table tab_skylightref06_Sub) tok_skylightref06_Sub 16 12 noKnown (fun _ _ _ _ => noKnown_ok) (by
  intro args t v h hv
  unfold e_skylightref06_Dot at h
  split at h
  · cases h
    cases hv
    refine ⟨rfl, by kernel_rfl, fun φ cs hl => ?_⟩
    rename_i a_x a_y a_z b_x b_y b_z
    obtain ⟨h_a_x, h_a_y, h_a_z, h_b_x, h_b_y, h_b_z, _⟩ : InR .i64 a_x ∧ InR .i64 a_y ∧ InR .i64 a_z ∧ InR .i64 b_x ∧ InR .i64 b_y ∧ InR .i64 b_z ∧ True := rngL_of _ _ True hl trivial
    exact (congrArg Tr.run (by kernel_rfl : evV Try.prog (table tab_skylightref06_Sub) 16 12 noKnown 44 [.agg [.int .i64 false a_x, .int .i64 false a_y, .int .i64 false a_z], .agg [.int .i64 false b_x, .int .i64 false b_y, .int .i64 false b_z]] = tr_skylightref06_Dot a_x a_y a_z b_x b_y b_z)).trans (run_skylightref06_Dot a_x a_y a_z b_x b_y b_z h_a_x h_a_y h_a_z h_b_x h_b_y h_b_z)
  · cases h)
noncomputable def tab_skylightref06_Dot : List (FuncId × Entry) := (44, e_skylightref06_Dot) :: tab_skylightref06_Sub
theorem tok_skylightref06_Dot : TableOk Try.prog (table tab_skylightref06_Dot) := table_cons ok_skylightref06_Dot tok_skylightref06_Sub

/-! skylightref06.Cross -/
def e_skylightref06_Cross : Entry := fun args => match args with | [.agg [.int .i64 false a_x, .int .i64 false a_y, .int .i64 false a_z], .agg [.int .i64 false b_x, .int .i64 false b_y, .int .i64 false b_z]] => some (.leaf (v3 (crN a_y a_z b_y b_z a_x b_x) (crN a_z a_x b_z b_x a_y b_y) (crN a_x a_y b_x b_y a_z b_z))) | _ => none
theorem ok_skylightref06_Cross : EntryOk Try.prog 46 e_skylightref06_Cross := entry_ok progOk (T := table tab_skylightref06_Dot) tok_skylightref06_Dot 16 12 noKnown (fun _ _ _ _ => noKnown_ok) (by
  intro args t v h hv
  unfold e_skylightref06_Cross at h
  split at h
  · cases h
    cases hv
    refine ⟨rfl, by kernel_rfl, fun φ cs hl => ?_⟩
    rename_i a_x a_y a_z b_x b_y b_z
    obtain ⟨h_a_x, h_a_y, h_a_z, h_b_x, h_b_y, h_b_z, _⟩ : InR .i64 a_x ∧ InR .i64 a_y ∧ InR .i64 a_z ∧ InR .i64 b_x ∧ InR .i64 b_y ∧ InR .i64 b_z ∧ True := rngL_of _ _ True hl trivial
    exact (congrArg Tr.run (by kernel_rfl : evV Try.prog (table tab_skylightref06_Dot) 16 12 noKnown 46 [.agg [.int .i64 false a_x, .int .i64 false a_y, .int .i64 false a_z], .agg [.int .i64 false b_x, .int .i64 false b_y, .int .i64 false b_z]] = tr_skylightref06_Cross a_x a_y a_z b_x b_y b_z)).trans (run_skylightref06_Cross a_x a_y a_z b_x b_y b_z h_a_x h_a_y h_a_z h_b_x h_b_y h_b_z)
  · cases h)
noncomputable def tab_skylightref06_Cross : List (FuncId × Entry) := (46, e_skylightref06_Cross) :: tab_skylightref06_Dot
theorem tok_skylightref06_Cross : TableOk Try.prog (table tab_skylightref06_Cross) := table_cons ok_skylightref06_Cross tok_skylightref06_Dot

/-! skylightref06.Volume -/
def e_skylightref06_Volume : Entry := fun args => match args with | [.agg [.int .i64 false a_x, .int .i64 false a_y, .int .i64 false a_z], .agg [.int .i64 false b_x, .int .i64 false b_y, .int .i64 false b_z], .agg [.int .i64 false c_x, .int .i64 false c_y, .int .i64 false c_z]] => some (.leaf (i6 (volN a_x a_y a_z b_x b_y b_z c_x c_y c_z))) | _ => none
theorem ok_skylightref06_Volume : EntryOk Try.prog 48 e_skylightref06_Volume := entry_ok progOk (T := table tab_skylightref06_Cross) tok_skylightref06_Cross 16 12 noKnown (fun _ _ _ _ => noKnown_ok) (by
  intro args t v h hv
  unfold e_skylightref06_Volume at h
  split at h
  · cases h
    cases hv
    refine ⟨rfl, by kernel_rfl, fun φ cs hl => ?_⟩
    rename_i a_x a_y a_z b_x b_y b_z c_x c_y c_z
    obtain ⟨h_a_x, h_a_y, h_a_z, h_b_x, h_b_y, h_b_z, h_c_x, h_c_y, h_c_z, _⟩ : InR .i64 a_x ∧ InR .i64 a_y ∧ InR .i64 a_z ∧ InR .i64 b_x ∧ InR .i64 b_y ∧ InR .i64 b_z ∧ InR .i64 c_x ∧ InR .i64 c_y ∧ InR .i64 c_z ∧ True := rngL_of _ _ True hl trivial
    exact (congrArg Tr.run (by kernel_rfl : evV Try.prog (table tab_skylightref06_Cross) 16 12 noKnown 48 [.agg [.int .i64 false a_x, .int .i64 false a_y, .int .i64 false a_z], .agg [.int .i64 false b_x, .int .i64 false b_y, .int .i64 false b_z], .agg [.int .i64 false c_x, .int .i64 false c_y, .int .i64 false c_z]] = tr_skylightref06_Volume a_x a_y a_z b_x b_y b_z c_x c_y c_z)).trans (run_skylightref06_Volume a_x a_y a_z b_x b_y b_z c_x c_y c_z h_a_x h_a_y h_a_z h_b_x h_b_y h_b_z h_c_x h_c_y h_c_z)
  · cases h)
noncomputable def tab_skylightref06_Volume : List (FuncId × Entry) := (48, e_skylightref06_Volume) :: tab_skylightref06_Cross
theorem tok_skylightref06_Volume : TableOk Try.prog (table tab_skylightref06_Volume) := table_cons ok_skylightref06_Volume tok_skylightref06_Cross

/-! skylightref06.Len -/
def e_skylightref06_Len : Entry := fun args => match args with | [.agg [.int .i64 false v_x, .int .i64 false v_y, .int .i64 false v_z]] => some (.leaf (i6 (isq (dotN v_x v_y v_z v_x v_y v_z)))) | _ => none
theorem ok_skylightref06_Len : EntryOk Try.prog 49 e_skylightref06_Len := entry_ok progOk (T := table tab_skylightref06_Volume) tok_skylightref06_Volume 16 12 noKnown (fun _ _ _ _ => noKnown_ok) (by
  intro args t v h hv
  unfold e_skylightref06_Len at h
  split at h
  · cases h
    cases hv
    refine ⟨rfl, by kernel_rfl, fun φ cs hl => ?_⟩
    rename_i v_x v_y v_z
    obtain ⟨h_v_x, h_v_y, h_v_z, _⟩ : InR .i64 v_x ∧ InR .i64 v_y ∧ InR .i64 v_z ∧ True := rngL_of _ _ True hl trivial
    exact (congrArg Tr.run (by kernel_rfl : evV Try.prog (table tab_skylightref06_Volume) 16 12 noKnown 49 [.agg [.int .i64 false v_x, .int .i64 false v_y, .int .i64 false v_z]] = tr_skylightref06_Len v_x v_y v_z)).trans (run_skylightref06_Len v_x v_y v_z h_v_x h_v_y h_v_z)
  · cases h)
noncomputable def tab_skylightref06_Len : List (FuncId × Entry) := (49, e_skylightref06_Len) :: tab_skylightref06_Volume
theorem tok_skylightref06_Len : TableOk Try.prog (table tab_skylightref06_Len) := table_cons ok_skylightref06_Len tok_skylightref06_Volume

/-! skylightref06.toward -/
def e_skylightref06_toward : Entry := fun args => match args with | [.int .i64 false a, .int .i64 false b] => some (.leaf (i6 (towS a b))) | _ => none
theorem ok_skylightref06_toward : EntryOk Try.prog 120 e_skylightref06_toward := entry_ok progOk (T := table tab_skylightref06_Len) tok_skylightref06_Len 16 12 noKnown (fun _ _ _ _ => noKnown_ok) (by
  intro args t v h hv
  unfold e_skylightref06_toward at h
  split at h
  · cases h
    cases hv
    refine ⟨rfl, by kernel_rfl, fun φ cs hl => ?_⟩
    rename_i a b
    obtain ⟨h_a, h_b, _⟩ : InR .i64 a ∧ InR .i64 b ∧ True := rngL_of _ _ True hl trivial
    exact (congrArg Tr.run (by kernel_rfl : evV Try.prog (table tab_skylightref06_Len) 16 12 noKnown 120 [.int .i64 false a, .int .i64 false b] = tr_skylightref06_toward a b)).trans (run_skylightref06_toward a b h_a h_b)
  · cases h)
noncomputable def tab_skylightref06_toward : List (FuncId × Entry) := (120, e_skylightref06_toward) :: tab_skylightref06_Len
theorem tok_skylightref06_toward : TableOk Try.prog (table tab_skylightref06_toward) := table_cons ok_skylightref06_toward tok_skylightref06_Len

/-! vec.Scale -/
def e_vec_Scale : Entry := fun args => match args with | [.agg [.int .i64 false v_x, .int .i64 false v_y, .int .i64 false v_z], .agg [.int .i64 false f_n, .int .i64 false f_d]] => some (.leaf (v3 (atF v_x f_n f_d) (atF v_y f_n f_d) (atF v_z f_n f_d))) | _ => none
theorem ok_vec_Scale : EntryOk Try.prog 50 e_vec_Scale := entry_ok progOk (T := table tab_skylightref06_toward) tok_skylightref06_toward 16 12 noKnown (fun _ _ _ _ => noKnown_ok) (by
  intro args t v h hv
  unfold e_vec_Scale at h
  split at h
  · cases h
    cases hv
    refine ⟨rfl, by kernel_rfl, fun φ cs hl => ?_⟩
    rename_i v_x v_y v_z f_n f_d
    obtain ⟨h_v_x, h_v_y, h_v_z, h_f_n, h_f_d, _⟩ : InR .i64 v_x ∧ InR .i64 v_y ∧ InR .i64 v_z ∧ InR .i64 f_n ∧ InR .i64 f_d ∧ True := rngL_of _ _ True hl trivial
    exact (congrArg Tr.run (by kernel_rfl : evV Try.prog (table tab_skylightref06_toward) 16 12 noKnown 50 [.agg [.int .i64 false v_x, .int .i64 false v_y, .int .i64 false v_z], .agg [.int .i64 false f_n, .int .i64 false f_d]] = tr_vec_Scale v_x v_y v_z f_n f_d)).trans (run_vec_Scale v_x v_y v_z f_n f_d h_v_x h_v_y h_v_z h_f_n h_f_d)
  · cases h)
noncomputable def tab_vec_Scale : List (FuncId × Entry) := (50, e_vec_Scale) :: tab_skylightref06_toward
theorem tok_vec_Scale : TableOk Try.prog (table tab_vec_Scale) := table_cons ok_vec_Scale tok_skylightref06_toward

/-! vec.Along -/
def e_vec_Along : Entry := fun args => match args with | [.agg [.int .i64 false r_o_x, .int .i64 false r_o_y, .int .i64 false r_o_z, .int .i64 false r_d_x, .int .i64 false r_d_y, .int .i64 false r_d_z], .agg [.int .i64 false f_n, .int .i64 false f_d]] => some (.leaf (v3 (sat (r_o_x + atF r_d_x f_n f_d)) (sat (r_o_y + atF r_d_y f_n f_d)) (sat (r_o_z + atF r_d_z f_n f_d)))) | _ => none
theorem ok_vec_Along : EntryOk Try.prog 52 e_vec_Along := entry_ok progOk (T := table tab_vec_Scale) tok_vec_Scale 16 12 noKnown (fun _ _ _ _ => noKnown_ok) (by
  intro args t v h hv
  unfold e_vec_Along at h
  split at h
  · cases h
    cases hv
    refine ⟨rfl, by kernel_rfl, fun φ cs hl => ?_⟩
    rename_i r_o_x r_o_y r_o_z r_d_x r_d_y r_d_z f_n f_d
    obtain ⟨h_r_o_x, h_r_o_y, h_r_o_z, h_r_d_x, h_r_d_y, h_r_d_z, h_f_n, h_f_d, _⟩ : InR .i64 r_o_x ∧ InR .i64 r_o_y ∧ InR .i64 r_o_z ∧ InR .i64 r_d_x ∧ InR .i64 r_d_y ∧ InR .i64 r_d_z ∧ InR .i64 f_n ∧ InR .i64 f_d ∧ True := rngL_of _ _ True hl trivial
    exact (congrArg Tr.run (by kernel_rfl : evV Try.prog (table tab_vec_Scale) 16 12 noKnown 52 [.agg [.int .i64 false r_o_x, .int .i64 false r_o_y, .int .i64 false r_o_z, .int .i64 false r_d_x, .int .i64 false r_d_y, .int .i64 false r_d_z], .agg [.int .i64 false f_n, .int .i64 false f_d]] = tr_vec_Along r_o_x r_o_y r_o_z r_d_x r_d_y r_d_z f_n f_d)).trans (run_vec_Along r_o_x r_o_y r_o_z r_d_x r_d_y r_d_z f_n f_d h_r_o_x h_r_o_y h_r_o_z h_r_d_x h_r_d_y h_r_d_z h_f_n h_f_d)
  · cases h)
noncomputable def tab_vec_Along : List (FuncId × Entry) := (52, e_vec_Along) :: tab_vec_Scale
theorem tok_vec_Along : TableOk Try.prog (table tab_vec_Along) := table_cons ok_vec_Along tok_vec_Scale

end Go.Proofs.Ytfbakgcemnkcpaa

/- Entries of the table: what functions give. -/
set_option linter.unusedSimpArgs false
set_option linter.unusedVariables false
namespace Go.Proofs.Ytfbakgcemnkcpaa
open Go Go.Sky
set_option maxRecDepth 100000

/-! skylightref01.Part -/
def e_skylightref01_Part : Entry := fun args => match args with | [.int .u64 false a, .int .u64 false b, .int .u64 false c] => some (.leaf (.tuple [u6 (partQ (a * b) c), bb (decide (a * b / 18446744073709551616 < c))])) | _ => none
noncomputable def O_skylightref01_Part_0 : Known := known 0 (piece Try.prog (table tab_vec_Along) noKnown 186 0 54 [10, 11, 12, 13, 23, 24, 25, 26, 27, 28, 29, 30, 31, 32, 33, 34, 35, 36, 37, 38, 39, 40, 41, 42, 43, 44, 45, 46, 47, 48, 49, 50, 51, 52] [2, 8, 9, 10, 11] g_skylightref01_Part_0) noKnown
theorem O_skylightref01_Part_0_ok : ∀ fn c, Try.prog.funcs[186]? = some fn → fn.body = some c → KnownOk Try.prog O_skylightref01_Part_0 (blocksOf c) :=
  known_ok (by kernel_rfl) (piece_wp progOk tok_vec_Along (known_in (by kernel_rfl) (fun _ _ _ _ => noKnown_ok)) (piece_skylightref01_Part_0 (by kernel_rfl) (by kernel_rfl) (fun L c hi lo q i x0 x1 x3 x4 x5 x6 x7 x12 x13 x14 x15 x16 x17 x18 x19 x20 x21 x22 x23 x24 x25 x26 x27 x28 x29 x30 x31 x32 x33 x34 x35 x36 x37 x38 x39 x40 x41 x42 x43 x44 x45 x46 x47 x48 x49 x50 x51 x52 x53 h => by kernel_rfl))) (fun _ _ _ _ => noKnown_ok)
theorem ok_skylightref01_Part : EntryOk Try.prog 186 e_skylightref01_Part := entry_ok progOk (T := table tab_vec_Along) tok_vec_Along 16 12 O_skylightref01_Part_0 O_skylightref01_Part_0_ok (by
  intro args t v h hv
  unfold e_skylightref01_Part at h
  split at h
  · cases h
    cases hv
    refine ⟨rfl, by kernel_rfl, fun φ cs hl => ?_⟩
    rename_i a b c
    obtain ⟨h_a, h_b, h_c, _⟩ : InR .u64 a ∧ InR .u64 b ∧ InR .u64 c ∧ True := rngL_of _ _ True hl trivial
    exact (congrArg Tr.run (by kernel_rfl : evV Try.prog (table tab_vec_Along) 16 12 O_skylightref01_Part_0 186 [.int .u64 false a, .int .u64 false b, .int .u64 false c] = tr_skylightref01_Part a b c)).trans (run_skylightref01_Part a b c h_a h_b h_c)
  · cases h)
noncomputable def tab_skylightref01_Part : List (FuncId × Entry) := (186, e_skylightref01_Part) :: tab_vec_Along
theorem tok_skylightref01_Part : TableOk Try.prog (table tab_skylightref01_Part) := table_cons ok_skylightref01_Part tok_vec_Along

end Go.Proofs.Ytfbakgcemnkcpaa

/- Entries of the table: what functions give. -/
set_option linter.unusedSimpArgs false
set_option linter.unusedVariables false
namespace Go.Proofs.Ytfbakgcemnkcpaa
open Go Go.Sky
set_option maxRecDepth 100000

/-! skylightref03.At -/
def e_skylightref03_At : Entry := fun args => match args with | [.int .i64 false v, .agg [.int .i64 false f_n, .int .i64 false f_d]] => some (.leaf (i6 (atF v f_n f_d))) | _ => none
theorem ok_skylightref03_At : EntryOk Try.prog 131 e_skylightref03_At := entry_ok progOk (T := table tab_skylightref01_Part) tok_skylightref01_Part 16 12 noKnown (fun _ _ _ _ => noKnown_ok) (by
  intro args t v h hv
  unfold e_skylightref03_At at h
  split at h
  · cases h
    cases hv
    refine ⟨rfl, by kernel_rfl, fun φ cs hl => ?_⟩
    rename_i v f_n f_d
    obtain ⟨h_v, h_f_n, h_f_d, _⟩ : InR .i64 v ∧ InR .i64 f_n ∧ InR .i64 f_d ∧ True := rngL_of _ _ True hl trivial
    exact (congrArg Tr.run (by kernel_rfl : evV Try.prog (table tab_skylightref01_Part) 16 12 noKnown 131 [.int .i64 false v, .agg [.int .i64 false f_n, .int .i64 false f_d]] = tr_skylightref03_At v f_n f_d)).trans (run_skylightref03_At v f_n f_d h_v h_f_n h_f_d)
  · cases h)
noncomputable def tab_skylightref03_At : List (FuncId × Entry) := (131, e_skylightref03_At) :: tab_skylightref01_Part
theorem tok_skylightref03_At : TableOk Try.prog (table tab_skylightref03_At) := table_cons ok_skylightref03_At tok_skylightref01_Part

/-! skylightref06.within -/
def e_skylightref06_within : Entry := fun args => match args with | [.agg [.int .i64 false v_x, .int .i64 false v_y, .int .i64 false v_z], .int .i64 false n] => some (.node (decide (-9223372036854775808 < n)) (.leaf (bb (decide ((-n ≤ v_x ∧ v_x ≤ n) ∧ (-n ≤ v_y ∧ v_y ≤ n) ∧ (-n ≤ v_z ∧ v_z ≤ n))))) .bad) | _ => none
theorem ok_skylightref06_within : EntryOk Try.prog 118 e_skylightref06_within := entry_ok progOk (T := table tab_skylightref03_At) tok_skylightref03_At 16 12 noKnown (fun _ _ _ _ => noKnown_ok) (by
  intro args t v h hv
  unfold e_skylightref06_within at h
  split at h
  · cases h
    simp only [Tr.run] at hv
    split at hv
    rotate_left
    · cases hv
    rename_i hpre0
    have hpre := of_decide_eq_true hpre0
    cases hv
    refine ⟨rfl, by kernel_rfl, fun φ cs hl => ?_⟩
    rename_i v_x v_y v_z n
    obtain ⟨h_v_x, h_v_y, h_v_z, h_n, _⟩ : InR .i64 v_x ∧ InR .i64 v_y ∧ InR .i64 v_z ∧ InR .i64 n ∧ True := rngL_of _ _ True hl trivial
    exact (congrArg Tr.run (by kernel_rfl : evV Try.prog (table tab_skylightref03_At) 16 12 noKnown 118 [.agg [.int .i64 false v_x, .int .i64 false v_y, .int .i64 false v_z], .int .i64 false n] = tr_skylightref06_within v_x v_y v_z n)).trans (run_skylightref06_within v_x v_y v_z n h_v_x h_v_y h_v_z h_n hpre)
  · cases h)
noncomputable def tab_skylightref06_within : List (FuncId × Entry) := (118, e_skylightref06_within) :: tab_skylightref03_At
theorem tok_skylightref06_within : TableOk Try.prog (table tab_skylightref06_within) := table_cons ok_skylightref06_within tok_skylightref03_At

/-! skylightref06.Scale -/
def e_skylightref06_Scale : Entry := fun args => match args with | [.agg [.int .i64 false v_x, .int .i64 false v_y, .int .i64 false v_z], .agg [.int .i64 false f_n, .int .i64 false f_d]] => some (.leaf (v3 (atF v_x f_n f_d) (atF v_y f_n f_d) (atF v_z f_n f_d))) | _ => none
theorem ok_skylightref06_Scale : EntryOk Try.prog 51 e_skylightref06_Scale := entry_ok progOk (T := table tab_skylightref06_within) tok_skylightref06_within 16 12 noKnown (fun _ _ _ _ => noKnown_ok) (by
  intro args t v h hv
  unfold e_skylightref06_Scale at h
  split at h
  · cases h
    cases hv
    refine ⟨rfl, by kernel_rfl, fun φ cs hl => ?_⟩
    rename_i v_x v_y v_z f_n f_d
    obtain ⟨h_v_x, h_v_y, h_v_z, h_f_n, h_f_d, _⟩ : InR .i64 v_x ∧ InR .i64 v_y ∧ InR .i64 v_z ∧ InR .i64 f_n ∧ InR .i64 f_d ∧ True := rngL_of _ _ True hl trivial
    exact (congrArg Tr.run (by kernel_rfl : evV Try.prog (table tab_skylightref06_within) 16 12 noKnown 51 [.agg [.int .i64 false v_x, .int .i64 false v_y, .int .i64 false v_z], .agg [.int .i64 false f_n, .int .i64 false f_d]] = tr_skylightref06_Scale v_x v_y v_z f_n f_d)).trans (run_skylightref06_Scale v_x v_y v_z f_n f_d h_v_x h_v_y h_v_z h_f_n h_f_d)
  · cases h)
noncomputable def tab_skylightref06_Scale : List (FuncId × Entry) := (51, e_skylightref06_Scale) :: tab_skylightref06_within
theorem tok_skylightref06_Scale : TableOk Try.prog (table tab_skylightref06_Scale) := table_cons ok_skylightref06_Scale tok_skylightref06_within

/-! skylightref06.Along -/
def e_skylightref06_Along : Entry := fun args => match args with | [.agg [.int .i64 false r_o_x, .int .i64 false r_o_y, .int .i64 false r_o_z, .int .i64 false r_d_x, .int .i64 false r_d_y, .int .i64 false r_d_z], .agg [.int .i64 false f_n, .int .i64 false f_d]] => some (.leaf (v3 (sat (r_o_x + atF r_d_x f_n f_d)) (sat (r_o_y + atF r_d_y f_n f_d)) (sat (r_o_z + atF r_d_z f_n f_d)))) | _ => none
theorem ok_skylightref06_Along : EntryOk Try.prog 53 e_skylightref06_Along := entry_ok progOk (T := table tab_skylightref06_Scale) tok_skylightref06_Scale 16 12 noKnown (fun _ _ _ _ => noKnown_ok) (by
  intro args t v h hv
  unfold e_skylightref06_Along at h
  split at h
  · cases h
    cases hv
    refine ⟨rfl, by kernel_rfl, fun φ cs hl => ?_⟩
    rename_i r_o_x r_o_y r_o_z r_d_x r_d_y r_d_z f_n f_d
    obtain ⟨h_r_o_x, h_r_o_y, h_r_o_z, h_r_d_x, h_r_d_y, h_r_d_z, h_f_n, h_f_d, _⟩ : InR .i64 r_o_x ∧ InR .i64 r_o_y ∧ InR .i64 r_o_z ∧ InR .i64 r_d_x ∧ InR .i64 r_d_y ∧ InR .i64 r_d_z ∧ InR .i64 f_n ∧ InR .i64 f_d ∧ True := rngL_of _ _ True hl trivial
    exact (congrArg Tr.run (by kernel_rfl : evV Try.prog (table tab_skylightref06_Scale) 16 12 noKnown 53 [.agg [.int .i64 false r_o_x, .int .i64 false r_o_y, .int .i64 false r_o_z, .int .i64 false r_d_x, .int .i64 false r_d_y, .int .i64 false r_d_z], .agg [.int .i64 false f_n, .int .i64 false f_d]] = tr_skylightref06_Along r_o_x r_o_y r_o_z r_d_x r_d_y r_d_z f_n f_d)).trans (run_skylightref06_Along r_o_x r_o_y r_o_z r_d_x r_d_y r_d_z f_n f_d h_r_o_x h_r_o_y h_r_o_z h_r_d_x h_r_d_y h_r_d_z h_f_n h_f_d)
  · cases h)
noncomputable def tab_skylightref06_Along : List (FuncId × Entry) := (53, e_skylightref06_Along) :: tab_skylightref06_Scale
theorem tok_skylightref06_Along : TableOk Try.prog (table tab_skylightref06_Along) := table_cons ok_skylightref06_Along tok_skylightref06_Scale

end Go.Proofs.Ytfbakgcemnkcpaa

/- Entries of the table: what functions give. -/
set_option linter.unusedSimpArgs false
set_option linter.unusedVariables false
namespace Go.Proofs.Ytfbakgcemnkcpaa
open Go Go.Sky
set_option maxRecDepth 100000

/-! skylightref06.Even -/
def e_skylightref06_Even : Entry := fun args => match args with | [.agg [.int .i64 false v_x, .int .i64 false v_y, .int .i64 false v_z]] => some (.node (decide (1 ≤ mostI v_x v_y v_z ∧ mostI v_x v_y v_z ≤ 4611686018427387904)) (.leaf (v3 (nrm v_x v_y v_z v_x) (nrm v_x v_y v_z v_y) (nrm v_x v_y v_z v_z))) .bad) | _ => none
noncomputable def O_skylightref06_Even_0 : Known := known 0 (piece Try.prog (table tab_skylightref06_Along) noKnown 119 0 29 [3, 4, 5, 6, 7, 8, 9, 10, 11, 12, 13, 14] [1] g_skylightref06_Even_0) noKnown
theorem O_skylightref06_Even_0_ok : ∀ fn c, Try.prog.funcs[119]? = some fn → fn.body = some c → KnownOk Try.prog O_skylightref06_Even_0 (blocksOf c) :=
  known_ok (by kernel_rfl) (piece_wp progOk tok_skylightref06_Along (known_in (by kernel_rfl) (fun _ _ _ _ => noKnown_ok)) (piece_skylightref06_Even_0 (by kernel_rfl) (by kernel_rfl) (fun L t_x t_y t_z q_x q_y q_z x0 x2 x3 x4 x5 x6 x7 x8 x9 x10 x11 x12 x13 x14 x15 x16 x17 x18 x19 x20 x21 x22 x23 x24 x25 x26 x27 x28 => by kernel_rfl))) (fun _ _ _ _ => noKnown_ok)
noncomputable def O_skylightref06_Even_2 : Known := known 2 (piece Try.prog (table tab_skylightref06_Along) O_skylightref06_Even_0 119 2 29 [15, 16, 17, 18, 19, 20, 21, 22, 23, 24, 25, 26, 27] [1] g_skylightref06_Even_2) O_skylightref06_Even_0
theorem O_skylightref06_Even_2_ok : ∀ fn c, Try.prog.funcs[119]? = some fn → fn.body = some c → KnownOk Try.prog O_skylightref06_Even_2 (blocksOf c) :=
  known_ok (by kernel_rfl) (piece_wp progOk tok_skylightref06_Along (known_in (by kernel_rfl) O_skylightref06_Even_0_ok) (piece_skylightref06_Even_2 (by kernel_rfl) (by kernel_rfl) (fun L t_x t_y t_z q_x q_y q_z x0 x2 x3 x4 x5 x6 x7 x8 x9 x10 x11 x12 x13 x14 x15 x16 x17 x18 x19 x20 x21 x22 x23 x24 x25 x26 x27 x28 => by kernel_rfl))) O_skylightref06_Even_0_ok
theorem ok_skylightref06_Even : EntryOk Try.prog 119 e_skylightref06_Even := entry_ok progOk (T := table tab_skylightref06_Along) tok_skylightref06_Along 16 12 O_skylightref06_Even_2 O_skylightref06_Even_2_ok (by
  intro args t v h hv
  unfold e_skylightref06_Even at h
  split at h
  · cases h
    simp only [Tr.run] at hv
    split at hv
    rotate_left
    · cases hv
    rename_i hpre0
    have hpre := of_decide_eq_true hpre0
    cases hv
    refine ⟨rfl, by kernel_rfl, fun φ cs hl => ?_⟩
    rename_i v_x v_y v_z
    obtain ⟨h_v_x, h_v_y, h_v_z, _⟩ : InR .i64 v_x ∧ InR .i64 v_y ∧ InR .i64 v_z ∧ True := rngL_of _ _ True hl trivial
    exact (congrArg Tr.run (by kernel_rfl : evV Try.prog (table tab_skylightref06_Along) 16 12 O_skylightref06_Even_2 119 [.agg [.int .i64 false v_x, .int .i64 false v_y, .int .i64 false v_z]] = tr_skylightref06_Even v_x v_y v_z)).trans (run_skylightref06_Even v_x v_y v_z h_v_x h_v_y h_v_z hpre)
  · cases h)
noncomputable def tab_skylightref06_Even : List (FuncId × Entry) := (119, e_skylightref06_Even) :: tab_skylightref06_Along
theorem tok_skylightref06_Even : TableOk Try.prog (table tab_skylightref06_Even) := table_cons ok_skylightref06_Even tok_skylightref06_Along

/-! skylightref06.Unit -/
def e_skylightref06_Unit : Entry := fun args => match args with | [.agg [.int .i64 false v_x, .int .i64 false v_y, .int .i64 false v_z]] => some (.leaf (.tuple [v3 (unitC v_x v_y v_z v_x) (unitC v_x v_y v_z v_y) (unitC v_x v_y v_z v_z), bb (okU v_x v_y v_z)])) | _ => none
theorem ok_skylightref06_Unit : EntryOk Try.prog 36 e_skylightref06_Unit := entry_ok progOk (T := table tab_skylightref06_Even) tok_skylightref06_Even 16 12 noKnown (fun _ _ _ _ => noKnown_ok) (by
  intro args t v h hv
  unfold e_skylightref06_Unit at h
  split at h
  · cases h
    cases hv
    refine ⟨rfl, by kernel_rfl, fun φ cs hl => ?_⟩
    rename_i v_x v_y v_z
    obtain ⟨h_v_x, h_v_y, h_v_z, _⟩ : InR .i64 v_x ∧ InR .i64 v_y ∧ InR .i64 v_z ∧ True := rngL_of _ _ True hl trivial
    exact (congrArg Tr.run (by kernel_rfl : evV Try.prog (table tab_skylightref06_Even) 16 12 noKnown 36 [.agg [.int .i64 false v_x, .int .i64 false v_y, .int .i64 false v_z]] = tr_skylightref06_Unit v_x v_y v_z)).trans (run_skylightref06_Unit v_x v_y v_z h_v_x h_v_y h_v_z)
  · cases h)
noncomputable def tab_skylightref06_Unit : List (FuncId × Entry) := (36, e_skylightref06_Unit) :: tab_skylightref06_Even
theorem tok_skylightref06_Unit : TableOk Try.prog (table tab_skylightref06_Unit) := table_cons ok_skylightref06_Unit tok_skylightref06_Even

end Go.Proofs.Ytfbakgcemnkcpaa

/- Entries of the table: what functions give. -/
set_option linter.unusedSimpArgs false
set_option linter.unusedVariables false
namespace Go.Proofs.Ytfbakgcemnkcpaa
open Go Go.Sky
set_option maxRecDepth 100000

/-! num.Div -/
def e_num_Div : Entry := fun args => match args with | [.int .i64 false a, .int .i64 false b] => some (.leaf (i6 (dv a b))) | _ => none
theorem ok_num_Div : EntryOk Try.prog 205 e_num_Div := entry_ok progOk (T := table tab_skylightref06_Unit) tok_skylightref06_Unit 16 12 noKnown (fun _ _ _ _ => noKnown_ok) (by
  intro args t v h hv
  unfold e_num_Div at h
  split at h
  · cases h
    cases hv
    refine ⟨rfl, by kernel_rfl, fun φ cs hl => ?_⟩
    rename_i a b
    obtain ⟨h_a, h_b, _⟩ : InR .i64 a ∧ InR .i64 b ∧ True := rngL_of _ _ True hl trivial
    exact (congrArg Tr.run (by kernel_rfl : evV Try.prog (table tab_skylightref06_Unit) 16 12 noKnown 205 [.int .i64 false a, .int .i64 false b] = tr_num_Div a b)).trans (run_num_Div a b h_a h_b)
  · cases h)
noncomputable def tab_num_Div : List (FuncId × Entry) := (205, e_num_Div) :: tab_skylightref06_Unit
theorem tok_num_Div : TableOk Try.prog (table tab_num_Div) := table_cons ok_num_Div tok_skylightref06_Unit

/-! num.Hold -/
def e_num_Hold : Entry := fun args => match args with | [.int .i64 false n, .int .i64 false low, .int .i64 false high] => some (.leaf (i6 (hold n low high))) | _ => none
theorem ok_num_Hold : EntryOk Try.prog 204 e_num_Hold := entry_ok progOk (T := table tab_num_Div) tok_num_Div 16 12 noKnown (fun _ _ _ _ => noKnown_ok) (by
  intro args t v h hv
  unfold e_num_Hold at h
  split at h
  · cases h
    cases hv
    refine ⟨rfl, by kernel_rfl, fun φ cs hl => ?_⟩
    rename_i n low high
    obtain ⟨h_n, h_low, h_high, _⟩ : InR .i64 n ∧ InR .i64 low ∧ InR .i64 high ∧ True := rngL_of _ _ True hl trivial
    exact (congrArg Tr.run (by kernel_rfl : evV Try.prog (table tab_num_Div) 16 12 noKnown 204 [.int .i64 false n, .int .i64 false low, .int .i64 false high] = tr_num_Hold n low high)).trans (run_num_Hold n low high h_n h_low h_high)
  · cases h)
noncomputable def tab_num_Hold : List (FuncId × Entry) := (204, e_num_Hold) :: tab_num_Div
theorem tok_num_Hold : TableOk Try.prog (table tab_num_Hold) := table_cons ok_num_Hold tok_num_Div

/-! skylightref01.Hold -/
def e_skylightref01_Hold : Entry := fun args => match args with | [.int .i64 false n, .int .i64 false low, .int .i64 false high] => some (.leaf (i6 (hold n low high))) | _ => none
theorem ok_skylightref01_Hold : EntryOk Try.prog 177 e_skylightref01_Hold := entry_ok progOk (T := table tab_num_Hold) tok_num_Hold 16 12 noKnown (fun _ _ _ _ => noKnown_ok) (by
  intro args t v h hv
  unfold e_skylightref01_Hold at h
  split at h
  · cases h
    cases hv
    refine ⟨rfl, by kernel_rfl, fun φ cs hl => ?_⟩
    rename_i n low high
    obtain ⟨h_n, h_low, h_high, _⟩ : InR .i64 n ∧ InR .i64 low ∧ InR .i64 high ∧ True := rngL_of _ _ True hl trivial
    exact (congrArg Tr.run (by kernel_rfl : evV Try.prog (table tab_num_Hold) 16 12 noKnown 177 [.int .i64 false n, .int .i64 false low, .int .i64 false high] = tr_skylightref01_Hold n low high)).trans (run_skylightref01_Hold n low high h_n h_low h_high)
  · cases h)
noncomputable def tab_skylightref01_Hold : List (FuncId × Entry) := (177, e_skylightref01_Hold) :: tab_num_Hold
theorem tok_skylightref01_Hold : TableOk Try.prog (table tab_skylightref01_Hold) := table_cons ok_skylightref01_Hold tok_num_Hold

/-! basis.Facing -/
def e_basis_Facing : Entry := fun args => match args with | [.agg [.int .i64 false n_x, .int .i64 false n_y, .int .i64 false n_z], .agg [.int .i64 false d_x, .int .i64 false d_y, .int .i64 false d_z]] => some (.leaf (v3 (facC n_x n_x n_y n_z d_x d_y d_z) (facC n_y n_x n_y n_z d_x d_y d_z) (facC n_z n_x n_y n_z d_x d_y d_z))) | _ => none
theorem ok_basis_Facing : EntryOk Try.prog 203 e_basis_Facing := entry_ok progOk (T := table tab_skylightref01_Hold) tok_skylightref01_Hold 16 12 noKnown (fun _ _ _ _ => noKnown_ok) (by
  intro args t v h hv
  unfold e_basis_Facing at h
  split at h
  · cases h
    cases hv
    refine ⟨rfl, by kernel_rfl, fun φ cs hl => ?_⟩
    rename_i n_x n_y n_z d_x d_y d_z
    obtain ⟨h_n_x, h_n_y, h_n_z, h_d_x, h_d_y, h_d_z, _⟩ : InR .i64 n_x ∧ InR .i64 n_y ∧ InR .i64 n_z ∧ InR .i64 d_x ∧ InR .i64 d_y ∧ InR .i64 d_z ∧ True := rngL_of _ _ True hl trivial
    exact (congrArg Tr.run (by kernel_rfl : evV Try.prog (table tab_skylightref01_Hold) 16 12 noKnown 203 [.agg [.int .i64 false n_x, .int .i64 false n_y, .int .i64 false n_z], .agg [.int .i64 false d_x, .int .i64 false d_y, .int .i64 false d_z]] = tr_basis_Facing n_x n_y n_z d_x d_y d_z)).trans (run_basis_Facing n_x n_y n_z d_x d_y d_z h_n_x h_n_y h_n_z h_d_x h_d_y h_d_z)
  · cases h)
noncomputable def tab_basis_Facing : List (FuncId × Entry) := (203, e_basis_Facing) :: tab_skylightref01_Hold
theorem tok_basis_Facing : TableOk Try.prog (table tab_basis_Facing) := table_cons ok_basis_Facing tok_skylightref01_Hold

/-! skylightref07.Facing -/
def e_skylightref07_Facing : Entry := fun args => match args with | [.agg [.int .i64 false n_x, .int .i64 false n_y, .int .i64 false n_z], .agg [.int .i64 false d_x, .int .i64 false d_y, .int .i64 false d_z]] => some (.leaf (v3 (facC n_x n_x n_y n_z d_x d_y d_z) (facC n_y n_x n_y n_z d_x d_y d_z) (facC n_z n_x n_y n_z d_x d_y d_z))) | _ => none
theorem ok_skylightref07_Facing : EntryOk Try.prog 173 e_skylightref07_Facing := entry_ok progOk (T := table tab_basis_Facing) tok_basis_Facing 16 12 noKnown (fun _ _ _ _ => noKnown_ok) (by
  intro args t v h hv
  unfold e_skylightref07_Facing at h
  split at h
  · cases h
    cases hv
    refine ⟨rfl, by kernel_rfl, fun φ cs hl => ?_⟩
    rename_i n_x n_y n_z d_x d_y d_z
    obtain ⟨h_n_x, h_n_y, h_n_z, h_d_x, h_d_y, h_d_z, _⟩ : InR .i64 n_x ∧ InR .i64 n_y ∧ InR .i64 n_z ∧ InR .i64 d_x ∧ InR .i64 d_y ∧ InR .i64 d_z ∧ True := rngL_of _ _ True hl trivial
    exact (congrArg Tr.run (by kernel_rfl : evV Try.prog (table tab_basis_Facing) 16 12 noKnown 173 [.agg [.int .i64 false n_x, .int .i64 false n_y, .int .i64 false n_z], .agg [.int .i64 false d_x, .int .i64 false d_y, .int .i64 false d_z]] = tr_skylightref07_Facing n_x n_y n_z d_x d_y d_z)).trans (run_skylightref07_Facing n_x n_y n_z d_x d_y d_z h_n_x h_n_y h_n_z h_d_x h_d_y h_d_z)
  · cases h)
noncomputable def tab_skylightref07_Facing : List (FuncId × Entry) := (173, e_skylightref07_Facing) :: tab_basis_Facing
theorem tok_skylightref07_Facing : TableOk Try.prog (table tab_skylightref07_Facing) := table_cons ok_skylightref07_Facing tok_basis_Facing

/-! bend.Back -/
def e_bend_Back : Entry := fun args => match args with | [.int .i64 false c, .int .i64 false n] => some (.leaf (i6 (backN c n))) | _ => none
theorem ok_bend_Back : EntryOk Try.prog 96 e_bend_Back := entry_ok progOk (T := table tab_skylightref07_Facing) tok_skylightref07_Facing 16 12 noKnown (fun _ _ _ _ => noKnown_ok) (by
  intro args t v h hv
  unfold e_bend_Back at h
  split at h
  · cases h
    cases hv
    refine ⟨rfl, by kernel_rfl, fun φ cs hl => ?_⟩
    rename_i c n
    obtain ⟨h_c, h_n, _⟩ : InR .i64 c ∧ InR .i64 n ∧ True := rngL_of _ _ True hl trivial
    exact (congrArg Tr.run (by kernel_rfl : evV Try.prog (table tab_skylightref07_Facing) 16 12 noKnown 96 [.int .i64 false c, .int .i64 false n] = tr_bend_Back c n)).trans (run_bend_Back c n h_c h_n)
  · cases h)
noncomputable def tab_bend_Back : List (FuncId × Entry) := (96, e_bend_Back) :: tab_skylightref07_Facing
theorem tok_bend_Back : TableOk Try.prog (table tab_bend_Back) := table_cons ok_bend_Back tok_skylightref07_Facing

/-! skylightref24.Back -/
def e_skylightref24_Back : Entry := fun args => match args with | [.int .i64 false c, .int .i64 false n] => some (.leaf (i6 (backN c n))) | _ => none
theorem ok_skylightref24_Back : EntryOk Try.prog 97 e_skylightref24_Back := entry_ok progOk (T := table tab_bend_Back) tok_bend_Back 16 12 noKnown (fun _ _ _ _ => noKnown_ok) (by
  intro args t v h hv
  unfold e_skylightref24_Back at h
  split at h
  · cases h
    cases hv
    refine ⟨rfl, by kernel_rfl, fun φ cs hl => ?_⟩
    rename_i c n
    obtain ⟨h_c, h_n, _⟩ : InR .i64 c ∧ InR .i64 n ∧ True := rngL_of _ _ True hl trivial
    exact (congrArg Tr.run (by kernel_rfl : evV Try.prog (table tab_bend_Back) 16 12 noKnown 97 [.int .i64 false c, .int .i64 false n] = tr_skylightref24_Back c n)).trans (run_skylightref24_Back c n h_c h_n)
  · cases h)
noncomputable def tab_skylightref24_Back : List (FuncId × Entry) := (97, e_skylightref24_Back) :: tab_bend_Back
theorem tok_skylightref24_Back : TableOk Try.prog (table tab_skylightref24_Back) := table_cons ok_skylightref24_Back tok_bend_Back

/-! bend.Cos -/
def e_bend_Cos : Entry := fun args => match args with | [.agg [.int .i64 false n_x, .int .i64 false n_y, .int .i64 false n_z], .agg [.int .i64 false d_x, .int .i64 false d_y, .int .i64 false d_z]] => some (.leaf (i6 (cosN n_x n_y n_z d_x d_y d_z))) | _ => none
theorem ok_bend_Cos : EntryOk Try.prog 98 e_bend_Cos := entry_ok progOk (T := table tab_skylightref24_Back) tok_skylightref24_Back 16 12 noKnown (fun _ _ _ _ => noKnown_ok) (by
  intro args t v h hv
  unfold e_bend_Cos at h
  split at h
  · cases h
    cases hv
    refine ⟨rfl, by kernel_rfl, fun φ cs hl => ?_⟩
    rename_i n_x n_y n_z d_x d_y d_z
    obtain ⟨h_n_x, h_n_y, h_n_z, h_d_x, h_d_y, h_d_z, _⟩ : InR .i64 n_x ∧ InR .i64 n_y ∧ InR .i64 n_z ∧ InR .i64 d_x ∧ InR .i64 d_y ∧ InR .i64 d_z ∧ True := rngL_of _ _ True hl trivial
    exact (congrArg Tr.run (by kernel_rfl : evV Try.prog (table tab_skylightref24_Back) 16 12 noKnown 98 [.agg [.int .i64 false n_x, .int .i64 false n_y, .int .i64 false n_z], .agg [.int .i64 false d_x, .int .i64 false d_y, .int .i64 false d_z]] = tr_bend_Cos n_x n_y n_z d_x d_y d_z)).trans (run_bend_Cos n_x n_y n_z d_x d_y d_z h_n_x h_n_y h_n_z h_d_x h_d_y h_d_z)
  · cases h)
noncomputable def tab_bend_Cos : List (FuncId × Entry) := (98, e_bend_Cos) :: tab_skylightref24_Back
theorem tok_bend_Cos : TableOk Try.prog (table tab_bend_Cos) := table_cons ok_bend_Cos tok_skylightref24_Back

/-! skylightref24.Cos -/
def e_skylightref24_Cos : Entry := fun args => match args with | [.agg [.int .i64 false n_x, .int .i64 false n_y, .int .i64 false n_z], .agg [.int .i64 false d_x, .int .i64 false d_y, .int .i64 false d_z]] => some (.leaf (i6 (cosN n_x n_y n_z d_x d_y d_z))) | _ => none
theorem ok_skylightref24_Cos : EntryOk Try.prog 99 e_skylightref24_Cos := entry_ok progOk (T := table tab_bend_Cos) tok_bend_Cos 16 12 noKnown (fun _ _ _ _ => noKnown_ok) (by
  intro args t v h hv
  unfold e_skylightref24_Cos at h
  split at h
  · cases h
    cases hv
    refine ⟨rfl, by kernel_rfl, fun φ cs hl => ?_⟩
    rename_i n_x n_y n_z d_x d_y d_z
    obtain ⟨h_n_x, h_n_y, h_n_z, h_d_x, h_d_y, h_d_z, _⟩ : InR .i64 n_x ∧ InR .i64 n_y ∧ InR .i64 n_z ∧ InR .i64 d_x ∧ InR .i64 d_y ∧ InR .i64 d_z ∧ True := rngL_of _ _ True hl trivial
    exact (congrArg Tr.run (by kernel_rfl : evV Try.prog (table tab_bend_Cos) 16 12 noKnown 99 [.agg [.int .i64 false n_x, .int .i64 false n_y, .int .i64 false n_z], .agg [.int .i64 false d_x, .int .i64 false d_y, .int .i64 false d_z]] = tr_skylightref24_Cos n_x n_y n_z d_x d_y d_z)).trans (run_skylightref24_Cos n_x n_y n_z d_x d_y d_z h_n_x h_n_y h_n_z h_d_x h_d_y h_d_z)
  · cases h)
noncomputable def tab_skylightref24_Cos : List (FuncId × Entry) := (99, e_skylightref24_Cos) :: tab_bend_Cos
theorem tok_skylightref24_Cos : TableOk Try.prog (table tab_skylightref24_Cos) := table_cons ok_skylightref24_Cos tok_bend_Cos

/-! bend.Sine -/
def e_bend_Sine : Entry := fun args => match args with | [.int .i64 false c, .int .i64 false a, .int .i64 false b] => some (.leaf (i6 (sineN c a b))) | _ => none
theorem ok_bend_Sine : EntryOk Try.prog 100 e_bend_Sine := entry_ok progOk (T := table tab_skylightref24_Cos) tok_skylightref24_Cos 16 12 noKnown (fun _ _ _ _ => noKnown_ok) (by
  intro args t v h hv
  unfold e_bend_Sine at h
  split at h
  · cases h
    cases hv
    refine ⟨rfl, by kernel_rfl, fun φ cs hl => ?_⟩
    rename_i c a b
    obtain ⟨h_c, h_a, h_b, _⟩ : InR .i64 c ∧ InR .i64 a ∧ InR .i64 b ∧ True := rngL_of _ _ True hl trivial
    exact (congrArg Tr.run (by kernel_rfl : evV Try.prog (table tab_skylightref24_Cos) 16 12 noKnown 100 [.int .i64 false c, .int .i64 false a, .int .i64 false b] = tr_bend_Sine c a b)).trans (run_bend_Sine c a b h_c h_a h_b)
  · cases h)
noncomputable def tab_bend_Sine : List (FuncId × Entry) := (100, e_bend_Sine) :: tab_skylightref24_Cos
theorem tok_bend_Sine : TableOk Try.prog (table tab_bend_Sine) := table_cons ok_bend_Sine tok_skylightref24_Cos

/-! skylightref24.Sine -/
def e_skylightref24_Sine : Entry := fun args => match args with | [.int .i64 false c, .int .i64 false a, .int .i64 false b] => some (.leaf (i6 (sineN c a b))) | _ => none
theorem ok_skylightref24_Sine : EntryOk Try.prog 101 e_skylightref24_Sine := entry_ok progOk (T := table tab_bend_Sine) tok_bend_Sine 16 12 noKnown (fun _ _ _ _ => noKnown_ok) (by
  intro args t v h hv
  unfold e_skylightref24_Sine at h
  split at h
  · cases h
    cases hv
    refine ⟨rfl, by kernel_rfl, fun φ cs hl => ?_⟩
    rename_i c a b
    obtain ⟨h_c, h_a, h_b, _⟩ : InR .i64 c ∧ InR .i64 a ∧ InR .i64 b ∧ True := rngL_of _ _ True hl trivial
    exact (congrArg Tr.run (by kernel_rfl : evV Try.prog (table tab_bend_Sine) 16 12 noKnown 101 [.int .i64 false c, .int .i64 false a, .int .i64 false b] = tr_skylightref24_Sine c a b)).trans (run_skylightref24_Sine c a b h_c h_a h_b)
  · cases h)
noncomputable def tab_skylightref24_Sine : List (FuncId × Entry) := (101, e_skylightref24_Sine) :: tab_bend_Sine
theorem tok_skylightref24_Sine : TableOk Try.prog (table tab_skylightref24_Sine) := table_cons ok_skylightref24_Sine tok_bend_Sine

/-! bend.Bend -/
def e_bend_Bend : Entry := fun args => match args with | [.agg [.int .i64 false d_x, .int .i64 false d_y, .int .i64 false d_z], .agg [.int .i64 false n_x, .int .i64 false n_y, .int .i64 false n_z], .int .i64 false a, .int .i64 false b] => some (.leaf (.tuple [v3 (bendU (bndC d_x n_x d_x d_y d_z n_x n_y n_z a b) d_x d_y d_z n_x n_y n_z a b) (bendU (bndC d_y n_y d_x d_y d_z n_x n_y n_z a b) d_x d_y d_z n_x n_y n_z a b) (bendU (bndC d_z n_z d_x d_y d_z n_x n_y n_z a b) d_x d_y d_z n_x n_y n_z a b), bb (bendIs d_x d_y d_z n_x n_y n_z a b)])) | _ => none
theorem ok_bend_Bend : EntryOk Try.prog 94 e_bend_Bend := entry_ok progOk (T := table tab_skylightref24_Sine) tok_skylightref24_Sine 16 12 noKnown (fun _ _ _ _ => noKnown_ok) (by
  intro args t v h hv
  unfold e_bend_Bend at h
  split at h
  · cases h
    cases hv
    refine ⟨rfl, by kernel_rfl, fun φ cs hl => ?_⟩
    rename_i d_x d_y d_z n_x n_y n_z a b
    obtain ⟨h_d_x, h_d_y, h_d_z, h_n_x, h_n_y, h_n_z, h_a, h_b, _⟩ : InR .i64 d_x ∧ InR .i64 d_y ∧ InR .i64 d_z ∧ InR .i64 n_x ∧ InR .i64 n_y ∧ InR .i64 n_z ∧ InR .i64 a ∧ InR .i64 b ∧ True := rngL_of _ _ True hl trivial
    exact (congrArg Tr.run (by kernel_rfl : evV Try.prog (table tab_skylightref24_Sine) 16 12 noKnown 94 [.agg [.int .i64 false d_x, .int .i64 false d_y, .int .i64 false d_z], .agg [.int .i64 false n_x, .int .i64 false n_y, .int .i64 false n_z], .int .i64 false a, .int .i64 false b] = tr_bend_Bend d_x d_y d_z n_x n_y n_z a b)).trans (run_bend_Bend d_x d_y d_z n_x n_y n_z a b h_d_x h_d_y h_d_z h_n_x h_n_y h_n_z h_a h_b)
  · cases h)
noncomputable def tab_bend_Bend : List (FuncId × Entry) := (94, e_bend_Bend) :: tab_skylightref24_Sine
theorem tok_bend_Bend : TableOk Try.prog (table tab_bend_Bend) := table_cons ok_bend_Bend tok_skylightref24_Sine

/-! skylightref24.Bend -/
def e_skylightref24_Bend : Entry := fun args => match args with | [.agg [.int .i64 false d_x, .int .i64 false d_y, .int .i64 false d_z], .agg [.int .i64 false n_x, .int .i64 false n_y, .int .i64 false n_z], .int .i64 false a, .int .i64 false b] => some (.leaf (.tuple [v3 (bendU (bndC d_x n_x d_x d_y d_z n_x n_y n_z a b) d_x d_y d_z n_x n_y n_z a b) (bendU (bndC d_y n_y d_x d_y d_z n_x n_y n_z a b) d_x d_y d_z n_x n_y n_z a b) (bendU (bndC d_z n_z d_x d_y d_z n_x n_y n_z a b) d_x d_y d_z n_x n_y n_z a b), bb (bendIs d_x d_y d_z n_x n_y n_z a b)])) | _ => none
theorem ok_skylightref24_Bend : EntryOk Try.prog 95 e_skylightref24_Bend := entry_ok progOk (T := table tab_bend_Bend) tok_bend_Bend 16 12 noKnown (fun _ _ _ _ => noKnown_ok) (by
  intro args t v h hv
  unfold e_skylightref24_Bend at h
  split at h
  · cases h
    cases hv
    refine ⟨rfl, by kernel_rfl, fun φ cs hl => ?_⟩
    rename_i d_x d_y d_z n_x n_y n_z a b
    obtain ⟨h_d_x, h_d_y, h_d_z, h_n_x, h_n_y, h_n_z, h_a, h_b, _⟩ : InR .i64 d_x ∧ InR .i64 d_y ∧ InR .i64 d_z ∧ InR .i64 n_x ∧ InR .i64 n_y ∧ InR .i64 n_z ∧ InR .i64 a ∧ InR .i64 b ∧ True := rngL_of _ _ True hl trivial
    exact (congrArg Tr.run (by kernel_rfl : evV Try.prog (table tab_bend_Bend) 16 12 noKnown 95 [.agg [.int .i64 false d_x, .int .i64 false d_y, .int .i64 false d_z], .agg [.int .i64 false n_x, .int .i64 false n_y, .int .i64 false n_z], .int .i64 false a, .int .i64 false b] = tr_skylightref24_Bend d_x d_y d_z n_x n_y n_z a b)).trans (run_skylightref24_Bend d_x d_y d_z n_x n_y n_z a b h_d_x h_d_y h_d_z h_n_x h_n_y h_n_z h_a h_b)
  · cases h)
noncomputable def tab_skylightref24_Bend : List (FuncId × Entry) := (95, e_skylightref24_Bend) :: tab_bend_Bend
theorem tok_skylightref24_Bend : TableOk Try.prog (table tab_skylightref24_Bend) := table_cons ok_skylightref24_Bend tok_bend_Bend

/-! skylightlaw24.BendMore -/
def e_skylightlaw24_BendMore : Entry := fun args => match args with | [.int .u16 false c, .int .u16 false d, .int .u16 false n, .int .u16 false m] => some (.leaf (bb true)) | _ => none
theorem ok_skylightlaw24_BendMore : EntryOk Try.prog 15 e_skylightlaw24_BendMore := entry_ok progOk (T := table tab_skylightref24_Bend) tok_skylightref24_Bend 16 12 noKnown (fun _ _ _ _ => noKnown_ok) (by
  intro args t v h hv
  unfold e_skylightlaw24_BendMore at h
  split at h
  · cases h
    cases hv
    refine ⟨rfl, by kernel_rfl, fun φ cs hl => ?_⟩
    rename_i c d n m
    obtain ⟨h_c, h_d, h_n, h_m, _⟩ : InR .u16 c ∧ InR .u16 d ∧ InR .u16 n ∧ InR .u16 m ∧ True := rngL_of _ _ True hl trivial
    exact (congrArg Tr.run (by kernel_rfl : evV Try.prog (table tab_skylightref24_Bend) 16 12 noKnown 15 [.int .u16 false c, .int .u16 false d, .int .u16 false n, .int .u16 false m] = tr_skylightlaw24_BendMore c d n m)).trans (run_skylightlaw24_BendMore c d n m h_c h_d h_n h_m)
  · cases h)
noncomputable def tab_skylightlaw24_BendMore : List (FuncId × Entry) := (15, e_skylightlaw24_BendMore) :: tab_skylightref24_Bend
theorem tok_skylightlaw24_BendMore : TableOk Try.prog (table tab_skylightlaw24_BendMore) := table_cons ok_skylightlaw24_BendMore tok_skylightref24_Bend

/-! skylightlaw24.BendTells -/
def e_skylightlaw24_BendTells : Entry := fun args => match args with | [.agg [.int .i64 false d_x, .int .i64 false d_y, .int .i64 false d_z], .agg [.int .i64 false n_x, .int .i64 false n_y, .int .i64 false n_z], .int .i64 false a, .int .i64 false b, .int .i64 false c] => some (.leaf (bb true)) | _ => none
theorem ok_skylightlaw24_BendTells : EntryOk Try.prog 14 e_skylightlaw24_BendTells := entry_ok progOk (T := table tab_skylightlaw24_BendMore) tok_skylightlaw24_BendMore 16 12 noKnown (fun _ _ _ _ => noKnown_ok) (by
  intro args t v h hv
  unfold e_skylightlaw24_BendTells at h
  split at h
  · cases h
    cases hv
    refine ⟨rfl, by kernel_rfl, fun φ cs hl => ?_⟩
    rename_i d_x d_y d_z n_x n_y n_z a b c
    obtain ⟨h_d_x, h_d_y, h_d_z, h_n_x, h_n_y, h_n_z, h_a, h_b, h_c, _⟩ : InR .i64 d_x ∧ InR .i64 d_y ∧ InR .i64 d_z ∧ InR .i64 n_x ∧ InR .i64 n_y ∧ InR .i64 n_z ∧ InR .i64 a ∧ InR .i64 b ∧ InR .i64 c ∧ True := rngL_of _ _ True hl trivial
    exact (congrArg Tr.run (by kernel_rfl : evV Try.prog (table tab_skylightlaw24_BendMore) 16 12 noKnown 14 [.agg [.int .i64 false d_x, .int .i64 false d_y, .int .i64 false d_z], .agg [.int .i64 false n_x, .int .i64 false n_y, .int .i64 false n_z], .int .i64 false a, .int .i64 false b, .int .i64 false c] = tr_skylightlaw24_BendTells d_x d_y d_z n_x n_y n_z a b c)).trans (run_skylightlaw24_BendTells d_x d_y d_z n_x n_y n_z a b c h_d_x h_d_y h_d_z h_n_x h_n_y h_n_z h_a h_b h_c)
  · cases h)
noncomputable def tab_skylightlaw24_BendTells : List (FuncId × Entry) := (14, e_skylightlaw24_BendTells) :: tab_skylightlaw24_BendMore
theorem tok_skylightlaw24_BendTells : TableOk Try.prog (table tab_skylightlaw24_BendTells) := table_cons ok_skylightlaw24_BendTells tok_skylightlaw24_BendMore

end Go.Proofs.Ytfbakgcemnkcpaa

/- Entries of the table: what functions give. -/
set_option linter.unusedSimpArgs false
set_option linter.unusedVariables false
namespace Go.Proofs.Ytfbakgcemnkcpaa
open Go Go.Sky
set_option maxRecDepth 100000

/-! math/bits.Add64 -/
def e_math_bits_Add64 : Entry := fun args => match args with | [.int .u64 false x, .int .u64 false y, .int .u64 false c] => some (.node (decide (0 ≤ c ∧ c ≤ 1)) (.leaf (.tuple [u6 ((x + y + c) % 18446744073709551616), u6 ((x + y + c) / 18446744073709551616)])) .bad) | _ => none
theorem ok_math_bits_Add64 : EntryOk Try.prog 200 e_math_bits_Add64 := by
  refine entry_ext ?_
  intro args t v h ht φ cs hl
  unfold e_math_bits_Add64 at h
  split at h
  · cases h
    simp only [Tr.run] at ht
    split at ht
    rotate_left
    · cases ht
    rename_i hpre0
    have hpre := of_decide_eq_true hpre0
    cases ht
    obtain ⟨rfl, hx, hy, hz⟩ := ints3 hl
    obtain ⟨hx0, hx1⟩ := inR_u64.1 hx
    obtain ⟨hy0, hy1⟩ := inR_u64.1 hy
    rename_i x y c
    refine ⟨_, rel_pair (inR_u64.2 (by omega)) (inR_u64.2 (by omega)), fun w => ?_⟩
    rw [run_callFunc_extern (e := add64Entry) Try.func200 (by kernel_rfl) (by kernel_rfl) (by kernel_rfl) (by kernel_rfl)]
    rw [run_add64 x y c hx0 hy0 hpre.1 hpre.2 w]
    rfl
  · cases h
noncomputable def tab_math_bits_Add64 : List (FuncId × Entry) := (200, e_math_bits_Add64) :: tab_skylightlaw24_BendTells
theorem tok_math_bits_Add64 : TableOk Try.prog (table tab_math_bits_Add64) := table_cons ok_math_bits_Add64 tok_skylightlaw24_BendTells

/-! math/bits.Sub64 -/
def e_math_bits_Sub64 : Entry := fun args => match args with | [.int .u64 false x, .int .u64 false y, .int .u64 false c] => some (.node (decide (0 ≤ c ∧ c ≤ 1)) (.leaf (.tuple [u6 ((x - y - c) % 18446744073709551616), u6 (brw x (y + c))])) .bad) | _ => none
theorem ok_math_bits_Sub64 : EntryOk Try.prog 212 e_math_bits_Sub64 := by
  refine entry_ext ?_
  intro args t v h ht φ cs hl
  unfold e_math_bits_Sub64 at h
  split at h
  · cases h
    simp only [Tr.run] at ht
    split at ht
    rotate_left
    · cases ht
    rename_i hpre0
    have hpre := of_decide_eq_true hpre0
    cases ht
    obtain ⟨rfl, hx, hy, hz⟩ := ints3 hl
    obtain ⟨hx0, hx1⟩ := inR_u64.1 hx
    obtain ⟨hy0, hy1⟩ := inR_u64.1 hy
    rename_i x y c
    refine ⟨_, rel_pair (inR_u64.2 (by omega)) (inR_u64.2 (by have := brw_r x (y + c); omega)), fun w => ?_⟩
    rw [run_callFunc_extern (e := sub64Entry) Try.func212 (by kernel_rfl) (by kernel_rfl) (by kernel_rfl) (by kernel_rfl)]
    rw [run_sub64 x y c ⟨hx0, hx1⟩ ⟨hy0, hy1⟩ hpre w]
    rfl
  · cases h
noncomputable def tab_math_bits_Sub64 : List (FuncId × Entry) := (212, e_math_bits_Sub64) :: tab_math_bits_Add64
theorem tok_math_bits_Sub64 : TableOk Try.prog (table tab_math_bits_Sub64) := table_cons ok_math_bits_Sub64 tok_math_bits_Add64

/-! wide.Add -/
def e_wide_Add : Entry := fun args => match args with | [.agg [.int .i64 false a_hi, .int .u64 false a_lo], .agg [.int .i64 false b_hi, .int .u64 false b_lo]] => some (.leaf (wA (wv a_hi a_lo + wv b_hi b_lo))) | _ => none
theorem ok_wide_Add : EntryOk Try.prog 163 e_wide_Add := entry_ok progOk (T := table tab_math_bits_Sub64) tok_math_bits_Sub64 16 12 noKnown (fun _ _ _ _ => noKnown_ok) (by
  intro args t v h hv
  unfold e_wide_Add at h
  split at h
  · cases h
    cases hv
    refine ⟨rfl, by kernel_rfl, fun φ cs hl => ?_⟩
    rename_i a_hi a_lo b_hi b_lo
    obtain ⟨h_a_hi, h_a_lo, h_b_hi, h_b_lo, _⟩ : InR .i64 a_hi ∧ InR .u64 a_lo ∧ InR .i64 b_hi ∧ InR .u64 b_lo ∧ True := rngL_of _ _ True hl trivial
    exact (congrArg Tr.run (by kernel_rfl : evV Try.prog (table tab_math_bits_Sub64) 16 12 noKnown 163 [.agg [.int .i64 false a_hi, .int .u64 false a_lo], .agg [.int .i64 false b_hi, .int .u64 false b_lo]] = tr_wide_Add a_hi a_lo b_hi b_lo)).trans (run_wide_Add a_hi a_lo b_hi b_lo h_a_hi h_a_lo h_b_hi h_b_lo)
  · cases h)
noncomputable def tab_wide_Add : List (FuncId × Entry) := (163, e_wide_Add) :: tab_math_bits_Sub64
theorem tok_wide_Add : TableOk Try.prog (table tab_wide_Add) := table_cons ok_wide_Add tok_math_bits_Sub64

/-! wide.Sub -/
def e_wide_Sub : Entry := fun args => match args with | [.agg [.int .i64 false a_hi, .int .u64 false a_lo], .agg [.int .i64 false b_hi, .int .u64 false b_lo]] => some (.leaf (wA (wv a_hi a_lo - wv b_hi b_lo))) | _ => none
theorem ok_wide_Sub : EntryOk Try.prog 194 e_wide_Sub := entry_ok progOk (T := table tab_wide_Add) tok_wide_Add 16 12 noKnown (fun _ _ _ _ => noKnown_ok) (by
  intro args t v h hv
  unfold e_wide_Sub at h
  split at h
  · cases h
    cases hv
    refine ⟨rfl, by kernel_rfl, fun φ cs hl => ?_⟩
    rename_i a_hi a_lo b_hi b_lo
    obtain ⟨h_a_hi, h_a_lo, h_b_hi, h_b_lo, _⟩ : InR .i64 a_hi ∧ InR .u64 a_lo ∧ InR .i64 b_hi ∧ InR .u64 b_lo ∧ True := rngL_of _ _ True hl trivial
    exact (congrArg Tr.run (by kernel_rfl : evV Try.prog (table tab_wide_Add) 16 12 noKnown 194 [.agg [.int .i64 false a_hi, .int .u64 false a_lo], .agg [.int .i64 false b_hi, .int .u64 false b_lo]] = tr_wide_Sub a_hi a_lo b_hi b_lo)).trans (run_wide_Sub a_hi a_lo b_hi b_lo h_a_hi h_a_lo h_b_hi h_b_lo)
  · cases h)
noncomputable def tab_wide_Sub : List (FuncId × Entry) := (194, e_wide_Sub) :: tab_wide_Add
theorem tok_wide_Sub : TableOk Try.prog (table tab_wide_Sub) := table_cons ok_wide_Sub tok_wide_Add

/-! wide.Root -/
def e_wide_Root : Entry := fun args => match args with | [.agg [.int .i64 false a_hi, .int .u64 false a_lo]] => some (.leaf (.tuple [u6 (rootN a_hi a_lo), bb (decide (0 ≤ a_hi))])) | _ => none
noncomputable def O_wide_Root_0 : Known := known 0 (piece Try.prog (table tab_wide_Sub) noKnown 165 0 56 [2, 3, 4, 5, 6, 7, 8, 9, 30, 31, 32, 33, 34, 35, 36, 37, 38, 39, 40, 41, 42, 43, 44, 45, 46, 47, 48, 49, 50, 51, 52, 53, 54, 55] [1, 4] g_wide_Root_0) noKnown
theorem O_wide_Root_0_ok : ∀ fn c, Try.prog.funcs[165]? = some fn → fn.body = some c → KnownOk Try.prog O_wide_Root_0 (blocksOf c) :=
  known_ok (by kernel_rfl) (piece_wp progOk tok_wide_Sub (known_in (by kernel_rfl) (fun _ _ _ _ => noKnown_ok)) (piece_wide_Root_0 (by kernel_rfl) (by kernel_rfl) (fun L r a_hi a_lo x0 x2 x3 x5 x6 x7 x8 x9 x10 x11 x12 x13 x14 x15 x16 x17 x18 x19 x20 x21 x22 x23 x24 x25 x26 x27 x28 x29 x30 x31 x32 x33 x34 x35 x36 x37 x38 x39 x40 x41 x42 x43 x44 x45 x46 x47 x48 x49 x50 x51 x52 x53 x54 x55 => by kernel_rfl))) (fun _ _ _ _ => noKnown_ok)
theorem ok_wide_Root : EntryOk Try.prog 165 e_wide_Root := entry_ok progOk (T := table tab_wide_Sub) tok_wide_Sub 16 12 O_wide_Root_0 O_wide_Root_0_ok (by
  intro args t v h hv
  unfold e_wide_Root at h
  split at h
  · cases h
    cases hv
    refine ⟨rfl, by kernel_rfl, fun φ cs hl => ?_⟩
    rename_i a_hi a_lo
    obtain ⟨h_a_hi, h_a_lo, _⟩ : InR .i64 a_hi ∧ InR .u64 a_lo ∧ True := rngL_of _ _ True hl trivial
    exact (congrArg Tr.run (by kernel_rfl : evV Try.prog (table tab_wide_Sub) 16 12 O_wide_Root_0 165 [.agg [.int .i64 false a_hi, .int .u64 false a_lo]] = tr_wide_Root a_hi a_lo)).trans (run_wide_Root a_hi a_lo h_a_hi h_a_lo)
  · cases h)
noncomputable def tab_wide_Root : List (FuncId × Entry) := (165, e_wide_Root) :: tab_wide_Sub
theorem tok_wide_Root : TableOk Try.prog (table tab_wide_Root) := table_cons ok_wide_Root tok_wide_Sub

end Go.Proofs.Ytfbakgcemnkcpaa

/- Entries of the table: what functions give. -/
set_option linter.unusedSimpArgs false
set_option linter.unusedVariables false
namespace Go.Proofs.Ytfbakgcemnkcpaa
open Go Go.Sky
set_option maxRecDepth 100000

/-! skylightref02.digits -/
def e_skylightref02_digits : Entry := fun args => match args with | [.agg [.int .i64 false a_hi, .int .u64 false a_lo]] => some (.leaf (.agg [i6 (dg (wv a_hi a_lo) 1), i6 (dg (wv a_hi a_lo) 65536), i6 (dg (wv a_hi a_lo) 4294967296), i6 (dg (wv a_hi a_lo) 281474976710656), i6 (dg (wv a_hi a_lo) 18446744073709551616), i6 (dg (wv a_hi a_lo) 1208925819614629174706176), i6 (dg (wv a_hi a_lo) 79228162514264337593543950336), i6 (dg (wv a_hi a_lo) 5192296858534827628530496329220096)])) | _ => none
theorem ok_skylightref02_digits : EntryOk Try.prog 155 e_skylightref02_digits := entry_ok progOk (T := table tab_wide_Root) tok_wide_Root 16 12 noKnown (fun _ _ _ _ => noKnown_ok) (by
  intro args t v h hv
  unfold e_skylightref02_digits at h
  split at h
  · cases h
    cases hv
    refine ⟨rfl, by kernel_rfl, fun φ cs hl => ?_⟩
    rename_i a_hi a_lo
    obtain ⟨h_a_hi, h_a_lo, _⟩ : InR .i64 a_hi ∧ InR .u64 a_lo ∧ True := rngL_of _ _ True hl trivial
    exact (congrArg Tr.run (by kernel_rfl : evV Try.prog (table tab_wide_Root) 16 12 noKnown 155 [.agg [.int .i64 false a_hi, .int .u64 false a_lo]] = tr_skylightref02_digits a_hi a_lo)).trans (run_skylightref02_digits a_hi a_lo h_a_hi h_a_lo)
  · cases h)
noncomputable def tab_skylightref02_digits : List (FuncId × Entry) := (155, e_skylightref02_digits) :: tab_wide_Root
theorem tok_skylightref02_digits : TableOk Try.prog (table tab_skylightref02_digits) := table_cons ok_skylightref02_digits tok_wide_Root

/-! skylightref02.number -/
def e_skylightref02_number : Entry := fun args => match args with | [.agg [.int .i64 false d_0, .int .i64 false d_1, .int .i64 false d_2, .int .i64 false d_3, .int .i64 false d_4, .int .i64 false d_5, .int .i64 false d_6, .int .i64 false d_7]] => some (.node (decide ((0 ≤ d_0 ∧ d_0 ≤ 1099511627776) ∧ (0 ≤ d_1 ∧ d_1 ≤ 1099511627776) ∧ (0 ≤ d_2 ∧ d_2 ≤ 1099511627776) ∧ (0 ≤ d_3 ∧ d_3 ≤ 1099511627776) ∧ (0 ≤ d_4 ∧ d_4 ≤ 1099511627776) ∧ (0 ≤ d_5 ∧ d_5 ≤ 1099511627776) ∧ (0 ≤ d_6 ∧ d_6 ≤ 1099511627776) ∧ (0 ≤ d_7 ∧ d_7 ≤ 1099511627776))) (.leaf (wA (val8 d_0 d_1 d_2 d_3 d_4 d_5 d_6 d_7))) .bad) | _ => none
theorem ok_skylightref02_number : EntryOk Try.prog 196 e_skylightref02_number := entry_ok progOk (T := table tab_skylightref02_digits) tok_skylightref02_digits 16 12 noKnown (fun _ _ _ _ => noKnown_ok) (by
  intro args t v h hv
  unfold e_skylightref02_number at h
  split at h
  · cases h
    simp only [Tr.run] at hv
    split at hv
    rotate_left
    · cases hv
    rename_i hpre0
    have hpre := of_decide_eq_true hpre0
    cases hv
    refine ⟨rfl, by kernel_rfl, fun φ cs hl => ?_⟩
    rename_i d_0 d_1 d_2 d_3 d_4 d_5 d_6 d_7
    obtain ⟨h_d_0, h_d_1, h_d_2, h_d_3, h_d_4, h_d_5, h_d_6, h_d_7, _⟩ : InR .i64 d_0 ∧ InR .i64 d_1 ∧ InR .i64 d_2 ∧ InR .i64 d_3 ∧ InR .i64 d_4 ∧ InR .i64 d_5 ∧ InR .i64 d_6 ∧ InR .i64 d_7 ∧ True := rngL_of _ _ True hl trivial
    exact (congrArg Tr.run (by kernel_rfl : evV Try.prog (table tab_skylightref02_digits) 16 12 noKnown 196 [.agg [.int .i64 false d_0, .int .i64 false d_1, .int .i64 false d_2, .int .i64 false d_3, .int .i64 false d_4, .int .i64 false d_5, .int .i64 false d_6, .int .i64 false d_7]] = tr_skylightref02_number d_0 d_1 d_2 d_3 d_4 d_5 d_6 d_7)).trans (run_skylightref02_number d_0 d_1 d_2 d_3 d_4 d_5 d_6 d_7 h_d_0 h_d_1 h_d_2 h_d_3 h_d_4 h_d_5 h_d_6 h_d_7 hpre)
  · cases h)
noncomputable def tab_skylightref02_number : List (FuncId × Entry) := (196, e_skylightref02_number) :: tab_skylightref02_digits
theorem tok_skylightref02_number : TableOk Try.prog (table tab_skylightref02_number) := table_cons ok_skylightref02_number tok_skylightref02_digits

/-! skylightref02.Of -/
def e_skylightref02_Of : Entry := fun args => match args with | [.int .i64 false n] => some (.leaf (wA n)) | _ => none
theorem ok_skylightref02_Of : EntryOk Try.prog 198 e_skylightref02_Of := entry_ok progOk (T := table tab_skylightref02_number) tok_skylightref02_number 16 12 noKnown (fun _ _ _ _ => noKnown_ok) (by
  intro args t v h hv
  unfold e_skylightref02_Of at h
  split at h
  · cases h
    cases hv
    refine ⟨rfl, by kernel_rfl, fun φ cs hl => ?_⟩
    rename_i n
    obtain ⟨h_n, _⟩ : InR .i64 n ∧ True := rngL_of _ _ True hl trivial
    exact (congrArg Tr.run (by kernel_rfl : evV Try.prog (table tab_skylightref02_number) 16 12 noKnown 198 [.int .i64 false n] = tr_skylightref02_Of n)).trans (run_skylightref02_Of n h_n)
  · cases h)
noncomputable def tab_skylightref02_Of : List (FuncId × Entry) := (198, e_skylightref02_Of) :: tab_skylightref02_number
theorem tok_skylightref02_Of : TableOk Try.prog (table tab_skylightref02_Of) := table_cons ok_skylightref02_Of tok_skylightref02_number

/-! skylightref02.Add -/
def e_skylightref02_Add : Entry := fun args => match args with | [.agg [.int .i64 false a_hi, .int .u64 false a_lo], .agg [.int .i64 false b_hi, .int .u64 false b_lo]] => some (.leaf (wA (wv a_hi a_lo + wv b_hi b_lo))) | _ => none
theorem ok_skylightref02_Add : EntryOk Try.prog 153 e_skylightref02_Add := entry_ok progOk (T := table tab_skylightref02_Of) tok_skylightref02_Of 16 12 noKnown (fun _ _ _ _ => noKnown_ok) (by
  intro args t v h hv
  unfold e_skylightref02_Add at h
  split at h
  · cases h
    cases hv
    refine ⟨rfl, by kernel_rfl, fun φ cs hl => ?_⟩
    rename_i a_hi a_lo b_hi b_lo
    obtain ⟨h_a_hi, h_a_lo, h_b_hi, h_b_lo, _⟩ : InR .i64 a_hi ∧ InR .u64 a_lo ∧ InR .i64 b_hi ∧ InR .u64 b_lo ∧ True := rngL_of _ _ True hl trivial
    exact (congrArg Tr.run (by kernel_rfl : evV Try.prog (table tab_skylightref02_Of) 16 12 noKnown 153 [.agg [.int .i64 false a_hi, .int .u64 false a_lo], .agg [.int .i64 false b_hi, .int .u64 false b_lo]] = tr_skylightref02_Add a_hi a_lo b_hi b_lo)).trans (run_skylightref02_Add a_hi a_lo b_hi b_lo h_a_hi h_a_lo h_b_hi h_b_lo)
  · cases h)
noncomputable def tab_skylightref02_Add : List (FuncId × Entry) := (153, e_skylightref02_Add) :: tab_skylightref02_Of
theorem tok_skylightref02_Add : TableOk Try.prog (table tab_skylightref02_Add) := table_cons ok_skylightref02_Add tok_skylightref02_Of

/-! skylightref02.Sub -/
def e_skylightref02_Sub : Entry := fun args => match args with | [.agg [.int .i64 false a_hi, .int .u64 false a_lo], .agg [.int .i64 false b_hi, .int .u64 false b_lo]] => some (.leaf (wA (wv a_hi a_lo - wv b_hi b_lo))) | _ => none
theorem ok_skylightref02_Sub : EntryOk Try.prog 151 e_skylightref02_Sub := entry_ok progOk (T := table tab_skylightref02_Add) tok_skylightref02_Add 16 12 noKnown (fun _ _ _ _ => noKnown_ok) (by
  intro args t v h hv
  unfold e_skylightref02_Sub at h
  split at h
  · cases h
    cases hv
    refine ⟨rfl, by kernel_rfl, fun φ cs hl => ?_⟩
    rename_i a_hi a_lo b_hi b_lo
    obtain ⟨h_a_hi, h_a_lo, h_b_hi, h_b_lo, _⟩ : InR .i64 a_hi ∧ InR .u64 a_lo ∧ InR .i64 b_hi ∧ InR .u64 b_lo ∧ True := rngL_of _ _ True hl trivial
    exact (congrArg Tr.run (by kernel_rfl : evV Try.prog (table tab_skylightref02_Add) 16 12 noKnown 151 [.agg [.int .i64 false a_hi, .int .u64 false a_lo], .agg [.int .i64 false b_hi, .int .u64 false b_lo]] = tr_skylightref02_Sub a_hi a_lo b_hi b_lo)).trans (run_skylightref02_Sub a_hi a_lo b_hi b_lo h_a_hi h_a_lo h_b_hi h_b_lo)
  · cases h)
noncomputable def tab_skylightref02_Sub : List (FuncId × Entry) := (151, e_skylightref02_Sub) :: tab_skylightref02_Add
theorem tok_skylightref02_Sub : TableOk Try.prog (table tab_skylightref02_Sub) := table_cons ok_skylightref02_Sub tok_skylightref02_Add

/-! skylightref02.Cmp -/
def e_skylightref02_Cmp : Entry := fun args => match args with | [.agg [.int .i64 false a_hi, .int .u64 false a_lo], .agg [.int .i64 false b_hi, .int .u64 false b_lo]] => some (.leaf (i6 (cmpI (wv a_hi a_lo) (wv b_hi b_lo)))) | _ => none
theorem ok_skylightref02_Cmp : EntryOk Try.prog 79 e_skylightref02_Cmp := entry_ok progOk (T := table tab_skylightref02_Sub) tok_skylightref02_Sub 16 12 noKnown (fun _ _ _ _ => noKnown_ok) (by
  intro args t v h hv
  unfold e_skylightref02_Cmp at h
  split at h
  · cases h
    cases hv
    refine ⟨rfl, by kernel_rfl, fun φ cs hl => ?_⟩
    rename_i a_hi a_lo b_hi b_lo
    obtain ⟨h_a_hi, h_a_lo, h_b_hi, h_b_lo, _⟩ : InR .i64 a_hi ∧ InR .u64 a_lo ∧ InR .i64 b_hi ∧ InR .u64 b_lo ∧ True := rngL_of _ _ True hl trivial
    exact (congrArg Tr.run (by kernel_rfl : evV Try.prog (table tab_skylightref02_Sub) 16 12 noKnown 79 [.agg [.int .i64 false a_hi, .int .u64 false a_lo], .agg [.int .i64 false b_hi, .int .u64 false b_lo]] = tr_skylightref02_Cmp a_hi a_lo b_hi b_lo)).trans (run_skylightref02_Cmp a_hi a_lo b_hi b_lo h_a_hi h_a_lo h_b_hi h_b_lo)
  · cases h)
noncomputable def tab_skylightref02_Cmp : List (FuncId × Entry) := (79, e_skylightref02_Cmp) :: tab_skylightref02_Sub
theorem tok_skylightref02_Cmp : TableOk Try.prog (table tab_skylightref02_Cmp) := table_cons ok_skylightref02_Cmp tok_skylightref02_Sub

/-! skylightref02.times -/
def e_skylightref02_times : Entry := fun args => match args with | [.agg [.int .i64 false a_0, .int .i64 false a_1, .int .i64 false a_2, .int .i64 false a_3, .int .i64 false a_4, .int .i64 false a_5, .int .i64 false a_6, .int .i64 false a_7], .agg [.int .i64 false b_0, .int .i64 false b_1, .int .i64 false b_2, .int .i64 false b_3, .int .i64 false b_4, .int .i64 false b_5, .int .i64 false b_6, .int .i64 false b_7]] => some (.node (decide ((0 ≤ a_0 ∧ a_0 ≤ 65535) ∧ (0 ≤ a_1 ∧ a_1 ≤ 65535) ∧ (0 ≤ a_2 ∧ a_2 ≤ 65535) ∧ (0 ≤ a_3 ∧ a_3 ≤ 65535) ∧ (0 ≤ a_4 ∧ a_4 ≤ 65535) ∧ (0 ≤ a_5 ∧ a_5 ≤ 65535) ∧ (0 ≤ a_6 ∧ a_6 ≤ 65535) ∧ (0 ≤ a_7 ∧ a_7 ≤ 65535) ∧ (0 ≤ b_0 ∧ b_0 ≤ 65535) ∧ (0 ≤ b_1 ∧ b_1 ≤ 65535) ∧ (0 ≤ b_2 ∧ b_2 ≤ 65535) ∧ (0 ≤ b_3 ∧ b_3 ≤ 65535) ∧ (0 ≤ b_4 ∧ b_4 ≤ 65535) ∧ (0 ≤ b_5 ∧ b_5 ≤ 65535) ∧ (0 ≤ b_6 ∧ b_6 ≤ 65535) ∧ (0 ≤ b_7 ∧ b_7 ≤ 65535))) (.leaf (wA ((val8 a_0 a_1 a_2 a_3 a_4 a_5 a_6 a_7) * (val8 b_0 b_1 b_2 b_3 b_4 b_5 b_6 b_7)))) .bad) | _ => none
theorem ok_skylightref02_times : EntryOk Try.prog 197 e_skylightref02_times := entry_ok progOk (T := table tab_skylightref02_Cmp) tok_skylightref02_Cmp 16 12 noKnown (fun _ _ _ _ => noKnown_ok) (by
  intro args t v h hv
  unfold e_skylightref02_times at h
  split at h
  · cases h
    simp only [Tr.run] at hv
    split at hv
    rotate_left
    · cases hv
    rename_i hpre0
    have hpre := of_decide_eq_true hpre0
    cases hv
    refine ⟨rfl, by kernel_rfl, fun φ cs hl => ?_⟩
    rename_i a_0 a_1 a_2 a_3 a_4 a_5 a_6 a_7 b_0 b_1 b_2 b_3 b_4 b_5 b_6 b_7
    obtain ⟨h_a_0, h_a_1, h_a_2, h_a_3, h_a_4, h_a_5, h_a_6, h_a_7, h_b_0, h_b_1, h_b_2, h_b_3, h_b_4, h_b_5, h_b_6, h_b_7, _⟩ : InR .i64 a_0 ∧ InR .i64 a_1 ∧ InR .i64 a_2 ∧ InR .i64 a_3 ∧ InR .i64 a_4 ∧ InR .i64 a_5 ∧ InR .i64 a_6 ∧ InR .i64 a_7 ∧ InR .i64 b_0 ∧ InR .i64 b_1 ∧ InR .i64 b_2 ∧ InR .i64 b_3 ∧ InR .i64 b_4 ∧ InR .i64 b_5 ∧ InR .i64 b_6 ∧ InR .i64 b_7 ∧ True := rngL_of _ _ True hl trivial
    exact (congrArg Tr.run (by kernel_rfl : evV Try.prog (table tab_skylightref02_Cmp) 16 12 noKnown 197 [.agg [.int .i64 false a_0, .int .i64 false a_1, .int .i64 false a_2, .int .i64 false a_3, .int .i64 false a_4, .int .i64 false a_5, .int .i64 false a_6, .int .i64 false a_7], .agg [.int .i64 false b_0, .int .i64 false b_1, .int .i64 false b_2, .int .i64 false b_3, .int .i64 false b_4, .int .i64 false b_5, .int .i64 false b_6, .int .i64 false b_7]] = tr_skylightref02_times a_0 a_1 a_2 a_3 a_4 a_5 a_6 a_7 b_0 b_1 b_2 b_3 b_4 b_5 b_6 b_7)).trans (run_skylightref02_times a_0 a_1 a_2 a_3 a_4 a_5 a_6 a_7 b_0 b_1 b_2 b_3 b_4 b_5 b_6 b_7 h_a_0 h_a_1 h_a_2 h_a_3 h_a_4 h_a_5 h_a_6 h_a_7 h_b_0 h_b_1 h_b_2 h_b_3 h_b_4 h_b_5 h_b_6 h_b_7 hpre)
  · cases h)
noncomputable def tab_skylightref02_times : List (FuncId × Entry) := (197, e_skylightref02_times) :: tab_skylightref02_Cmp
theorem tok_skylightref02_times : TableOk Try.prog (table tab_skylightref02_times) := table_cons ok_skylightref02_times tok_skylightref02_Cmp

/-! skylightref02.Mul -/
def e_skylightref02_Mul : Entry := fun args => match args with | [.int .i64 false a, .int .i64 false b] => some (.leaf (wA (a * b))) | _ => none
theorem ok_skylightref02_Mul : EntryOk Try.prog 152 e_skylightref02_Mul := entry_ok progOk (T := table tab_skylightref02_times) tok_skylightref02_times 16 12 noKnown (fun _ _ _ _ => noKnown_ok) (by
  intro args t v h hv
  unfold e_skylightref02_Mul at h
  split at h
  · cases h
    cases hv
    refine ⟨rfl, by kernel_rfl, fun φ cs hl => ?_⟩
    rename_i a b
    obtain ⟨h_a, h_b, _⟩ : InR .i64 a ∧ InR .i64 b ∧ True := rngL_of _ _ True hl trivial
    exact (congrArg Tr.run (by kernel_rfl : evV Try.prog (table tab_skylightref02_times) 16 12 noKnown 152 [.int .i64 false a, .int .i64 false b] = tr_skylightref02_Mul a b)).trans (run_skylightref02_Mul a b h_a h_b)
  · cases h)
noncomputable def tab_skylightref02_Mul : List (FuncId × Entry) := (152, e_skylightref02_Mul) :: tab_skylightref02_times
theorem tok_skylightref02_Mul : TableOk Try.prog (table tab_skylightref02_Mul) := table_cons ok_skylightref02_Mul tok_skylightref02_times

/-! skylightref02.square -/
def e_skylightref02_square : Entry := fun args => match args with | [.int .u64 false n] => some (.leaf (wA (n * n))) | _ => none
theorem ok_skylightref02_square : EntryOk Try.prog 195 e_skylightref02_square := entry_ok progOk (T := table tab_skylightref02_Mul) tok_skylightref02_Mul 16 12 noKnown (fun _ _ _ _ => noKnown_ok) (by
  intro args t v h hv
  unfold e_skylightref02_square at h
  split at h
  · cases h
    cases hv
    refine ⟨rfl, by kernel_rfl, fun φ cs hl => ?_⟩
    rename_i n
    obtain ⟨h_n, _⟩ : InR .u64 n ∧ True := rngL_of _ _ True hl trivial
    exact (congrArg Tr.run (by kernel_rfl : evV Try.prog (table tab_skylightref02_Mul) 16 12 noKnown 195 [.int .u64 false n] = tr_skylightref02_square n)).trans (run_skylightref02_square n h_n)
  · cases h)
noncomputable def tab_skylightref02_square : List (FuncId × Entry) := (195, e_skylightref02_square) :: tab_skylightref02_Mul
theorem tok_skylightref02_square : TableOk Try.prog (table tab_skylightref02_square) := table_cons ok_skylightref02_square tok_skylightref02_Mul

end Go.Proofs.Ytfbakgcemnkcpaa

/- Entries of the table: what functions give. -/
set_option linter.unusedSimpArgs false
set_option linter.unusedVariables false
namespace Go.Proofs.Ytfbakgcemnkcpaa
open Go Go.Sky
set_option maxRecDepth 100000

/-! skylightref02.Root -/
def e_skylightref02_Root : Entry := fun args => match args with | [.agg [.int .i64 false a_hi, .int .u64 false a_lo]] => some (.leaf (.tuple [u6 (rootN a_hi a_lo), bb (decide (0 ≤ a_hi))])) | _ => none
noncomputable def O_skylightref02_Root_0 : Known := known 0 (piece Try.prog (table tab_skylightref02_square) noKnown 150 0 33 [4, 5, 6, 10, 11, 12, 13, 14, 15, 16, 17, 18, 19, 20, 21, 22, 23, 24, 25, 26, 27, 28, 29, 30, 31] [1, 4, 5] g_skylightref02_Root_0) noKnown
theorem O_skylightref02_Root_0_ok : ∀ fn c, Try.prog.funcs[150]? = some fn → fn.body = some c → KnownOk Try.prog O_skylightref02_Root_0 (blocksOf c) :=
  known_ok (by kernel_rfl) (piece_wp progOk tok_skylightref02_square (known_in (by kernel_rfl) (fun _ _ _ _ => noKnown_ok)) (piece_skylightref02_Root_0 (by kernel_rfl) (by kernel_rfl) (fun L r i a_hi a_lo x0 x2 x3 x6 x7 x8 x9 x10 x11 x12 x13 x14 x15 x16 x17 x18 x19 x20 x21 x22 x23 x24 x25 x26 x27 x28 x29 x30 x31 x32 => by kernel_rfl))) (fun _ _ _ _ => noKnown_ok)
theorem ok_skylightref02_Root : EntryOk Try.prog 150 e_skylightref02_Root := entry_ok progOk (T := table tab_skylightref02_square) tok_skylightref02_square 16 12 O_skylightref02_Root_0 O_skylightref02_Root_0_ok (by
  intro args t v h hv
  unfold e_skylightref02_Root at h
  split at h
  · cases h
    cases hv
    refine ⟨rfl, by kernel_rfl, fun φ cs hl => ?_⟩
    rename_i a_hi a_lo
    obtain ⟨h_a_hi, h_a_lo, _⟩ : InR .i64 a_hi ∧ InR .u64 a_lo ∧ True := rngL_of _ _ True hl trivial
    exact (congrArg Tr.run (by kernel_rfl : evV Try.prog (table tab_skylightref02_square) 16 12 O_skylightref02_Root_0 150 [.agg [.int .i64 false a_hi, .int .u64 false a_lo]] = tr_skylightref02_Root a_hi a_lo)).trans (run_skylightref02_Root a_hi a_lo h_a_hi h_a_lo)
  · cases h)
noncomputable def tab_skylightref02_Root : List (FuncId × Entry) := (150, e_skylightref02_Root) :: tab_skylightref02_square
theorem tok_skylightref02_Root : TableOk Try.prog (table tab_skylightref02_Root) := table_cons ok_skylightref02_Root tok_skylightref02_square

/-! skylightref12.times -/
def e_skylightref12_times : Entry := fun args => match args with | [.agg [.int .i64 false w_hi, .int .u64 false w_lo], .int .i64 false n] => some (.node (decide (0 ≤ n)) (.leaf (wA (wv w_hi w_lo * n))) .bad) | _ => none
noncomputable def O_skylightref12_times_0 : Known := known 0 (piece Try.prog (table tab_skylightref02_Root) noKnown 154 0 24 [6, 8, 9, 10, 11, 12, 13, 14, 15, 16, 17, 18, 19, 20, 21, 22] [1, 2, 5, 6] g_skylightref12_times_0) noKnown
theorem O_skylightref12_times_0_ok : ∀ fn c, Try.prog.funcs[154]? = some fn → fn.body = some c → KnownOk Try.prog O_skylightref12_times_0 (blocksOf c) :=
  known_ok (by kernel_rfl) (piece_wp progOk tok_skylightref02_Root (known_in (by kernel_rfl) (fun _ _ _ _ => noKnown_ok)) (piece_skylightref12_times_0 (by kernel_rfl) (by kernel_rfl) (fun L n i w_hi w_lo s_hi s_lo x0 x3 x4 x7 x8 x9 x10 x11 x12 x13 x14 x15 x16 x17 x18 x19 x20 x21 x22 x23 => by kernel_rfl))) (fun _ _ _ _ => noKnown_ok)
theorem ok_skylightref12_times : EntryOk Try.prog 154 e_skylightref12_times := entry_ok progOk (T := table tab_skylightref02_Root) tok_skylightref02_Root 16 12 O_skylightref12_times_0 O_skylightref12_times_0_ok (by
  intro args t v h hv
  unfold e_skylightref12_times at h
  split at h
  · cases h
    simp only [Tr.run] at hv
    split at hv
    rotate_left
    · cases hv
    rename_i hpre0
    have hpre := of_decide_eq_true hpre0
    cases hv
    refine ⟨rfl, by kernel_rfl, fun φ cs hl => ?_⟩
    rename_i w_hi w_lo n
    obtain ⟨h_w_hi, h_w_lo, h_n, _⟩ : InR .i64 w_hi ∧ InR .u64 w_lo ∧ InR .i64 n ∧ True := rngL_of _ _ True hl trivial
    exact (congrArg Tr.run (by kernel_rfl : evV Try.prog (table tab_skylightref02_Root) 16 12 O_skylightref12_times_0 154 [.agg [.int .i64 false w_hi, .int .u64 false w_lo], .int .i64 false n] = tr_skylightref12_times w_hi w_lo n)).trans (run_skylightref12_times w_hi w_lo n h_w_hi h_w_lo h_n hpre)
  · cases h)
noncomputable def tab_skylightref12_times : List (FuncId × Entry) := (154, e_skylightref12_times) :: tab_skylightref02_Root
theorem tok_skylightref12_times : TableOk Try.prog (table tab_skylightref12_times) := table_cons ok_skylightref12_times tok_skylightref02_Root

end Go.Proofs.Ytfbakgcemnkcpaa

/- Entries of the table: what functions give. -/
set_option linter.unusedSimpArgs false
set_option linter.unusedVariables false
namespace Go.Proofs.Ytfbakgcemnkcpaa
open Go Go.Sky
set_option maxRecDepth 100000

/-! tri.Place -/
def e_tri_Place : Entry := fun args => match args with | [.agg [.int .i64 false v_x, .int .i64 false v_y, .int .i64 false v_z]] => some (.leaf (bb (placeB v_x v_y v_z))) | _ => none
theorem ok_tri_Place : EntryOk Try.prog 85 e_tri_Place := entry_ok progOk (T := table tab_skylightref12_times) tok_skylightref12_times 16 12 noKnown (fun _ _ _ _ => noKnown_ok) (by
  intro args t v h hv
  unfold e_tri_Place at h
  split at h
  · cases h
    cases hv
    refine ⟨rfl, by kernel_rfl, fun φ cs hl => ?_⟩
    rename_i v_x v_y v_z
    obtain ⟨h_v_x, h_v_y, h_v_z, _⟩ : InR .i64 v_x ∧ InR .i64 v_y ∧ InR .i64 v_z ∧ True := rngL_of _ _ True hl trivial
    exact (congrArg Tr.run (by kernel_rfl : evV Try.prog (table tab_skylightref12_times) 16 12 noKnown 85 [.agg [.int .i64 false v_x, .int .i64 false v_y, .int .i64 false v_z]] = tr_tri_Place v_x v_y v_z)).trans (run_tri_Place v_x v_y v_z h_v_x h_v_y h_v_z)
  · cases h)
noncomputable def tab_tri_Place : List (FuncId × Entry) := (85, e_tri_Place) :: tab_skylightref12_times
theorem tok_tri_Place : TableOk Try.prog (table tab_tri_Place) := table_cons ok_tri_Place tok_skylightref12_times

/-! skylightref11.Place -/
def e_skylightref11_Place : Entry := fun args => match args with | [.agg [.int .i64 false v_x, .int .i64 false v_y, .int .i64 false v_z]] => some (.leaf (bb (placeB v_x v_y v_z))) | _ => none
theorem ok_skylightref11_Place : EntryOk Try.prog 80 e_skylightref11_Place := entry_ok progOk (T := table tab_tri_Place) tok_tri_Place 16 12 noKnown (fun _ _ _ _ => noKnown_ok) (by
  intro args t v h hv
  unfold e_skylightref11_Place at h
  split at h
  · cases h
    cases hv
    refine ⟨rfl, by kernel_rfl, fun φ cs hl => ?_⟩
    rename_i v_x v_y v_z
    obtain ⟨h_v_x, h_v_y, h_v_z, _⟩ : InR .i64 v_x ∧ InR .i64 v_y ∧ InR .i64 v_z ∧ True := rngL_of _ _ True hl trivial
    exact (congrArg Tr.run (by kernel_rfl : evV Try.prog (table tab_tri_Place) 16 12 noKnown 80 [.agg [.int .i64 false v_x, .int .i64 false v_y, .int .i64 false v_z]] = tr_skylightref11_Place v_x v_y v_z)).trans (run_skylightref11_Place v_x v_y v_z h_v_x h_v_y h_v_z)
  · cases h)
noncomputable def tab_skylightref11_Place : List (FuncId × Entry) := (80, e_skylightref11_Place) :: tab_tri_Place
theorem tok_skylightref11_Place : TableOk Try.prog (table tab_skylightref11_Place) := table_cons ok_skylightref11_Place tok_tri_Place

/-! ball.Right -/
def e_ball_Right : Entry := fun args => match args with | [.agg [.int .i64 false c_x, .int .i64 false c_y, .int .i64 false c_z], .int .i64 false r] => some (.leaf (bb (bRight c_x c_y c_z r))) | _ => none
theorem ok_ball_Right : EntryOk Try.prog 70 e_ball_Right := entry_ok progOk (T := table tab_skylightref11_Place) tok_skylightref11_Place 16 12 noKnown (fun _ _ _ _ => noKnown_ok) (by
  intro args t v h hv
  unfold e_ball_Right at h
  split at h
  · cases h
    cases hv
    refine ⟨rfl, by kernel_rfl, fun φ cs hl => ?_⟩
    rename_i c_x c_y c_z r
    obtain ⟨h_c_x, h_c_y, h_c_z, h_r, _⟩ : InR .i64 c_x ∧ InR .i64 c_y ∧ InR .i64 c_z ∧ InR .i64 r ∧ True := rngL_of _ _ True hl trivial
    exact (congrArg Tr.run (by kernel_rfl : evV Try.prog (table tab_skylightref11_Place) 16 12 noKnown 70 [.agg [.int .i64 false c_x, .int .i64 false c_y, .int .i64 false c_z], .int .i64 false r] = tr_ball_Right c_x c_y c_z r)).trans (run_ball_Right c_x c_y c_z r h_c_x h_c_y h_c_z h_r)
  · cases h)
noncomputable def tab_ball_Right : List (FuncId × Entry) := (70, e_ball_Right) :: tab_skylightref11_Place
theorem tok_ball_Right : TableOk Try.prog (table tab_ball_Right) := table_cons ok_ball_Right tok_skylightref11_Place

/-! skylightref12.Right -/
def e_skylightref12_Right : Entry := fun args => match args with | [.agg [.int .i64 false c_x, .int .i64 false c_y, .int .i64 false c_z], .int .i64 false r] => some (.leaf (bb (bRight c_x c_y c_z r))) | _ => none
theorem ok_skylightref12_Right : EntryOk Try.prog 71 e_skylightref12_Right := entry_ok progOk (T := table tab_ball_Right) tok_ball_Right 16 12 noKnown (fun _ _ _ _ => noKnown_ok) (by
  intro args t v h hv
  unfold e_skylightref12_Right at h
  split at h
  · cases h
    cases hv
    refine ⟨rfl, by kernel_rfl, fun φ cs hl => ?_⟩
    rename_i c_x c_y c_z r
    obtain ⟨h_c_x, h_c_y, h_c_z, h_r, _⟩ : InR .i64 c_x ∧ InR .i64 c_y ∧ InR .i64 c_z ∧ InR .i64 r ∧ True := rngL_of _ _ True hl trivial
    exact (congrArg Tr.run (by kernel_rfl : evV Try.prog (table tab_ball_Right) 16 12 noKnown 71 [.agg [.int .i64 false c_x, .int .i64 false c_y, .int .i64 false c_z], .int .i64 false r] = tr_skylightref12_Right c_x c_y c_z r)).trans (run_skylightref12_Right c_x c_y c_z r h_c_x h_c_y h_c_z h_r)
  · cases h)
noncomputable def tab_skylightref12_Right : List (FuncId × Entry) := (71, e_skylightref12_Right) :: tab_ball_Right
theorem tok_skylightref12_Right : TableOk Try.prog (table tab_skylightref12_Right) := table_cons ok_skylightref12_Right tok_ball_Right

/-! ball.of -/
def e_ball_of : Entry := fun args => match args with | [.agg [.int .i64 false c_x, .int .i64 false c_y, .int .i64 false c_z], .int .i64 false r, .agg [.int .i64 false x_o_x, .int .i64 false x_o_y, .int .i64 false x_o_z, .int .i64 false x_d_x, .int .i64 false x_d_y, .int .i64 false x_d_z, .int .i64 false x_f]] => some (.leaf (.agg [i6 (eA c_x c_y c_z r x_o_x x_o_y x_o_z x_d_x x_d_y x_d_z), i6 (eB c_x c_y c_z r x_o_x x_o_y x_o_z x_d_x x_d_y x_d_z), i6 (eQ c_x c_y c_z r x_o_x x_o_y x_o_z x_d_x x_d_y x_d_z)])) | _ => none
theorem ok_ball_of : EntryOk Try.prog 146 e_ball_of := entry_ok progOk (T := table tab_skylightref12_Right) tok_skylightref12_Right 16 12 noKnown (fun _ _ _ _ => noKnown_ok) (by
  intro args t v h hv
  unfold e_ball_of at h
  split at h
  · cases h
    cases hv
    refine ⟨rfl, by kernel_rfl, fun φ cs hl => ?_⟩
    rename_i c_x c_y c_z r x_o_x x_o_y x_o_z x_d_x x_d_y x_d_z x_f
    obtain ⟨h_c_x, h_c_y, h_c_z, h_r, h_x_o_x, h_x_o_y, h_x_o_z, h_x_d_x, h_x_d_y, h_x_d_z, h_x_f, _⟩ : InR .i64 c_x ∧ InR .i64 c_y ∧ InR .i64 c_z ∧ InR .i64 r ∧ InR .i64 x_o_x ∧ InR .i64 x_o_y ∧ InR .i64 x_o_z ∧ InR .i64 x_d_x ∧ InR .i64 x_d_y ∧ InR .i64 x_d_z ∧ InR .i64 x_f ∧ True := rngL_of _ _ True hl trivial
    exact (congrArg Tr.run (by kernel_rfl : evV Try.prog (table tab_skylightref12_Right) 16 12 noKnown 146 [.agg [.int .i64 false c_x, .int .i64 false c_y, .int .i64 false c_z], .int .i64 false r, .agg [.int .i64 false x_o_x, .int .i64 false x_o_y, .int .i64 false x_o_z, .int .i64 false x_d_x, .int .i64 false x_d_y, .int .i64 false x_d_z, .int .i64 false x_f]] = tr_ball_of c_x c_y c_z r x_o_x x_o_y x_o_z x_d_x x_d_y x_d_z x_f)).trans (run_ball_of c_x c_y c_z r x_o_x x_o_y x_o_z x_d_x x_d_y x_d_z x_f h_c_x h_c_y h_c_z h_r h_x_o_x h_x_o_y h_x_o_z h_x_d_x h_x_d_y h_x_d_z h_x_f)
  · cases h)
noncomputable def tab_ball_of : List (FuncId × Entry) := (146, e_ball_of) :: tab_skylightref12_Right
theorem tok_ball_of : TableOk Try.prog (table tab_ball_of) := table_cons ok_ball_of tok_skylightref12_Right

/-! (ball.equation).root -/
def e_ball_equation_root : Entry := fun args => match args with | [.agg [.int .i64 false e_a, .int .i64 false e_b, .int .i64 false e_q]] => some (.leaf (.tuple [i6 (IntKind.i64.wrap (rootN (whi (e_b * e_b - e_a * e_q)) (wlo (e_b * e_b - e_a * e_q)))), bb (decide (0 ≤ whi (e_b * e_b - e_a * e_q)))])) | _ => none
theorem ok_ball_equation_root : EntryOk Try.prog 147 e_ball_equation_root := entry_ok progOk (T := table tab_ball_of) tok_ball_of 16 12 noKnown (fun _ _ _ _ => noKnown_ok) (by
  intro args t v h hv
  unfold e_ball_equation_root at h
  split at h
  · cases h
    cases hv
    refine ⟨rfl, by kernel_rfl, fun φ cs hl => ?_⟩
    rename_i e_a e_b e_q
    obtain ⟨h_e_a, h_e_b, h_e_q, _⟩ : InR .i64 e_a ∧ InR .i64 e_b ∧ InR .i64 e_q ∧ True := rngL_of _ _ True hl trivial
    exact (congrArg Tr.run (by kernel_rfl : evV Try.prog (table tab_ball_of) 16 12 noKnown 147 [.agg [.int .i64 false e_a, .int .i64 false e_b, .int .i64 false e_q]] = tr_ball_equation_root e_a e_b e_q)).trans (run_ball_equation_root e_a e_b e_q h_e_a h_e_b h_e_q)
  · cases h)
noncomputable def tab_ball_equation_root : List (FuncId × Entry) := (147, e_ball_equation_root) :: tab_ball_of
theorem tok_ball_equation_root : TableOk Try.prog (table tab_ball_equation_root) := table_cons ok_ball_equation_root tok_ball_of

/-! skylightref12.may -/
def e_skylightref12_may : Entry := fun args => match args with | [.agg [.int .i64 false c_x, .int .i64 false c_y, .int .i64 false c_z], .int .i64 false r, .agg [.int .i64 false x_o_x, .int .i64 false x_o_y, .int .i64 false x_o_z, .int .i64 false x_d_x, .int .i64 false x_d_y, .int .i64 false x_d_z, .int .i64 false x_f]] => some (.leaf (bb (bMay c_x c_y c_z r x_o_x x_o_y x_o_z x_d_x x_d_y x_d_z))) | _ => none
theorem ok_skylightref12_may : EntryOk Try.prog 149 e_skylightref12_may := entry_ok progOk (T := table tab_ball_equation_root) tok_ball_equation_root 16 12 noKnown (fun _ _ _ _ => noKnown_ok) (by
  intro args t v h hv
  unfold e_skylightref12_may at h
  split at h
  · cases h
    cases hv
    refine ⟨rfl, by kernel_rfl, fun φ cs hl => ?_⟩
    rename_i c_x c_y c_z r x_o_x x_o_y x_o_z x_d_x x_d_y x_d_z x_f
    obtain ⟨h_c_x, h_c_y, h_c_z, h_r, h_x_o_x, h_x_o_y, h_x_o_z, h_x_d_x, h_x_d_y, h_x_d_z, h_x_f, _⟩ : InR .i64 c_x ∧ InR .i64 c_y ∧ InR .i64 c_z ∧ InR .i64 r ∧ InR .i64 x_o_x ∧ InR .i64 x_o_y ∧ InR .i64 x_o_z ∧ InR .i64 x_d_x ∧ InR .i64 x_d_y ∧ InR .i64 x_d_z ∧ InR .i64 x_f ∧ True := rngL_of _ _ True hl trivial
    exact (congrArg Tr.run (by kernel_rfl : evV Try.prog (table tab_ball_equation_root) 16 12 noKnown 149 [.agg [.int .i64 false c_x, .int .i64 false c_y, .int .i64 false c_z], .int .i64 false r, .agg [.int .i64 false x_o_x, .int .i64 false x_o_y, .int .i64 false x_o_z, .int .i64 false x_d_x, .int .i64 false x_d_y, .int .i64 false x_d_z, .int .i64 false x_f]] = tr_skylightref12_may c_x c_y c_z r x_o_x x_o_y x_o_z x_d_x x_d_y x_d_z x_f)).trans (run_skylightref12_may c_x c_y c_z r x_o_x x_o_y x_o_z x_d_x x_d_y x_d_z x_f h_c_x h_c_y h_c_z h_r h_x_o_x h_x_o_y h_x_o_z h_x_d_x h_x_d_y h_x_d_z h_x_f)
  · cases h)
noncomputable def tab_skylightref12_may : List (FuncId × Entry) := (149, e_skylightref12_may) :: tab_ball_equation_root
theorem tok_skylightref12_may : TableOk Try.prog (table tab_skylightref12_may) := table_cons ok_skylightref12_may tok_ball_equation_root

/-! skylightref12.Value -/
def e_skylightref12_Value : Entry := fun args => match args with | [.agg [.int .i64 false c_x, .int .i64 false c_y, .int .i64 false c_z], .int .i64 false r, .agg [.int .i64 false x_o_x, .int .i64 false x_o_y, .int .i64 false x_o_z, .int .i64 false x_d_x, .int .i64 false x_d_y, .int .i64 false x_d_z, .int .i64 false x_f], .int .i64 false n, .int .i64 false d] => some (.node (decide (mayE c_x c_y c_z r x_o_x x_o_y x_o_z x_d_x x_d_y x_d_z = true ∧ 0 ≤ n ∧ 0 ≤ d)) (.leaf (wA (vP c_x c_y c_z r x_o_x x_o_y x_o_z x_d_x x_d_y x_d_z n d))) .bad) | _ => none
theorem ok_skylightref12_Value : EntryOk Try.prog 78 e_skylightref12_Value := entry_ok progOk (T := table tab_skylightref12_may) tok_skylightref12_may 16 12 noKnown (fun _ _ _ _ => noKnown_ok) (by
  intro args t v h hv
  unfold e_skylightref12_Value at h
  split at h
  · cases h
    simp only [Tr.run] at hv
    split at hv
    rotate_left
    · cases hv
    rename_i hpre0
    have hpre := of_decide_eq_true hpre0
    cases hv
    refine ⟨rfl, by kernel_rfl, fun φ cs hl => ?_⟩
    rename_i c_x c_y c_z r x_o_x x_o_y x_o_z x_d_x x_d_y x_d_z x_f n d
    obtain ⟨h_c_x, h_c_y, h_c_z, h_r, h_x_o_x, h_x_o_y, h_x_o_z, h_x_d_x, h_x_d_y, h_x_d_z, h_x_f, h_n, h_d, _⟩ : InR .i64 c_x ∧ InR .i64 c_y ∧ InR .i64 c_z ∧ InR .i64 r ∧ InR .i64 x_o_x ∧ InR .i64 x_o_y ∧ InR .i64 x_o_z ∧ InR .i64 x_d_x ∧ InR .i64 x_d_y ∧ InR .i64 x_d_z ∧ InR .i64 x_f ∧ InR .i64 n ∧ InR .i64 d ∧ True := rngL_of _ _ True hl trivial
    exact (congrArg Tr.run (by kernel_rfl : evV Try.prog (table tab_skylightref12_may) 16 12 noKnown 78 [.agg [.int .i64 false c_x, .int .i64 false c_y, .int .i64 false c_z], .int .i64 false r, .agg [.int .i64 false x_o_x, .int .i64 false x_o_y, .int .i64 false x_o_z, .int .i64 false x_d_x, .int .i64 false x_d_y, .int .i64 false x_d_z, .int .i64 false x_f], .int .i64 false n, .int .i64 false d] = tr_skylightref12_Value c_x c_y c_z r x_o_x x_o_y x_o_z x_d_x x_d_y x_d_z x_f n d)).trans (run_skylightref12_Value c_x c_y c_z r x_o_x x_o_y x_o_z x_d_x x_d_y x_d_z x_f n d h_c_x h_c_y h_c_z h_r h_x_o_x h_x_o_y h_x_o_z h_x_d_x h_x_d_y h_x_d_z h_x_f h_n h_d hpre)
  · cases h)
noncomputable def tab_skylightref12_Value : List (FuncId × Entry) := (78, e_skylightref12_Value) :: tab_skylightref12_may
theorem tok_skylightref12_Value : TableOk Try.prog (table tab_skylightref12_Value) := table_cons ok_skylightref12_Value tok_skylightref12_may

/-! ball.Hit -/
def e_ball_Hit : Entry := fun args => match args with | [.agg [.int .i64 false c_x, .int .i64 false c_y, .int .i64 false c_z], .int .i64 false r, .agg [.int .i64 false x_o_x, .int .i64 false x_o_y, .int .i64 false x_o_z, .int .i64 false x_d_x, .int .i64 false x_d_y, .int .i64 false x_d_z, .int .i64 false x_f]] => some (.leaf (.tuple [frA (hitN c_x c_y c_z r x_o_x x_o_y x_o_z x_d_x x_d_y x_d_z) (hitD c_x c_y c_z r x_o_x x_o_y x_o_z x_d_x x_d_y x_d_z), bb (hitOk c_x c_y c_z r x_o_x x_o_y x_o_z x_d_x x_d_y x_d_z)])) | _ => none
theorem ok_ball_Hit : EntryOk Try.prog 66 e_ball_Hit := entry_ok progOk (T := table tab_skylightref12_Value) tok_skylightref12_Value 16 12 noKnown (fun _ _ _ _ => noKnown_ok) (by
  intro args t v h hv
  unfold e_ball_Hit at h
  split at h
  · cases h
    cases hv
    refine ⟨rfl, by kernel_rfl, fun φ cs hl => ?_⟩
    rename_i c_x c_y c_z r x_o_x x_o_y x_o_z x_d_x x_d_y x_d_z x_f
    obtain ⟨h_c_x, h_c_y, h_c_z, h_r, h_x_o_x, h_x_o_y, h_x_o_z, h_x_d_x, h_x_d_y, h_x_d_z, h_x_f, _⟩ : InR .i64 c_x ∧ InR .i64 c_y ∧ InR .i64 c_z ∧ InR .i64 r ∧ InR .i64 x_o_x ∧ InR .i64 x_o_y ∧ InR .i64 x_o_z ∧ InR .i64 x_d_x ∧ InR .i64 x_d_y ∧ InR .i64 x_d_z ∧ InR .i64 x_f ∧ True := rngL_of _ _ True hl trivial
    exact (congrArg Tr.run (by kernel_rfl : evV Try.prog (table tab_skylightref12_Value) 16 12 noKnown 66 [.agg [.int .i64 false c_x, .int .i64 false c_y, .int .i64 false c_z], .int .i64 false r, .agg [.int .i64 false x_o_x, .int .i64 false x_o_y, .int .i64 false x_o_z, .int .i64 false x_d_x, .int .i64 false x_d_y, .int .i64 false x_d_z, .int .i64 false x_f]] = tr_ball_Hit c_x c_y c_z r x_o_x x_o_y x_o_z x_d_x x_d_y x_d_z x_f)).trans (run_ball_Hit c_x c_y c_z r x_o_x x_o_y x_o_z x_d_x x_d_y x_d_z x_f h_c_x h_c_y h_c_z h_r h_x_o_x h_x_o_y h_x_o_z h_x_d_x h_x_d_y h_x_d_z h_x_f)
  · cases h)
noncomputable def tab_ball_Hit : List (FuncId × Entry) := (66, e_ball_Hit) :: tab_skylightref12_Value
theorem tok_ball_Hit : TableOk Try.prog (table tab_ball_Hit) := table_cons ok_ball_Hit tok_skylightref12_Value

/-! skylightref12.Hit -/
def e_skylightref12_Hit : Entry := fun args => match args with | [.agg [.int .i64 false c_x, .int .i64 false c_y, .int .i64 false c_z], .int .i64 false r, .agg [.int .i64 false x_o_x, .int .i64 false x_o_y, .int .i64 false x_o_z, .int .i64 false x_d_x, .int .i64 false x_d_y, .int .i64 false x_d_z, .int .i64 false x_f]] => some (.leaf (.tuple [frA (hitN c_x c_y c_z r x_o_x x_o_y x_o_z x_d_x x_d_y x_d_z) (hitD c_x c_y c_z r x_o_x x_o_y x_o_z x_d_x x_d_y x_d_z), bb (hitOk c_x c_y c_z r x_o_x x_o_y x_o_z x_d_x x_d_y x_d_z)])) | _ => none
theorem ok_skylightref12_Hit : EntryOk Try.prog 67 e_skylightref12_Hit := entry_ok progOk (T := table tab_ball_Hit) tok_ball_Hit 16 12 noKnown (fun _ _ _ _ => noKnown_ok) (by
  intro args t v h hv
  unfold e_skylightref12_Hit at h
  split at h
  · cases h
    cases hv
    refine ⟨rfl, by kernel_rfl, fun φ cs hl => ?_⟩
    rename_i c_x c_y c_z r x_o_x x_o_y x_o_z x_d_x x_d_y x_d_z x_f
    obtain ⟨h_c_x, h_c_y, h_c_z, h_r, h_x_o_x, h_x_o_y, h_x_o_z, h_x_d_x, h_x_d_y, h_x_d_z, h_x_f, _⟩ : InR .i64 c_x ∧ InR .i64 c_y ∧ InR .i64 c_z ∧ InR .i64 r ∧ InR .i64 x_o_x ∧ InR .i64 x_o_y ∧ InR .i64 x_o_z ∧ InR .i64 x_d_x ∧ InR .i64 x_d_y ∧ InR .i64 x_d_z ∧ InR .i64 x_f ∧ True := rngL_of _ _ True hl trivial
    exact (congrArg Tr.run (by kernel_rfl : evV Try.prog (table tab_ball_Hit) 16 12 noKnown 67 [.agg [.int .i64 false c_x, .int .i64 false c_y, .int .i64 false c_z], .int .i64 false r, .agg [.int .i64 false x_o_x, .int .i64 false x_o_y, .int .i64 false x_o_z, .int .i64 false x_d_x, .int .i64 false x_d_y, .int .i64 false x_d_z, .int .i64 false x_f]] = tr_skylightref12_Hit c_x c_y c_z r x_o_x x_o_y x_o_z x_d_x x_d_y x_d_z x_f)).trans (run_skylightref12_Hit c_x c_y c_z r x_o_x x_o_y x_o_z x_d_x x_d_y x_d_z x_f h_c_x h_c_y h_c_z h_r h_x_o_x h_x_o_y h_x_o_z h_x_d_x h_x_d_y h_x_d_z h_x_f)
  · cases h)
noncomputable def tab_skylightref12_Hit : List (FuncId × Entry) := (67, e_skylightref12_Hit) :: tab_ball_Hit
theorem tok_skylightref12_Hit : TableOk Try.prog (table tab_skylightref12_Hit) := table_cons ok_skylightref12_Hit tok_ball_Hit

/-! ball.Through -/
def e_ball_Through : Entry := fun args => match args with | [.agg [.int .i64 false c_x, .int .i64 false c_y, .int .i64 false c_z], .int .i64 false r, .agg [.int .i64 false x_o_x, .int .i64 false x_o_y, .int .i64 false x_o_z, .int .i64 false x_d_x, .int .i64 false x_d_y, .int .i64 false x_d_z, .int .i64 false x_f]] => some (.leaf (.tuple [frA (thrN c_x c_y c_z r x_o_x x_o_y x_o_z x_d_x x_d_y x_d_z) (thrD c_x c_y c_z r x_o_x x_o_y x_o_z x_d_x x_d_y x_d_z), bb (thrOk c_x c_y c_z r x_o_x x_o_y x_o_z x_d_x x_d_y x_d_z)])) | _ => none
theorem ok_ball_Through : EntryOk Try.prog 68 e_ball_Through := entry_ok progOk (T := table tab_skylightref12_Hit) tok_skylightref12_Hit 16 12 noKnown (fun _ _ _ _ => noKnown_ok) (by
  intro args t v h hv
  unfold e_ball_Through at h
  split at h
  · cases h
    cases hv
    refine ⟨rfl, by kernel_rfl, fun φ cs hl => ?_⟩
    rename_i c_x c_y c_z r x_o_x x_o_y x_o_z x_d_x x_d_y x_d_z x_f
    obtain ⟨h_c_x, h_c_y, h_c_z, h_r, h_x_o_x, h_x_o_y, h_x_o_z, h_x_d_x, h_x_d_y, h_x_d_z, h_x_f, _⟩ : InR .i64 c_x ∧ InR .i64 c_y ∧ InR .i64 c_z ∧ InR .i64 r ∧ InR .i64 x_o_x ∧ InR .i64 x_o_y ∧ InR .i64 x_o_z ∧ InR .i64 x_d_x ∧ InR .i64 x_d_y ∧ InR .i64 x_d_z ∧ InR .i64 x_f ∧ True := rngL_of _ _ True hl trivial
    exact (congrArg Tr.run (by kernel_rfl : evV Try.prog (table tab_skylightref12_Hit) 16 12 noKnown 68 [.agg [.int .i64 false c_x, .int .i64 false c_y, .int .i64 false c_z], .int .i64 false r, .agg [.int .i64 false x_o_x, .int .i64 false x_o_y, .int .i64 false x_o_z, .int .i64 false x_d_x, .int .i64 false x_d_y, .int .i64 false x_d_z, .int .i64 false x_f]] = tr_ball_Through c_x c_y c_z r x_o_x x_o_y x_o_z x_d_x x_d_y x_d_z x_f)).trans (run_ball_Through c_x c_y c_z r x_o_x x_o_y x_o_z x_d_x x_d_y x_d_z x_f h_c_x h_c_y h_c_z h_r h_x_o_x h_x_o_y h_x_o_z h_x_d_x h_x_d_y h_x_d_z h_x_f)
  · cases h)
noncomputable def tab_ball_Through : List (FuncId × Entry) := (68, e_ball_Through) :: tab_skylightref12_Hit
theorem tok_ball_Through : TableOk Try.prog (table tab_ball_Through) := table_cons ok_ball_Through tok_skylightref12_Hit

/-! skylightref12.Through -/
def e_skylightref12_Through : Entry := fun args => match args with | [.agg [.int .i64 false c_x, .int .i64 false c_y, .int .i64 false c_z], .int .i64 false r, .agg [.int .i64 false x_o_x, .int .i64 false x_o_y, .int .i64 false x_o_z, .int .i64 false x_d_x, .int .i64 false x_d_y, .int .i64 false x_d_z, .int .i64 false x_f]] => some (.leaf (.tuple [frA (thrN c_x c_y c_z r x_o_x x_o_y x_o_z x_d_x x_d_y x_d_z) (thrD c_x c_y c_z r x_o_x x_o_y x_o_z x_d_x x_d_y x_d_z), bb (thrOk c_x c_y c_z r x_o_x x_o_y x_o_z x_d_x x_d_y x_d_z)])) | _ => none
theorem ok_skylightref12_Through : EntryOk Try.prog 69 e_skylightref12_Through := entry_ok progOk (T := table tab_ball_Through) tok_ball_Through 16 12 noKnown (fun _ _ _ _ => noKnown_ok) (by
  intro args t v h hv
  unfold e_skylightref12_Through at h
  split at h
  · cases h
    cases hv
    refine ⟨rfl, by kernel_rfl, fun φ cs hl => ?_⟩
    rename_i c_x c_y c_z r x_o_x x_o_y x_o_z x_d_x x_d_y x_d_z x_f
    obtain ⟨h_c_x, h_c_y, h_c_z, h_r, h_x_o_x, h_x_o_y, h_x_o_z, h_x_d_x, h_x_d_y, h_x_d_z, h_x_f, _⟩ : InR .i64 c_x ∧ InR .i64 c_y ∧ InR .i64 c_z ∧ InR .i64 r ∧ InR .i64 x_o_x ∧ InR .i64 x_o_y ∧ InR .i64 x_o_z ∧ InR .i64 x_d_x ∧ InR .i64 x_d_y ∧ InR .i64 x_d_z ∧ InR .i64 x_f ∧ True := rngL_of _ _ True hl trivial
    exact (congrArg Tr.run (by kernel_rfl : evV Try.prog (table tab_ball_Through) 16 12 noKnown 69 [.agg [.int .i64 false c_x, .int .i64 false c_y, .int .i64 false c_z], .int .i64 false r, .agg [.int .i64 false x_o_x, .int .i64 false x_o_y, .int .i64 false x_o_z, .int .i64 false x_d_x, .int .i64 false x_d_y, .int .i64 false x_d_z, .int .i64 false x_f]] = tr_skylightref12_Through c_x c_y c_z r x_o_x x_o_y x_o_z x_d_x x_d_y x_d_z x_f)).trans (run_skylightref12_Through c_x c_y c_z r x_o_x x_o_y x_o_z x_d_x x_d_y x_d_z x_f h_c_x h_c_y h_c_z h_r h_x_o_x h_x_o_y h_x_o_z h_x_d_x h_x_d_y h_x_d_z h_x_f)
  · cases h)
noncomputable def tab_skylightref12_Through : List (FuncId × Entry) := (69, e_skylightref12_Through) :: tab_ball_Through
theorem tok_skylightref12_Through : TableOk Try.prog (table tab_skylightref12_Through) := table_cons ok_skylightref12_Through tok_ball_Through

/-! ball.Normal -/
def e_ball_Normal : Entry := fun args => match args with | [.agg [.int .i64 false c_x, .int .i64 false c_y, .int .i64 false c_z], .agg [.int .i64 false p_x, .int .i64 false p_y, .int .i64 false p_z]] => some (.leaf (v3 (norC (p_x - c_x) 0 c_x c_y c_z p_x p_y p_z) (norC (p_y - c_y) 0 c_x c_y c_z p_x p_y p_z) (norC (p_z - c_z) 16384 c_x c_y c_z p_x p_y p_z))) | _ => none
theorem ok_ball_Normal : EntryOk Try.prog 72 e_ball_Normal := entry_ok progOk (T := table tab_skylightref12_Through) tok_skylightref12_Through 16 12 noKnown (fun _ _ _ _ => noKnown_ok) (by
  intro args t v h hv
  unfold e_ball_Normal at h
  split at h
  · cases h
    cases hv
    refine ⟨rfl, by kernel_rfl, fun φ cs hl => ?_⟩
    rename_i c_x c_y c_z p_x p_y p_z
    obtain ⟨h_c_x, h_c_y, h_c_z, h_p_x, h_p_y, h_p_z, _⟩ : InR .i64 c_x ∧ InR .i64 c_y ∧ InR .i64 c_z ∧ InR .i64 p_x ∧ InR .i64 p_y ∧ InR .i64 p_z ∧ True := rngL_of _ _ True hl trivial
    exact (congrArg Tr.run (by kernel_rfl : evV Try.prog (table tab_skylightref12_Through) 16 12 noKnown 72 [.agg [.int .i64 false c_x, .int .i64 false c_y, .int .i64 false c_z], .agg [.int .i64 false p_x, .int .i64 false p_y, .int .i64 false p_z]] = tr_ball_Normal c_x c_y c_z p_x p_y p_z)).trans (run_ball_Normal c_x c_y c_z p_x p_y p_z h_c_x h_c_y h_c_z h_p_x h_p_y h_p_z)
  · cases h)
noncomputable def tab_ball_Normal : List (FuncId × Entry) := (72, e_ball_Normal) :: tab_skylightref12_Through
theorem tok_ball_Normal : TableOk Try.prog (table tab_ball_Normal) := table_cons ok_ball_Normal tok_skylightref12_Through

/-! skylightref12.Normal -/
def e_skylightref12_Normal : Entry := fun args => match args with | [.agg [.int .i64 false c_x, .int .i64 false c_y, .int .i64 false c_z], .agg [.int .i64 false p_x, .int .i64 false p_y, .int .i64 false p_z]] => some (.leaf (v3 (norC (p_x - c_x) 0 c_x c_y c_z p_x p_y p_z) (norC (p_y - c_y) 0 c_x c_y c_z p_x p_y p_z) (norC (p_z - c_z) 16384 c_x c_y c_z p_x p_y p_z))) | _ => none
theorem ok_skylightref12_Normal : EntryOk Try.prog 73 e_skylightref12_Normal := entry_ok progOk (T := table tab_ball_Normal) tok_ball_Normal 16 12 noKnown (fun _ _ _ _ => noKnown_ok) (by
  intro args t v h hv
  unfold e_skylightref12_Normal at h
  split at h
  · cases h
    cases hv
    refine ⟨rfl, by kernel_rfl, fun φ cs hl => ?_⟩
    rename_i c_x c_y c_z p_x p_y p_z
    obtain ⟨h_c_x, h_c_y, h_c_z, h_p_x, h_p_y, h_p_z, _⟩ : InR .i64 c_x ∧ InR .i64 c_y ∧ InR .i64 c_z ∧ InR .i64 p_x ∧ InR .i64 p_y ∧ InR .i64 p_z ∧ True := rngL_of _ _ True hl trivial
    exact (congrArg Tr.run (by kernel_rfl : evV Try.prog (table tab_ball_Normal) 16 12 noKnown 73 [.agg [.int .i64 false c_x, .int .i64 false c_y, .int .i64 false c_z], .agg [.int .i64 false p_x, .int .i64 false p_y, .int .i64 false p_z]] = tr_skylightref12_Normal c_x c_y c_z p_x p_y p_z)).trans (run_skylightref12_Normal c_x c_y c_z p_x p_y p_z h_c_x h_c_y h_c_z h_p_x h_p_y h_p_z)
  · cases h)
noncomputable def tab_skylightref12_Normal : List (FuncId × Entry) := (73, e_skylightref12_Normal) :: tab_ball_Normal
theorem tok_skylightref12_Normal : TableOk Try.prog (table tab_skylightref12_Normal) := table_cons ok_skylightref12_Normal tok_ball_Normal

/-! ball.Inside -/
def e_ball_Inside : Entry := fun args => match args with | [.agg [.int .i64 false c_x, .int .i64 false c_y, .int .i64 false c_z], .int .i64 false r, .agg [.int .i64 false p_x, .int .i64 false p_y, .int .i64 false p_z]] => some (.leaf (bb (insB c_x c_y c_z r p_x p_y p_z))) | _ => none
theorem ok_ball_Inside : EntryOk Try.prog 74 e_ball_Inside := entry_ok progOk (T := table tab_skylightref12_Normal) tok_skylightref12_Normal 16 12 noKnown (fun _ _ _ _ => noKnown_ok) (by
  intro args t v h hv
  unfold e_ball_Inside at h
  split at h
  · cases h
    cases hv
    refine ⟨rfl, by kernel_rfl, fun φ cs hl => ?_⟩
    rename_i c_x c_y c_z r p_x p_y p_z
    obtain ⟨h_c_x, h_c_y, h_c_z, h_r, h_p_x, h_p_y, h_p_z, _⟩ : InR .i64 c_x ∧ InR .i64 c_y ∧ InR .i64 c_z ∧ InR .i64 r ∧ InR .i64 p_x ∧ InR .i64 p_y ∧ InR .i64 p_z ∧ True := rngL_of _ _ True hl trivial
    exact (congrArg Tr.run (by kernel_rfl : evV Try.prog (table tab_skylightref12_Normal) 16 12 noKnown 74 [.agg [.int .i64 false c_x, .int .i64 false c_y, .int .i64 false c_z], .int .i64 false r, .agg [.int .i64 false p_x, .int .i64 false p_y, .int .i64 false p_z]] = tr_ball_Inside c_x c_y c_z r p_x p_y p_z)).trans (run_ball_Inside c_x c_y c_z r p_x p_y p_z h_c_x h_c_y h_c_z h_r h_p_x h_p_y h_p_z)
  · cases h)
noncomputable def tab_ball_Inside : List (FuncId × Entry) := (74, e_ball_Inside) :: tab_skylightref12_Normal
theorem tok_ball_Inside : TableOk Try.prog (table tab_ball_Inside) := table_cons ok_ball_Inside tok_skylightref12_Normal

/-! skylightref12.Inside -/
def e_skylightref12_Inside : Entry := fun args => match args with | [.agg [.int .i64 false c_x, .int .i64 false c_y, .int .i64 false c_z], .int .i64 false r, .agg [.int .i64 false p_x, .int .i64 false p_y, .int .i64 false p_z]] => some (.leaf (bb (insB c_x c_y c_z r p_x p_y p_z))) | _ => none
theorem ok_skylightref12_Inside : EntryOk Try.prog 75 e_skylightref12_Inside := entry_ok progOk (T := table tab_ball_Inside) tok_ball_Inside 16 12 noKnown (fun _ _ _ _ => noKnown_ok) (by
  intro args t v h hv
  unfold e_skylightref12_Inside at h
  split at h
  · cases h
    cases hv
    refine ⟨rfl, by kernel_rfl, fun φ cs hl => ?_⟩
    rename_i c_x c_y c_z r p_x p_y p_z
    obtain ⟨h_c_x, h_c_y, h_c_z, h_r, h_p_x, h_p_y, h_p_z, _⟩ : InR .i64 c_x ∧ InR .i64 c_y ∧ InR .i64 c_z ∧ InR .i64 r ∧ InR .i64 p_x ∧ InR .i64 p_y ∧ InR .i64 p_z ∧ True := rngL_of _ _ True hl trivial
    exact (congrArg Tr.run (by kernel_rfl : evV Try.prog (table tab_ball_Inside) 16 12 noKnown 75 [.agg [.int .i64 false c_x, .int .i64 false c_y, .int .i64 false c_z], .int .i64 false r, .agg [.int .i64 false p_x, .int .i64 false p_y, .int .i64 false p_z]] = tr_skylightref12_Inside c_x c_y c_z r p_x p_y p_z)).trans (run_skylightref12_Inside c_x c_y c_z r p_x p_y p_z h_c_x h_c_y h_c_z h_r h_p_x h_p_y h_p_z)
  · cases h)
noncomputable def tab_skylightref12_Inside : List (FuncId × Entry) := (75, e_skylightref12_Inside) :: tab_ball_Inside
theorem tok_skylightref12_Inside : TableOk Try.prog (table tab_skylightref12_Inside) := table_cons ok_skylightref12_Inside tok_ball_Inside

end Go.Proofs.Ytfbakgcemnkcpaa

/- Entries of the table: what functions give. -/
set_option linter.unusedSimpArgs false
set_option linter.unusedVariables false
namespace Go.Proofs.Ytfbakgcemnkcpaa
open Go Go.Sky
set_option maxRecDepth 100000

/-! tri.Flat -/
def e_tri_Flat : Entry := fun args => match args with | [.agg [.int .i64 false a_x, .int .i64 false a_y, .int .i64 false a_z], .agg [.int .i64 false b_x, .int .i64 false b_y, .int .i64 false b_z], .agg [.int .i64 false c_x, .int .i64 false c_y, .int .i64 false c_z]] => some (.leaf (bb (flatB a_x a_y a_z b_x b_y b_z c_x c_y c_z))) | _ => none
theorem ok_tri_Flat : EntryOk Try.prog 86 e_tri_Flat := entry_ok progOk (T := table tab_skylightref12_Inside) tok_skylightref12_Inside 16 12 noKnown (fun _ _ _ _ => noKnown_ok) (by
  intro args t v h hv
  unfold e_tri_Flat at h
  split at h
  · cases h
    cases hv
    refine ⟨rfl, by kernel_rfl, fun φ cs hl => ?_⟩
    rename_i a_x a_y a_z b_x b_y b_z c_x c_y c_z
    obtain ⟨h_a_x, h_a_y, h_a_z, h_b_x, h_b_y, h_b_z, h_c_x, h_c_y, h_c_z, _⟩ : InR .i64 a_x ∧ InR .i64 a_y ∧ InR .i64 a_z ∧ InR .i64 b_x ∧ InR .i64 b_y ∧ InR .i64 b_z ∧ InR .i64 c_x ∧ InR .i64 c_y ∧ InR .i64 c_z ∧ True := rngL_of _ _ True hl trivial
    exact (congrArg Tr.run (by kernel_rfl : evV Try.prog (table tab_skylightref12_Inside) 16 12 noKnown 86 [.agg [.int .i64 false a_x, .int .i64 false a_y, .int .i64 false a_z], .agg [.int .i64 false b_x, .int .i64 false b_y, .int .i64 false b_z], .agg [.int .i64 false c_x, .int .i64 false c_y, .int .i64 false c_z]] = tr_tri_Flat a_x a_y a_z b_x b_y b_z c_x c_y c_z)).trans (run_tri_Flat a_x a_y a_z b_x b_y b_z c_x c_y c_z h_a_x h_a_y h_a_z h_b_x h_b_y h_b_z h_c_x h_c_y h_c_z)
  · cases h)
noncomputable def tab_tri_Flat : List (FuncId × Entry) := (86, e_tri_Flat) :: tab_skylightref12_Inside
theorem tok_tri_Flat : TableOk Try.prog (table tab_tri_Flat) := table_cons ok_tri_Flat tok_skylightref12_Inside

/-! skylightref11.Flat -/
def e_skylightref11_Flat : Entry := fun args => match args with | [.agg [.int .i64 false a_x, .int .i64 false a_y, .int .i64 false a_z], .agg [.int .i64 false b_x, .int .i64 false b_y, .int .i64 false b_z], .agg [.int .i64 false c_x, .int .i64 false c_y, .int .i64 false c_z]] => some (.leaf (bb (flatB a_x a_y a_z b_x b_y b_z c_x c_y c_z))) | _ => none
theorem ok_skylightref11_Flat : EntryOk Try.prog 87 e_skylightref11_Flat := entry_ok progOk (T := table tab_tri_Flat) tok_tri_Flat 16 12 noKnown (fun _ _ _ _ => noKnown_ok) (by
  intro args t v h hv
  unfold e_skylightref11_Flat at h
  split at h
  · cases h
    cases hv
    refine ⟨rfl, by kernel_rfl, fun φ cs hl => ?_⟩
    rename_i a_x a_y a_z b_x b_y b_z c_x c_y c_z
    obtain ⟨h_a_x, h_a_y, h_a_z, h_b_x, h_b_y, h_b_z, h_c_x, h_c_y, h_c_z, _⟩ : InR .i64 a_x ∧ InR .i64 a_y ∧ InR .i64 a_z ∧ InR .i64 b_x ∧ InR .i64 b_y ∧ InR .i64 b_z ∧ InR .i64 c_x ∧ InR .i64 c_y ∧ InR .i64 c_z ∧ True := rngL_of _ _ True hl trivial
    exact (congrArg Tr.run (by kernel_rfl : evV Try.prog (table tab_tri_Flat) 16 12 noKnown 87 [.agg [.int .i64 false a_x, .int .i64 false a_y, .int .i64 false a_z], .agg [.int .i64 false b_x, .int .i64 false b_y, .int .i64 false b_z], .agg [.int .i64 false c_x, .int .i64 false c_y, .int .i64 false c_z]] = tr_skylightref11_Flat a_x a_y a_z b_x b_y b_z c_x c_y c_z)).trans (run_skylightref11_Flat a_x a_y a_z b_x b_y b_z c_x c_y c_z h_a_x h_a_y h_a_z h_b_x h_b_y h_b_z h_c_x h_c_y h_c_z)
  · cases h)
noncomputable def tab_skylightref11_Flat : List (FuncId × Entry) := (87, e_skylightref11_Flat) :: tab_tri_Flat
theorem tok_skylightref11_Flat : TableOk Try.prog (table tab_skylightref11_Flat) := table_cons ok_skylightref11_Flat tok_tri_Flat

/-! tri.Normal -/
def e_tri_Normal : Entry := fun args => match args with | [.agg [.int .i64 false a_x, .int .i64 false a_y, .int .i64 false a_z], .agg [.int .i64 false b_x, .int .i64 false b_y, .int .i64 false b_z], .agg [.int .i64 false c_x, .int .i64 false c_y, .int .i64 false c_z]] => some (.leaf (.tuple [v3 (triU (upC a_y a_z b_y b_z c_y c_z) a_x a_y a_z b_x b_y b_z c_x c_y c_z) (triU (upC a_z a_x b_z b_x c_z c_x) a_x a_y a_z b_x b_y b_z c_x c_y c_z) (triU (upC a_x a_y b_x b_y c_x c_y) a_x a_y a_z b_x b_y b_z c_x c_y c_z), bb (triOk a_x a_y a_z b_x b_y b_z c_x c_y c_z)])) | _ => none
theorem ok_tri_Normal : EntryOk Try.prog 81 e_tri_Normal := entry_ok progOk (T := table tab_skylightref11_Flat) tok_skylightref11_Flat 16 12 noKnown (fun _ _ _ _ => noKnown_ok) (by
  intro args t v h hv
  unfold e_tri_Normal at h
  split at h
  · cases h
    cases hv
    refine ⟨rfl, by kernel_rfl, fun φ cs hl => ?_⟩
    rename_i a_x a_y a_z b_x b_y b_z c_x c_y c_z
    obtain ⟨h_a_x, h_a_y, h_a_z, h_b_x, h_b_y, h_b_z, h_c_x, h_c_y, h_c_z, _⟩ : InR .i64 a_x ∧ InR .i64 a_y ∧ InR .i64 a_z ∧ InR .i64 b_x ∧ InR .i64 b_y ∧ InR .i64 b_z ∧ InR .i64 c_x ∧ InR .i64 c_y ∧ InR .i64 c_z ∧ True := rngL_of _ _ True hl trivial
    exact (congrArg Tr.run (by kernel_rfl : evV Try.prog (table tab_skylightref11_Flat) 16 12 noKnown 81 [.agg [.int .i64 false a_x, .int .i64 false a_y, .int .i64 false a_z], .agg [.int .i64 false b_x, .int .i64 false b_y, .int .i64 false b_z], .agg [.int .i64 false c_x, .int .i64 false c_y, .int .i64 false c_z]] = tr_tri_Normal a_x a_y a_z b_x b_y b_z c_x c_y c_z)).trans (run_tri_Normal a_x a_y a_z b_x b_y b_z c_x c_y c_z h_a_x h_a_y h_a_z h_b_x h_b_y h_b_z h_c_x h_c_y h_c_z)
  · cases h)
noncomputable def tab_tri_Normal : List (FuncId × Entry) := (81, e_tri_Normal) :: tab_skylightref11_Flat
theorem tok_tri_Normal : TableOk Try.prog (table tab_tri_Normal) := table_cons ok_tri_Normal tok_skylightref11_Flat

/-! skylightref11.Normal -/
def e_skylightref11_Normal : Entry := fun args => match args with | [.agg [.int .i64 false a_x, .int .i64 false a_y, .int .i64 false a_z], .agg [.int .i64 false b_x, .int .i64 false b_y, .int .i64 false b_z], .agg [.int .i64 false c_x, .int .i64 false c_y, .int .i64 false c_z]] => some (.leaf (.tuple [v3 (triU (upC a_y a_z b_y b_z c_y c_z) a_x a_y a_z b_x b_y b_z c_x c_y c_z) (triU (upC a_z a_x b_z b_x c_z c_x) a_x a_y a_z b_x b_y b_z c_x c_y c_z) (triU (upC a_x a_y b_x b_y c_x c_y) a_x a_y a_z b_x b_y b_z c_x c_y c_z), bb (triOk a_x a_y a_z b_x b_y b_z c_x c_y c_z)])) | _ => none
theorem ok_skylightref11_Normal : EntryOk Try.prog 82 e_skylightref11_Normal := entry_ok progOk (T := table tab_tri_Normal) tok_tri_Normal 16 12 noKnown (fun _ _ _ _ => noKnown_ok) (by
  intro args t v h hv
  unfold e_skylightref11_Normal at h
  split at h
  · cases h
    cases hv
    refine ⟨rfl, by kernel_rfl, fun φ cs hl => ?_⟩
    rename_i a_x a_y a_z b_x b_y b_z c_x c_y c_z
    obtain ⟨h_a_x, h_a_y, h_a_z, h_b_x, h_b_y, h_b_z, h_c_x, h_c_y, h_c_z, _⟩ : InR .i64 a_x ∧ InR .i64 a_y ∧ InR .i64 a_z ∧ InR .i64 b_x ∧ InR .i64 b_y ∧ InR .i64 b_z ∧ InR .i64 c_x ∧ InR .i64 c_y ∧ InR .i64 c_z ∧ True := rngL_of _ _ True hl trivial
    exact (congrArg Tr.run (by kernel_rfl : evV Try.prog (table tab_tri_Normal) 16 12 noKnown 82 [.agg [.int .i64 false a_x, .int .i64 false a_y, .int .i64 false a_z], .agg [.int .i64 false b_x, .int .i64 false b_y, .int .i64 false b_z], .agg [.int .i64 false c_x, .int .i64 false c_y, .int .i64 false c_z]] = tr_skylightref11_Normal a_x a_y a_z b_x b_y b_z c_x c_y c_z)).trans (run_skylightref11_Normal a_x a_y a_z b_x b_y b_z c_x c_y c_z h_a_x h_a_y h_a_z h_b_x h_b_y h_b_z h_c_x h_c_y h_c_z)
  · cases h)
noncomputable def tab_skylightref11_Normal : List (FuncId × Entry) := (82, e_skylightref11_Normal) :: tab_tri_Normal
theorem tok_skylightref11_Normal : TableOk Try.prog (table tab_skylightref11_Normal) := table_cons ok_skylightref11_Normal tok_tri_Normal

/-! tri.Area -/
def e_tri_Area : Entry := fun args => match args with | [.agg [.int .i64 false a_x, .int .i64 false a_y, .int .i64 false a_z], .agg [.int .i64 false b_x, .int .i64 false b_y, .int .i64 false b_z], .agg [.int .i64 false c_x, .int .i64 false c_y, .int .i64 false c_z]] => some (.leaf (i6 (areaN a_x a_y a_z b_x b_y b_z c_x c_y c_z))) | _ => none
theorem ok_tri_Area : EntryOk Try.prog 88 e_tri_Area := entry_ok progOk (T := table tab_skylightref11_Normal) tok_skylightref11_Normal 16 12 noKnown (fun _ _ _ _ => noKnown_ok) (by
  intro args t v h hv
  unfold e_tri_Area at h
  split at h
  · cases h
    cases hv
    refine ⟨rfl, by kernel_rfl, fun φ cs hl => ?_⟩
    rename_i a_x a_y a_z b_x b_y b_z c_x c_y c_z
    obtain ⟨h_a_x, h_a_y, h_a_z, h_b_x, h_b_y, h_b_z, h_c_x, h_c_y, h_c_z, _⟩ : InR .i64 a_x ∧ InR .i64 a_y ∧ InR .i64 a_z ∧ InR .i64 b_x ∧ InR .i64 b_y ∧ InR .i64 b_z ∧ InR .i64 c_x ∧ InR .i64 c_y ∧ InR .i64 c_z ∧ True := rngL_of _ _ True hl trivial
    exact (congrArg Tr.run (by kernel_rfl : evV Try.prog (table tab_skylightref11_Normal) 16 12 noKnown 88 [.agg [.int .i64 false a_x, .int .i64 false a_y, .int .i64 false a_z], .agg [.int .i64 false b_x, .int .i64 false b_y, .int .i64 false b_z], .agg [.int .i64 false c_x, .int .i64 false c_y, .int .i64 false c_z]] = tr_tri_Area a_x a_y a_z b_x b_y b_z c_x c_y c_z)).trans (run_tri_Area a_x a_y a_z b_x b_y b_z c_x c_y c_z h_a_x h_a_y h_a_z h_b_x h_b_y h_b_z h_c_x h_c_y h_c_z)
  · cases h)
noncomputable def tab_tri_Area : List (FuncId × Entry) := (88, e_tri_Area) :: tab_skylightref11_Normal
theorem tok_tri_Area : TableOk Try.prog (table tab_tri_Area) := table_cons ok_tri_Area tok_skylightref11_Normal

/-! skylightref11.Area -/
def e_skylightref11_Area : Entry := fun args => match args with | [.agg [.int .i64 false a_x, .int .i64 false a_y, .int .i64 false a_z], .agg [.int .i64 false b_x, .int .i64 false b_y, .int .i64 false b_z], .agg [.int .i64 false c_x, .int .i64 false c_y, .int .i64 false c_z]] => some (.leaf (i6 (areaN a_x a_y a_z b_x b_y b_z c_x c_y c_z))) | _ => none
theorem ok_skylightref11_Area : EntryOk Try.prog 89 e_skylightref11_Area := entry_ok progOk (T := table tab_tri_Area) tok_tri_Area 16 12 noKnown (fun _ _ _ _ => noKnown_ok) (by
  intro args t v h hv
  unfold e_skylightref11_Area at h
  split at h
  · cases h
    cases hv
    refine ⟨rfl, by kernel_rfl, fun φ cs hl => ?_⟩
    rename_i a_x a_y a_z b_x b_y b_z c_x c_y c_z
    obtain ⟨h_a_x, h_a_y, h_a_z, h_b_x, h_b_y, h_b_z, h_c_x, h_c_y, h_c_z, _⟩ : InR .i64 a_x ∧ InR .i64 a_y ∧ InR .i64 a_z ∧ InR .i64 b_x ∧ InR .i64 b_y ∧ InR .i64 b_z ∧ InR .i64 c_x ∧ InR .i64 c_y ∧ InR .i64 c_z ∧ True := rngL_of _ _ True hl trivial
    exact (congrArg Tr.run (by kernel_rfl : evV Try.prog (table tab_tri_Area) 16 12 noKnown 89 [.agg [.int .i64 false a_x, .int .i64 false a_y, .int .i64 false a_z], .agg [.int .i64 false b_x, .int .i64 false b_y, .int .i64 false b_z], .agg [.int .i64 false c_x, .int .i64 false c_y, .int .i64 false c_z]] = tr_skylightref11_Area a_x a_y a_z b_x b_y b_z c_x c_y c_z)).trans (run_skylightref11_Area a_x a_y a_z b_x b_y b_z c_x c_y c_z h_a_x h_a_y h_a_z h_b_x h_b_y h_b_z h_c_x h_c_y h_c_z)
  · cases h)
noncomputable def tab_skylightref11_Area : List (FuncId × Entry) := (89, e_skylightref11_Area) :: tab_tri_Area
theorem tok_skylightref11_Area : TableOk Try.prog (table tab_skylightref11_Area) := table_cons ok_skylightref11_Area tok_tri_Area

/-! tri.Hit -/
def e_tri_Hit : Entry := fun args => match args with | [.agg [.int .i64 false a_x, .int .i64 false a_y, .int .i64 false a_z], .agg [.int .i64 false b_x, .int .i64 false b_y, .int .i64 false b_z], .agg [.int .i64 false c_x, .int .i64 false c_y, .int .i64 false c_z], .agg [.int .i64 false r_o_x, .int .i64 false r_o_y, .int .i64 false r_o_z, .int .i64 false r_d_x, .int .i64 false r_d_y, .int .i64 false r_d_z, .int .i64 false r_f]] => some (.leaf (.tuple [frA (tNum a_x a_y a_z b_x b_y b_z c_x c_y c_z r_o_x r_o_y r_o_z r_d_x r_d_y r_d_z) (tDen a_x a_y a_z b_x b_y b_z c_x c_y c_z r_o_x r_o_y r_o_z r_d_x r_d_y r_d_z), bb (tOk a_x a_y a_z b_x b_y b_z c_x c_y c_z r_o_x r_o_y r_o_z r_d_x r_d_y r_d_z)])) | _ => none
theorem ok_tri_Hit : EntryOk Try.prog 83 e_tri_Hit := entry_ok progOk (T := table tab_skylightref11_Area) tok_skylightref11_Area 16 12 noKnown (fun _ _ _ _ => noKnown_ok) (by
  intro args t v h hv
  unfold e_tri_Hit at h
  split at h
  · cases h
    cases hv
    refine ⟨rfl, by kernel_rfl, fun φ cs hl => ?_⟩
    rename_i a_x a_y a_z b_x b_y b_z c_x c_y c_z r_o_x r_o_y r_o_z r_d_x r_d_y r_d_z r_f
    obtain ⟨h_a_x, h_a_y, h_a_z, h_b_x, h_b_y, h_b_z, h_c_x, h_c_y, h_c_z, h_r_o_x, h_r_o_y, h_r_o_z, h_r_d_x, h_r_d_y, h_r_d_z, h_r_f, _⟩ : InR .i64 a_x ∧ InR .i64 a_y ∧ InR .i64 a_z ∧ InR .i64 b_x ∧ InR .i64 b_y ∧ InR .i64 b_z ∧ InR .i64 c_x ∧ InR .i64 c_y ∧ InR .i64 c_z ∧ InR .i64 r_o_x ∧ InR .i64 r_o_y ∧ InR .i64 r_o_z ∧ InR .i64 r_d_x ∧ InR .i64 r_d_y ∧ InR .i64 r_d_z ∧ InR .i64 r_f ∧ True := rngL_of _ _ True hl trivial
    exact (congrArg Tr.run (by kernel_rfl : evV Try.prog (table tab_skylightref11_Area) 16 12 noKnown 83 [.agg [.int .i64 false a_x, .int .i64 false a_y, .int .i64 false a_z], .agg [.int .i64 false b_x, .int .i64 false b_y, .int .i64 false b_z], .agg [.int .i64 false c_x, .int .i64 false c_y, .int .i64 false c_z], .agg [.int .i64 false r_o_x, .int .i64 false r_o_y, .int .i64 false r_o_z, .int .i64 false r_d_x, .int .i64 false r_d_y, .int .i64 false r_d_z, .int .i64 false r_f]] = tr_tri_Hit a_x a_y a_z b_x b_y b_z c_x c_y c_z r_o_x r_o_y r_o_z r_d_x r_d_y r_d_z r_f)).trans (run_tri_Hit a_x a_y a_z b_x b_y b_z c_x c_y c_z r_o_x r_o_y r_o_z r_d_x r_d_y r_d_z r_f h_a_x h_a_y h_a_z h_b_x h_b_y h_b_z h_c_x h_c_y h_c_z h_r_o_x h_r_o_y h_r_o_z h_r_d_x h_r_d_y h_r_d_z h_r_f)
  · cases h)
noncomputable def tab_tri_Hit : List (FuncId × Entry) := (83, e_tri_Hit) :: tab_skylightref11_Area
theorem tok_tri_Hit : TableOk Try.prog (table tab_tri_Hit) := table_cons ok_tri_Hit tok_skylightref11_Area

/-! skylightref11.Hit -/
def e_skylightref11_Hit : Entry := fun args => match args with | [.agg [.int .i64 false a_x, .int .i64 false a_y, .int .i64 false a_z], .agg [.int .i64 false b_x, .int .i64 false b_y, .int .i64 false b_z], .agg [.int .i64 false c_x, .int .i64 false c_y, .int .i64 false c_z], .agg [.int .i64 false r_o_x, .int .i64 false r_o_y, .int .i64 false r_o_z, .int .i64 false r_d_x, .int .i64 false r_d_y, .int .i64 false r_d_z, .int .i64 false r_f]] => some (.leaf (.tuple [frA (tNum a_x a_y a_z b_x b_y b_z c_x c_y c_z r_o_x r_o_y r_o_z r_d_x r_d_y r_d_z) (tDen a_x a_y a_z b_x b_y b_z c_x c_y c_z r_o_x r_o_y r_o_z r_d_x r_d_y r_d_z), bb (tOk a_x a_y a_z b_x b_y b_z c_x c_y c_z r_o_x r_o_y r_o_z r_d_x r_d_y r_d_z)])) | _ => none
theorem ok_skylightref11_Hit : EntryOk Try.prog 84 e_skylightref11_Hit := entry_ok progOk (T := table tab_tri_Hit) tok_tri_Hit 16 12 noKnown (fun _ _ _ _ => noKnown_ok) (by
  intro args t v h hv
  unfold e_skylightref11_Hit at h
  split at h
  · cases h
    cases hv
    refine ⟨rfl, by kernel_rfl, fun φ cs hl => ?_⟩
    rename_i a_x a_y a_z b_x b_y b_z c_x c_y c_z r_o_x r_o_y r_o_z r_d_x r_d_y r_d_z r_f
    obtain ⟨h_a_x, h_a_y, h_a_z, h_b_x, h_b_y, h_b_z, h_c_x, h_c_y, h_c_z, h_r_o_x, h_r_o_y, h_r_o_z, h_r_d_x, h_r_d_y, h_r_d_z, h_r_f, _⟩ : InR .i64 a_x ∧ InR .i64 a_y ∧ InR .i64 a_z ∧ InR .i64 b_x ∧ InR .i64 b_y ∧ InR .i64 b_z ∧ InR .i64 c_x ∧ InR .i64 c_y ∧ InR .i64 c_z ∧ InR .i64 r_o_x ∧ InR .i64 r_o_y ∧ InR .i64 r_o_z ∧ InR .i64 r_d_x ∧ InR .i64 r_d_y ∧ InR .i64 r_d_z ∧ InR .i64 r_f ∧ True := rngL_of _ _ True hl trivial
    exact (congrArg Tr.run (by kernel_rfl : evV Try.prog (table tab_tri_Hit) 16 12 noKnown 84 [.agg [.int .i64 false a_x, .int .i64 false a_y, .int .i64 false a_z], .agg [.int .i64 false b_x, .int .i64 false b_y, .int .i64 false b_z], .agg [.int .i64 false c_x, .int .i64 false c_y, .int .i64 false c_z], .agg [.int .i64 false r_o_x, .int .i64 false r_o_y, .int .i64 false r_o_z, .int .i64 false r_d_x, .int .i64 false r_d_y, .int .i64 false r_d_z, .int .i64 false r_f]] = tr_skylightref11_Hit a_x a_y a_z b_x b_y b_z c_x c_y c_z r_o_x r_o_y r_o_z r_d_x r_d_y r_d_z r_f)).trans (run_skylightref11_Hit a_x a_y a_z b_x b_y b_z c_x c_y c_z r_o_x r_o_y r_o_z r_d_x r_d_y r_d_z r_f h_a_x h_a_y h_a_z h_b_x h_b_y h_b_z h_c_x h_c_y h_c_z h_r_o_x h_r_o_y h_r_o_z h_r_d_x h_r_d_y h_r_d_z h_r_f)
  · cases h)
noncomputable def tab_skylightref11_Hit : List (FuncId × Entry) := (84, e_skylightref11_Hit) :: tab_tri_Hit
theorem tok_skylightref11_Hit : TableOk Try.prog (table tab_skylightref11_Hit) := table_cons ok_skylightref11_Hit tok_tri_Hit

/-! tri.At -/
def e_tri_At : Entry := fun args => match args with | [.agg [.int .i64 false a_x, .int .i64 false a_y, .int .i64 false a_z], .agg [.int .i64 false b_x, .int .i64 false b_y, .int .i64 false b_z], .agg [.int .i64 false c_x, .int .i64 false c_y, .int .i64 false c_z], .int .i64 false u, .int .i64 false v] => some (.leaf (v3 (ptC a_x b_x c_x a_x a_y a_z b_x b_y b_z c_x c_y c_z u v) (ptC a_y b_y c_y a_x a_y a_z b_x b_y b_z c_x c_y c_z u v) (ptC a_z b_z c_z a_x a_y a_z b_x b_y b_z c_x c_y c_z u v))) | _ => none
theorem ok_tri_At : EntryOk Try.prog 90 e_tri_At := entry_ok progOk (T := table tab_skylightref11_Hit) tok_skylightref11_Hit 16 12 noKnown (fun _ _ _ _ => noKnown_ok) (by
  intro args t v h hv
  unfold e_tri_At at h
  split at h
  · cases h
    cases hv
    refine ⟨rfl, by kernel_rfl, fun φ cs hl => ?_⟩
    rename_i a_x a_y a_z b_x b_y b_z c_x c_y c_z u v
    obtain ⟨h_a_x, h_a_y, h_a_z, h_b_x, h_b_y, h_b_z, h_c_x, h_c_y, h_c_z, h_u, h_v, _⟩ : InR .i64 a_x ∧ InR .i64 a_y ∧ InR .i64 a_z ∧ InR .i64 b_x ∧ InR .i64 b_y ∧ InR .i64 b_z ∧ InR .i64 c_x ∧ InR .i64 c_y ∧ InR .i64 c_z ∧ InR .i64 u ∧ InR .i64 v ∧ True := rngL_of _ _ True hl trivial
    exact (congrArg Tr.run (by kernel_rfl : evV Try.prog (table tab_skylightref11_Hit) 16 12 noKnown 90 [.agg [.int .i64 false a_x, .int .i64 false a_y, .int .i64 false a_z], .agg [.int .i64 false b_x, .int .i64 false b_y, .int .i64 false b_z], .agg [.int .i64 false c_x, .int .i64 false c_y, .int .i64 false c_z], .int .i64 false u, .int .i64 false v] = tr_tri_At a_x a_y a_z b_x b_y b_z c_x c_y c_z u v)).trans (run_tri_At a_x a_y a_z b_x b_y b_z c_x c_y c_z u v h_a_x h_a_y h_a_z h_b_x h_b_y h_b_z h_c_x h_c_y h_c_z h_u h_v)
  · cases h)
noncomputable def tab_tri_At : List (FuncId × Entry) := (90, e_tri_At) :: tab_skylightref11_Hit
theorem tok_tri_At : TableOk Try.prog (table tab_tri_At) := table_cons ok_tri_At tok_skylightref11_Hit

/-! skylightref11.At -/
def e_skylightref11_At : Entry := fun args => match args with | [.agg [.int .i64 false a_x, .int .i64 false a_y, .int .i64 false a_z], .agg [.int .i64 false b_x, .int .i64 false b_y, .int .i64 false b_z], .agg [.int .i64 false c_x, .int .i64 false c_y, .int .i64 false c_z], .int .i64 false u, .int .i64 false v] => some (.leaf (v3 (ptC a_x b_x c_x a_x a_y a_z b_x b_y b_z c_x c_y c_z u v) (ptC a_y b_y c_y a_x a_y a_z b_x b_y b_z c_x c_y c_z u v) (ptC a_z b_z c_z a_x a_y a_z b_x b_y b_z c_x c_y c_z u v))) | _ => none
theorem ok_skylightref11_At : EntryOk Try.prog 91 e_skylightref11_At := entry_ok progOk (T := table tab_tri_At) tok_tri_At 16 12 noKnown (fun _ _ _ _ => noKnown_ok) (by
  intro args t v h hv
  unfold e_skylightref11_At at h
  split at h
  · cases h
    cases hv
    refine ⟨rfl, by kernel_rfl, fun φ cs hl => ?_⟩
    rename_i a_x a_y a_z b_x b_y b_z c_x c_y c_z u v
    obtain ⟨h_a_x, h_a_y, h_a_z, h_b_x, h_b_y, h_b_z, h_c_x, h_c_y, h_c_z, h_u, h_v, _⟩ : InR .i64 a_x ∧ InR .i64 a_y ∧ InR .i64 a_z ∧ InR .i64 b_x ∧ InR .i64 b_y ∧ InR .i64 b_z ∧ InR .i64 c_x ∧ InR .i64 c_y ∧ InR .i64 c_z ∧ InR .i64 u ∧ InR .i64 v ∧ True := rngL_of _ _ True hl trivial
    exact (congrArg Tr.run (by kernel_rfl : evV Try.prog (table tab_tri_At) 16 12 noKnown 91 [.agg [.int .i64 false a_x, .int .i64 false a_y, .int .i64 false a_z], .agg [.int .i64 false b_x, .int .i64 false b_y, .int .i64 false b_z], .agg [.int .i64 false c_x, .int .i64 false c_y, .int .i64 false c_z], .int .i64 false u, .int .i64 false v] = tr_skylightref11_At a_x a_y a_z b_x b_y b_z c_x c_y c_z u v)).trans (run_skylightref11_At a_x a_y a_z b_x b_y b_z c_x c_y c_z u v h_a_x h_a_y h_a_z h_b_x h_b_y h_b_z h_c_x h_c_y h_c_z h_u h_v)
  · cases h)
noncomputable def tab_skylightref11_At : List (FuncId × Entry) := (91, e_skylightref11_At) :: tab_tri_At
theorem tok_skylightref11_At : TableOk Try.prog (table tab_skylightref11_At) := table_cons ok_skylightref11_At tok_tri_At

end Go.Proofs.Ytfbakgcemnkcpaa

/- Entries of the table: what functions give. -/
set_option linter.unusedSimpArgs false
set_option linter.unusedVariables false
namespace Go.Proofs.Ytfbakgcemnkcpaa
open Go Go.Sky
set_option maxRecDepth 100000

/-! skylightlaw11.TriMet -/
def e_skylightlaw11_TriMet : Entry := fun args => match args with | [.agg [.int .i64 false a_x, .int .i64 false a_y, .int .i64 false a_z], .agg [.int .i64 false b_x, .int .i64 false b_y, .int .i64 false b_z], .agg [.int .i64 false c_x, .int .i64 false c_y, .int .i64 false c_z], .agg [.int .i64 false o_x, .int .i64 false o_y, .int .i64 false o_z], .int .u8 false x, .int .u8 false y, .int .u8 false z] => some (.leaf (bb true)) | _ => none
theorem ok_skylightlaw11_TriMet : EntryOk Try.prog 13 e_skylightlaw11_TriMet := entry_ok progOk (T := table tab_skylightref11_At) tok_skylightref11_At 16 12 noKnown (fun _ _ _ _ => noKnown_ok) (by
  intro args t v h hv
  unfold e_skylightlaw11_TriMet at h
  split at h
  · cases h
    cases hv
    refine ⟨rfl, by kernel_rfl, fun φ cs hl => ?_⟩
    rename_i a_x a_y a_z b_x b_y b_z c_x c_y c_z o_x o_y o_z x y z
    obtain ⟨h_a_x, h_a_y, h_a_z, h_b_x, h_b_y, h_b_z, h_c_x, h_c_y, h_c_z, h_o_x, h_o_y, h_o_z, h_x, h_y, h_z, _⟩ : InR .i64 a_x ∧ InR .i64 a_y ∧ InR .i64 a_z ∧ InR .i64 b_x ∧ InR .i64 b_y ∧ InR .i64 b_z ∧ InR .i64 c_x ∧ InR .i64 c_y ∧ InR .i64 c_z ∧ InR .i64 o_x ∧ InR .i64 o_y ∧ InR .i64 o_z ∧ InR .u8 x ∧ InR .u8 y ∧ InR .u8 z ∧ True := rngL_of _ _ True hl trivial
    exact (congrArg Tr.run (by kernel_rfl : evV Try.prog (table tab_skylightref11_At) 16 12 noKnown 13 [.agg [.int .i64 false a_x, .int .i64 false a_y, .int .i64 false a_z], .agg [.int .i64 false b_x, .int .i64 false b_y, .int .i64 false b_z], .agg [.int .i64 false c_x, .int .i64 false c_y, .int .i64 false c_z], .agg [.int .i64 false o_x, .int .i64 false o_y, .int .i64 false o_z], .int .u8 false x, .int .u8 false y, .int .u8 false z] = tr_skylightlaw11_TriMet a_x a_y a_z b_x b_y b_z c_x c_y c_z o_x o_y o_z x y z)).trans (run_skylightlaw11_TriMet a_x a_y a_z b_x b_y b_z c_x c_y c_z o_x o_y o_z x y z h_a_x h_a_y h_a_z h_b_x h_b_y h_b_z h_c_x h_c_y h_c_z h_o_x h_o_y h_o_z h_x h_y h_z)
  · cases h)
noncomputable def tab_skylightlaw11_TriMet : List (FuncId × Entry) := (13, e_skylightlaw11_TriMet) :: tab_skylightref11_At
theorem tok_skylightlaw11_TriMet : TableOk Try.prog (table tab_skylightlaw11_TriMet) := table_cons ok_skylightlaw11_TriMet tok_skylightref11_At

end Go.Proofs.Ytfbakgcemnkcpaa
