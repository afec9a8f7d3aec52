/-
  DERIVED: THE SHELF's CONTRACTS AT THIS DUMP, IN PLAIN WORDS (tools/lay-plain.mjs out of 'TryzShelf.lean', which tools/lay-shelf.mjs wrote): THE SAME DECLARATIONS UNDER THE SAME NAMES: 'import', 'namespace', 'open', 'def', 'theorem' AND NOTHING ELSE: no command of the shelf's: FOR A HAND-IN. Each laying: the table of numbers ('.._ren') and one theorem, a field a fact of the dump's own or the kernel's comparison; each contract: ONE APPLICATION.
-/
import Derived.Shelf.Small.Bits
import Derived.Shelf.Small.Wraps
import Derived.Shelf.Strconv.Itoa0
import Derived.Shelf.Bits.Mul64
import Derived.Ground.Names2Prog
import Derived.Shelf.Slices.SearchI
import Derived.Test.YtpljpbmkklcbkaaGreatProg
import Derived.Test.YtpljpbmkklcbkaaGreatQb0da2dee
namespace Go.Proofs
open Go.Shelf
def Tryz.lays134_ren : Go.Shelf.Ren := ⟨fun | 134 => 232 | 129 => 213 | n => n, fun | 53 => 46 | 3 => 3 | 4 => 4 | 46 => 162 | 5 => 5 | 9 => 9 | n => n, fun | n => n⟩
theorem Tryz.lays134 : Go.Proofs.Lays.n134 Tryz.prog Tryz.lays134_ren := {
  mixed := by kernel_rfl
  f129 := Tryz.func213.trans (congrArg some (by kernel_rfl))
  f134 := Tryz.func232.trans (congrArg some (by kernel_rfl))
  t3 := Tryz.underlying3
  a3 := Tryz.isAgg3
  z3 := Tryz.sizeOf3
  v3 := Tryz.zeroValue3
  t4 := Tryz.underlying4
  a4 := Tryz.isAgg4
  z4 := Tryz.sizeOf4
  v4 := Tryz.zeroValue4
  t5 := Tryz.underlying5
  a5 := Tryz.isAgg5
  z5 := Tryz.sizeOf5
  v5 := Tryz.zeroValue5
  t9 := Tryz.underlying9
  a9 := Tryz.isAgg9
  z9 := Tryz.sizeOf9
  v9 := Tryz.zeroValue9
  t46 := Tryz.underlying162
  a46 := Tryz.isAgg162
  z46 := Tryz.sizeOf162
  v46 := Tryz.zeroValue162
  t53 := Tryz.underlying46
  a53 := Tryz.isAgg46
  z53 := Tryz.sizeOf46
  v53 := Tryz.zeroValue46 }
/-- bits.LeadingZeros64: "LeadingZeros64 returns the number of leading zero bits in x; the result is 64 for x == 0.": IT RETURNS '64 - Lib.bitLen x'; the world is as it was. ITS CALLEE bits.Len64 IS MET BY ITS OWN CONTRACT OFF THE SHELF (lay that first): entered in place it sends the kernel out of memory. (LAID: no walk: one application.) -/
theorem Tryz.bits_LeadingZeros64 (x : Int) (w : World) (h0 : 0 ≤ x) (h1 : x ≤ 18446744073709551615) :
    Calls Tryz.prog 232 #[.int .u64 x] w fun e w' => e = .returned (.int .i64 (64 - (Lib.bitLen x.toNat : Int))) ∧ w' = w := Any.bits_LeadingZeros64 Tryz.lays134 x w h0 h1
def Tryz.lays215_ren : Go.Shelf.Ren := ⟨fun | 215 => 164 | n => n, fun | 3 => 3 | 4 => 4 | n => n, fun | n => n⟩
theorem Tryz.lays215 : Go.Proofs.Lays.n215 Tryz.prog Tryz.lays215_ren := {
  mixed := by kernel_rfl
  f215 := Tryz.func164.trans (congrArg some (by kernel_rfl))
  t3 := Tryz.underlying3
  a3 := Tryz.isAgg3
  z3 := Tryz.sizeOf3
  v3 := Tryz.zeroValue3
  t4 := Tryz.underlying4
  a4 := Tryz.isAgg4
  z4 := Tryz.sizeOf4
  v4 := Tryz.zeroValue4 }
open Go.RowKit in
/-- cmp.isNaN at int: 'x != x': false. (LAID: no walk: one application.) -/
theorem Tryz.cmp_isNaN_int (x : Int) (w : World) :
    Calls Tryz.prog 164 #[.int .i64 x] w fun e w' => e = .returned (.bool false) ∧ w' = w := Any.cmp_isNaN_int Tryz.lays215 x w
def Tryz.lays122_ren : Go.Shelf.Ren := ⟨fun | 122 => 109 | 215 => 164 | n => n, fun | 3 => 3 | 4 => 4 | n => n, fun | n => n⟩
theorem Tryz.lays122 : Go.Proofs.Lays.n122 Tryz.prog Tryz.lays122_ren := {
  mixed := by kernel_rfl
  f122 := Tryz.func109.trans (congrArg some (by kernel_rfl))
  f215 := Tryz.func164.trans (congrArg some (by kernel_rfl))
  t3 := Tryz.underlying3
  a3 := Tryz.isAgg3
  z3 := Tryz.sizeOf3
  v3 := Tryz.zeroValue3
  t4 := Tryz.underlying4
  a4 := Tryz.isAgg4
  z4 := Tryz.sizeOf4
  v4 := Tryz.zeroValue4 }
open Go.RowKit in
/-- cmp.Compare at int: "Compare returns -1 if x is less than y, 0 if x equals y, +1 if x is greater than y.": IT RETURNS 'Lib.compareInt x y'; the world is as it was. (LAID: no walk: one application.) -/
theorem Tryz.cmp_Compare_int (x y : Int) (w : World) :
    Calls Tryz.prog 109 #[.int .i64 x, .int .i64 y] w fun e w' => e = .returned (.int .i64 (Lib.compareInt x y)) ∧ w' = w := Any.cmp_Compare_int Tryz.lays122 x y w
def Tryz.lays129_ren : Go.Shelf.Ren := ⟨fun | 129 => 213 | n => n, fun | 53 => 46 | 3 => 3 | 4 => 4 | 46 => 162 | 5 => 5 | 9 => 9 | n => n, fun | n => n⟩
theorem Tryz.lays129 : Go.Proofs.Lays.n129 Tryz.prog Tryz.lays129_ren := {
  mixed := by kernel_rfl
  f129 := Tryz.func213.trans (congrArg some (by kernel_rfl))
  t3 := Tryz.underlying3
  a3 := Tryz.isAgg3
  z3 := Tryz.sizeOf3
  v3 := Tryz.zeroValue3
  t4 := Tryz.underlying4
  a4 := Tryz.isAgg4
  z4 := Tryz.sizeOf4
  v4 := Tryz.zeroValue4
  t5 := Tryz.underlying5
  a5 := Tryz.isAgg5
  z5 := Tryz.sizeOf5
  v5 := Tryz.zeroValue5
  t9 := Tryz.underlying9
  a9 := Tryz.isAgg9
  z9 := Tryz.sizeOf9
  v9 := Tryz.zeroValue9
  t46 := Tryz.underlying162
  a46 := Tryz.isAgg162
  z46 := Tryz.sizeOf162
  v46 := Tryz.zeroValue162
  t53 := Tryz.underlying46
  a53 := Tryz.isAgg46
  z53 := Tryz.sizeOf46
  v53 := Tryz.zeroValue46 }
/-- bits.Len64: "Len64 returns the minimum number of bits required to represent x; the result is 0 for x == 0.": IT RETURNS 'Lib.bitLen x'; the world is as it was. ('h0', 'h1': x is a uint64.) (LAID: no walk: one application.) -/
theorem Tryz.bits_Len64 (x : Int) (w : World) (h0 : 0 ≤ x) (h1 : x ≤ 18446744073709551615) :
    Calls Tryz.prog 213 #[.int .u64 x] w fun e w' => e = .returned (.int .i64 (Lib.bitLen x.toNat)) ∧ w' = w := Any.bits_Len64 Tryz.lays129 x w h0 h1
def Tryz.lays264_ren : Go.Shelf.Ren := ⟨fun | 264 => 181 | n => n, fun | 53 => 46 | 46 => 162 | n => n, fun | n => n⟩
theorem Tryz.lays264 : Go.Proofs.Lays.n264 Tryz.prog Tryz.lays264_ren := {
  mixed := by kernel_rfl
  f264 := Tryz.func181.trans (congrArg some (by kernel_rfl))
  t46 := Tryz.underlying162
  a46 := Tryz.isAgg162
  z46 := Tryz.sizeOf162
  v46 := Tryz.zeroValue162
  t53 := Tryz.underlying46
  a53 := Tryz.isAgg46
  z53 := Tryz.sizeOf46
  v53 := Tryz.zeroValue46 }
open Go.RowKit Go.Lib in
theorem Tryz.bits_Mul64 (x y : Nat) (hx : x < 18446744073709551616) (hy : y < 18446744073709551616) (w : World) :
    Calls Tryz.prog 181 #[.int .u64 x, .int .u64 y] w fun e w' => e = .returned (.tuple #[.int .u64 ((x * y / 18446744073709551616 : Nat) : Int), .int .u64 ((x * y % 18446744073709551616 : Nat) : Int)]) ∧ w' = w := Any.bits_Mul64 Tryz.lays264 x y hx hy w
def Tryz.laysNm237_ren : Go.Shelf.Ren := ⟨fun | 37 => 164 | n => n, fun | 3 => 3 | 4 => 4 | n => n, fun | n => n⟩
theorem Tryz.laysNm237 : Go.Proofs.Lays2.n37 Tryz.prog Tryz.laysNm237_ren := {
  mixed := by kernel_rfl
  f37 := Tryz.func164.trans (congrArg some (by kernel_rfl))
  t3 := Tryz.underlying3
  a3 := Tryz.isAgg3
  z3 := Tryz.sizeOf3
  v3 := Tryz.zeroValue3
  t4 := Tryz.underlying4
  a4 := Tryz.isAgg4
  z4 := Tryz.sizeOf4
  v4 := Tryz.zeroValue4 }
open Go.RowKit Go.Lib in
/-- cmp.isNaN[int]: 'x != x': false. (LAID: no walk: one application.) -/
theorem Tryz.cmp_isNaN_int2 (x : Int) (w : World) :
    Calls Tryz.prog 164 #[.int .i64 x] w fun e w' => e = .returned (.bool false) ∧ w' = w := Any.cmp_isNaN_int2 Tryz.laysNm237 x w
end Go.Proofs

/- Entries of the table: what functions give. -/
set_option linter.unusedSimpArgs false
set_option linter.unusedVariables false
namespace Go.Proofs.YtpljpbmkklcbkaaGreat
open Go Go.Sky
set_option maxRecDepth 100000
theorem progOk : ProgOk Tryz.prog := ⟨by kernel_rfl, by kernel_rfl⟩

/-! math/bits.Mul64 -/
def e_math_bits_Mul64 : Entry := fun args => match args with | [.int .u64 false x, .int .u64 false y] => some (.leaf (.tuple [u6 (x*y/18446744073709551616), u6 (x*y%18446744073709551616)])) | _ => none
theorem ok_math_bits_Mul64 : EntryOk Tryz.prog 181 e_math_bits_Mul64 := by
  refine entry_calls progOk (by kernel_rfl) ?_
  intro args t v h ht φ cs hl
  unfold e_math_bits_Mul64 at h
  split at h
  · cases h
    cases ht
    obtain ⟨rfl, hx, hy⟩ := ints2 hl
    rename_i x y
    obtain ⟨hx0, hx1⟩ := inR_u64.1 hx
    obtain ⟨hy0, hy1⟩ := inR_u64.1 hy
    obtain ⟨X, rfl⟩ := Int.eq_ofNat_of_zero_le hx0
    obtain ⟨Y, rfl⟩ := Int.eq_ofNat_of_zero_le hy0
    refine ⟨_, ?_, fun w => Tryz.bits_Mul64 X Y (by omega) (by omega) w⟩
    have h1 : X * Y < 18446744073709551616 * 18446744073709551616 := Nat.mul_lt_mul'' (by omega) (by omega)
    have h2 : X * Y / 18446744073709551616 < 18446744073709551616 := Nat.div_lt_of_lt_mul h1
    rw [Int.natCast_ediv, Int.natCast_emod, Int.natCast_mul]
    exact rel_pair (inR_u64.2 ⟨by omega, by omega⟩) (inR_u64.2 ⟨by omega, by omega⟩)
  · cases h
noncomputable def tab_math_bits_Mul64 : List (FuncId × Entry) := (181, e_math_bits_Mul64) :: []
theorem tok_math_bits_Mul64 : TableOk Tryz.prog (table tab_math_bits_Mul64) := table_cons ok_math_bits_Mul64 table_nil

/-! math/bits.Len64 -/
def e_math_bits_Len64 : Entry := fun args => match args with | [.int .u64 false x] => some (.leaf (i6 (Lib.bitLen x.toNat))) | _ => none
theorem ok_math_bits_Len64 : EntryOk Tryz.prog 213 e_math_bits_Len64 := by
  refine entry_calls progOk (by kernel_rfl) ?_
  intro args t v h ht φ cs hl
  unfold e_math_bits_Len64 at h
  split at h
  · cases h
    cases ht
    obtain ⟨rfl, hx⟩ := ints1 hl
    rename_i x
    obtain ⟨hx0, hx1⟩ := inR_u64.1 hx
    refine ⟨_, ?_, fun w => Tryz.bits_Len64 x w hx0 hx1⟩
    exact rel_int (inR_i64.2 (bitLen_r x hx0 hx1))
  · cases h
noncomputable def tab_math_bits_Len64 : List (FuncId × Entry) := (213, e_math_bits_Len64) :: tab_math_bits_Mul64
theorem tok_math_bits_Len64 : TableOk Tryz.prog (table tab_math_bits_Len64) := table_cons ok_math_bits_Len64 tok_math_bits_Mul64

/-! num.size -/
def e_num_size : Entry := fun args => match args with | [.int .i64 false n] => some (.leaf (u6 (sz n))) | _ => none
theorem ok_num_size : EntryOk Tryz.prog 182 e_num_size := entry_ok progOk (T := table tab_math_bits_Len64) tok_math_bits_Len64 16 12 noKnown (fun _ _ _ _ => noKnown_ok) (by
  intro args t v h hv
  unfold e_num_size at h
  split at h
  · cases h
    cases hv
    refine ⟨rfl, by kernel_rfl, fun φ cs hl => ?_⟩
    rename_i n
    obtain ⟨h_n, _⟩ : InR .i64 n ∧ True := rngL_of _ _ True hl trivial
    exact (congrArg Tr.run (by kernel_rfl : evV Tryz.prog (table tab_math_bits_Len64) 16 12 noKnown 182 [.int .i64 false n] = tr_num_size n)).trans (run_num_size n h_n)
  · cases h)
noncomputable def tab_num_size : List (FuncId × Entry) := (182, e_num_size) :: tab_math_bits_Len64
theorem tok_num_size : TableOk Tryz.prog (table tab_num_size) := table_cons ok_num_size tok_math_bits_Len64

/-! num.Times -/
def e_num_Times : Entry := fun args => match args with | [.int .i64 false a, .int .i64 false b] => some (.leaf (i6 (sat (a * b)))) | _ => none
theorem ok_num_Times : EntryOk Tryz.prog 137 e_num_Times := entry_ok progOk (T := table tab_num_size) tok_num_size 16 12 noKnown (fun _ _ _ _ => noKnown_ok) (by
  intro args t v h hv
  unfold e_num_Times at h
  split at h
  · cases h
    cases hv
    refine ⟨rfl, by kernel_rfl, fun φ cs hl => ?_⟩
    rename_i a b
    obtain ⟨h_a, h_b, _⟩ : InR .i64 a ∧ InR .i64 b ∧ True := rngL_of _ _ True hl trivial
    exact (congrArg Tr.run (by kernel_rfl : evV Tryz.prog (table tab_num_size) 16 12 noKnown 137 [.int .i64 false a, .int .i64 false b] = tr_num_Times a b)).trans (run_num_Times a b h_a h_b)
  · cases h)
noncomputable def tab_num_Times : List (FuncId × Entry) := (137, e_num_Times) :: tab_num_size
theorem tok_num_Times : TableOk Tryz.prog (table tab_num_Times) := table_cons ok_num_Times tok_num_size

/-! num.Plus -/
def e_num_Plus : Entry := fun args => match args with | [.int .i64 false a, .int .i64 false b] => some (.leaf (i6 (sat (a + b)))) | _ => none
theorem ok_num_Plus : EntryOk Tryz.prog 180 e_num_Plus := entry_ok progOk (T := table tab_num_Times) tok_num_Times 16 12 noKnown (fun _ _ _ _ => noKnown_ok) (by
  intro args t v h hv
  unfold e_num_Plus at h
  split at h
  · cases h
    cases hv
    refine ⟨rfl, by kernel_rfl, fun φ cs hl => ?_⟩
    rename_i a b
    obtain ⟨h_a, h_b, _⟩ : InR .i64 a ∧ InR .i64 b ∧ True := rngL_of _ _ True hl trivial
    exact (congrArg Tr.run (by kernel_rfl : evV Tryz.prog (table tab_num_Times) 16 12 noKnown 180 [.int .i64 false a, .int .i64 false b] = tr_num_Plus a b)).trans (run_num_Plus a b h_a h_b)
  · cases h)
noncomputable def tab_num_Plus : List (FuncId × Entry) := (180, e_num_Plus) :: tab_num_Times
theorem tok_num_Plus : TableOk Tryz.prog (table tab_num_Plus) := table_cons ok_num_Plus tok_num_Times

end Go.Proofs.YtpljpbmkklcbkaaGreat

/- Entries of the table: what functions give. -/
set_option linter.unusedSimpArgs false
set_option linter.unusedVariables false
namespace Go.Proofs.YtpljpbmkklcbkaaGreat
open Go Go.Sky
set_option maxRecDepth 100000

/-! num.Root -/
def e_num_Root : Entry := fun args => match args with | [.int .u64 false n] => some (.leaf (i6 (isq n))) | _ => none
noncomputable def O_num_Root_0 : Known := known 0 (piece Tryz.prog (table tab_num_Plus) noKnown 177 0 24 [2, 3, 4, 12, 13, 14, 15, 16, 17, 18, 19, 20, 21, 22, 23] [0, 3] g_num_Root_0) noKnown
theorem O_num_Root_0_ok : ∀ fn c, Tryz.prog.funcs[177]? = some fn → fn.body = some c → KnownOk Tryz.prog O_num_Root_0 (blocksOf c) :=
  known_ok (by kernel_rfl) (piece_wp progOk tok_num_Plus (known_in (by kernel_rfl) (fun _ _ _ _ => noKnown_ok)) (piece_num_Root_0 (by kernel_rfl) (by kernel_rfl) (fun L n r x1 x2 x4 x5 x6 x7 x8 x9 x10 x11 x12 x13 x14 x15 x16 x17 x18 x19 x20 x21 x22 x23 h => by kernel_rfl))) (fun _ _ _ _ => noKnown_ok)
theorem ok_num_Root : EntryOk Tryz.prog 177 e_num_Root := entry_ok progOk (T := table tab_num_Plus) tok_num_Plus 16 12 O_num_Root_0 O_num_Root_0_ok (by
  intro args t v h hv
  unfold e_num_Root at h
  split at h
  · cases h
    cases hv
    refine ⟨rfl, by kernel_rfl, fun φ cs hl => ?_⟩
    rename_i n
    obtain ⟨h_n, _⟩ : InR .u64 n ∧ True := rngL_of _ _ True hl trivial
    exact (congrArg Tr.run (by kernel_rfl : evV Tryz.prog (table tab_num_Plus) 16 12 O_num_Root_0 177 [.int .u64 false n] = tr_num_Root n)).trans (run_num_Root n h_n)
  · cases h)
noncomputable def tab_num_Root : List (FuncId × Entry) := (177, e_num_Root) :: tab_num_Plus
theorem tok_num_Root : TableOk Tryz.prog (table tab_num_Root) := table_cons ok_num_Root tok_num_Plus

/-! skylightref01.Root -/
def e_skylightref01_Root : Entry := fun args => match args with | [.int .u64 false n] => some (.leaf (i6 (isq n))) | _ => none
noncomputable def O_skylightref01_Root_0 : Known := known 0 (piece Tryz.prog (table tab_num_Root) noKnown 85 0 22 [3, 4, 5, 6, 7, 8, 9, 10, 11, 12, 13, 14, 15, 16, 17, 18, 19] [0, 3, 4] g_skylightref01_Root_0) noKnown
theorem O_skylightref01_Root_0_ok : ∀ fn c, Tryz.prog.funcs[85]? = some fn → fn.body = some c → KnownOk Tryz.prog O_skylightref01_Root_0 (blocksOf c) :=
  known_ok (by kernel_rfl) (piece_wp progOk tok_num_Root (known_in (by kernel_rfl) (fun _ _ _ _ => noKnown_ok)) (piece_skylightref01_Root_0 (by kernel_rfl) (by kernel_rfl) (fun L n r i x1 x2 x5 x6 x7 x8 x9 x10 x11 x12 x13 x14 x15 x16 x17 x18 x19 x20 x21 h => by kernel_rfl))) (fun _ _ _ _ => noKnown_ok)
theorem ok_skylightref01_Root : EntryOk Tryz.prog 85 e_skylightref01_Root := entry_ok progOk (T := table tab_num_Root) tok_num_Root 16 12 O_skylightref01_Root_0 O_skylightref01_Root_0_ok (by
  intro args t v h hv
  unfold e_skylightref01_Root at h
  split at h
  · cases h
    cases hv
    refine ⟨rfl, by kernel_rfl, fun φ cs hl => ?_⟩
    rename_i n
    obtain ⟨h_n, _⟩ : InR .u64 n ∧ True := rngL_of _ _ True hl trivial
    exact (congrArg Tr.run (by kernel_rfl : evV Tryz.prog (table tab_num_Root) 16 12 O_skylightref01_Root_0 85 [.int .u64 false n] = tr_skylightref01_Root n)).trans (run_skylightref01_Root n h_n)
  · cases h)
noncomputable def tab_skylightref01_Root : List (FuncId × Entry) := (85, e_skylightref01_Root) :: tab_num_Root
theorem tok_skylightref01_Root : TableOk Tryz.prog (table tab_skylightref01_Root) := table_cons ok_skylightref01_Root tok_num_Root

end Go.Proofs.YtpljpbmkklcbkaaGreat

/- Entries of the table: what functions give. -/
set_option linter.unusedSimpArgs false
set_option linter.unusedVariables false
namespace Go.Proofs.YtpljpbmkklcbkaaGreat
open Go Go.Sky
set_option maxRecDepth 100000

/-! math/bits.LeadingZeros64 -/
def e_math_bits_LeadingZeros64 : Entry := fun args => match args with | [.int .u64 false x] => some (.leaf (i6 (64 - (Lib.bitLen x.toNat : Nat)))) | _ => none
theorem ok_math_bits_LeadingZeros64 : EntryOk Tryz.prog 232 e_math_bits_LeadingZeros64 := by
  refine entry_calls progOk (by kernel_rfl) ?_
  intro args t v h ht φ cs hl
  unfold e_math_bits_LeadingZeros64 at h
  split at h
  · cases h
    cases ht
    obtain ⟨rfl, hx⟩ := ints1 hl
    rename_i x
    obtain ⟨hx0, hx1⟩ := inR_u64.1 hx
    refine ⟨_, ?_, fun w => Tryz.bits_LeadingZeros64 x w hx0 hx1⟩
    have := Any.bitLen_le64 x hx0 hx1
    exact rel_int (inR_i64.2 (by omega))
  · cases h
noncomputable def tab_math_bits_LeadingZeros64 : List (FuncId × Entry) := (232, e_math_bits_LeadingZeros64) :: tab_skylightref01_Root
theorem tok_math_bits_LeadingZeros64 : TableOk Tryz.prog (table tab_math_bits_LeadingZeros64) := table_cons ok_math_bits_LeadingZeros64 tok_skylightref01_Root

/-! math/bits.Div64 -/
def e_math_bits_Div64 : Entry := fun args => match args with | [.int .u64 false hi, .int .u64 false lo, .int .u64 false y] => some (.node (decide (hi < y)) (.leaf (.tuple [u6 ((hi * 18446744073709551616 + lo) / y), u6 ((hi * 18446744073709551616 + lo) % y)])) .bad) | _ => none
noncomputable def O_math_bits_Div64_0 : Known := known 0 (piece Tryz.prog (table tab_math_bits_LeadingZeros64) noKnown 212 0 135 [15, 16, 67, 68, 69, 70, 71, 72, 73, 74, 75, 76, 77, 78, 79, 80, 81, 82, 83, 84, 85] [9, 10, 13, 15, 16] g_math_bits_Div64_0) noKnown
theorem O_math_bits_Div64_0_ok : ∀ fn c, Tryz.prog.funcs[212]? = some fn → fn.body = some c → KnownOk Tryz.prog O_math_bits_Div64_0 (blocksOf c) :=
  known_ok (by kernel_rfl) (piece_wp progOk tok_math_bits_LeadingZeros64 (known_in (by kernel_rfl) (fun _ _ _ _ => noKnown_ok)) (piece_math_bits_Div64_0 (by kernel_rfl) (by kernel_rfl) (fun L yn1 yn0 un1 q rh x0 x1 x2 x3 x4 x5 x6 x7 x8 x11 x12 x14 x17 x18 x19 x20 x21 x22 x23 x24 x25 x26 x27 x28 x29 x30 x31 x32 x33 x34 x35 x36 x37 x38 x39 x40 x41 x42 x43 x44 x45 x46 x47 x48 x49 x50 x51 x52 x53 x54 x55 x56 x57 x58 x59 x60 x61 x62 x63 x64 x65 x66 x67 x68 x69 x70 x71 x72 x73 x74 x75 x76 x77 x78 x79 x80 x81 x82 x83 x84 x85 x86 x87 x88 x89 x90 x91 x92 x93 x94 x95 x96 x97 x98 x99 x100 x101 x102 x103 x104 x105 x106 x107 x108 x109 x110 x111 x112 x113 x114 x115 x116 x117 x118 x119 x120 x121 x122 x123 x124 x125 x126 x127 x128 x129 x130 x131 x132 x133 x134 h => by kernel_rfl))) (fun _ _ _ _ => noKnown_ok)
noncomputable def O_math_bits_Div64_2 : Known := known 2 (piece Tryz.prog (table tab_math_bits_LeadingZeros64) O_math_bits_Div64_0 212 2 135 [16, 18, 102, 103, 104, 105, 106, 107, 108, 109, 110, 111, 112, 113, 114, 115, 116, 117, 118, 119, 120] [9, 10, 14, 18, 16] g_math_bits_Div64_2) O_math_bits_Div64_0
theorem O_math_bits_Div64_2_ok : ∀ fn c, Tryz.prog.funcs[212]? = some fn → fn.body = some c → KnownOk Tryz.prog O_math_bits_Div64_2 (blocksOf c) :=
  known_ok (by kernel_rfl) (piece_wp progOk tok_math_bits_LeadingZeros64 (known_in (by kernel_rfl) O_math_bits_Div64_0_ok) (piece_math_bits_Div64_2 (by kernel_rfl) (by kernel_rfl) (fun L yn1 yn0 un1 q rh x0 x1 x2 x3 x4 x5 x6 x7 x8 x11 x12 x13 x15 x17 x19 x20 x21 x22 x23 x24 x25 x26 x27 x28 x29 x30 x31 x32 x33 x34 x35 x36 x37 x38 x39 x40 x41 x42 x43 x44 x45 x46 x47 x48 x49 x50 x51 x52 x53 x54 x55 x56 x57 x58 x59 x60 x61 x62 x63 x64 x65 x66 x67 x68 x69 x70 x71 x72 x73 x74 x75 x76 x77 x78 x79 x80 x81 x82 x83 x84 x85 x86 x87 x88 x89 x90 x91 x92 x93 x94 x95 x96 x97 x98 x99 x100 x101 x102 x103 x104 x105 x106 x107 x108 x109 x110 x111 x112 x113 x114 x115 x116 x117 x118 x119 x120 x121 x122 x123 x124 x125 x126 x127 x128 x129 x130 x131 x132 x133 x134 h => by kernel_rfl))) O_math_bits_Div64_0_ok
theorem ok_math_bits_Div64 : EntryOk Tryz.prog 212 e_math_bits_Div64 := entry_ok progOk (T := table tab_math_bits_LeadingZeros64) tok_math_bits_LeadingZeros64 16 12 O_math_bits_Div64_2 O_math_bits_Div64_2_ok (by
  intro args t v h hv
  unfold e_math_bits_Div64 at h
  split at h
  · cases h
    simp only [Tr.run] at hv
    split at hv
    rotate_left
    · cases hv
    rename_i hpre0
    have hpre := of_decide_eq_true hpre0
    cases hv
    refine ⟨rfl, by kernel_rfl, fun φ cs hl => ?_⟩
    rename_i hi lo y
    obtain ⟨h_hi, h_lo, h_y, _⟩ : InR .u64 hi ∧ InR .u64 lo ∧ InR .u64 y ∧ True := rngL_of _ _ True hl trivial
    exact (congrArg Tr.run (by kernel_rfl : evV Tryz.prog (table tab_math_bits_LeadingZeros64) 16 12 O_math_bits_Div64_2 212 [.int .u64 false hi, .int .u64 false lo, .int .u64 false y] = tr_math_bits_Div64 hi lo y)).trans (run_math_bits_Div64 hi lo y h_hi h_lo h_y hpre)
  · cases h)
noncomputable def tab_math_bits_Div64 : List (FuncId × Entry) := (212, e_math_bits_Div64) :: tab_math_bits_LeadingZeros64
theorem tok_math_bits_Div64 : TableOk Tryz.prog (table tab_math_bits_Div64) := table_cons ok_math_bits_Div64 tok_math_bits_LeadingZeros64

end Go.Proofs.YtpljpbmkklcbkaaGreat

/- Entries of the table: what functions give. -/
set_option linter.unusedSimpArgs false
set_option linter.unusedVariables false
namespace Go.Proofs.YtpljpbmkklcbkaaGreat
open Go Go.Sky
set_option maxRecDepth 100000

/-! wide.Mul -/
def e_wide_Mul : Entry := fun args => match args with | [.int .i64 false a, .int .i64 false b] => some (.leaf (w2 (a * b / 18446744073709551616) (a * b % 18446744073709551616))) | _ => none
theorem ok_wide_Mul : EntryOk Tryz.prog 175 e_wide_Mul := entry_ok progOk (T := table tab_math_bits_Div64) tok_math_bits_Div64 16 12 noKnown (fun _ _ _ _ => noKnown_ok) (by
  intro args t v h hv
  unfold e_wide_Mul at h
  split at h
  · cases h
    cases hv
    refine ⟨rfl, by kernel_rfl, fun φ cs hl => ?_⟩
    rename_i a b
    obtain ⟨h_a, h_b, _⟩ : InR .i64 a ∧ InR .i64 b ∧ True := rngL_of _ _ True hl trivial
    exact (congrArg Tr.run (by kernel_rfl : evV Tryz.prog (table tab_math_bits_Div64) 16 12 noKnown 175 [.int .i64 false a, .int .i64 false b] = tr_wide_Mul a b)).trans (run_wide_Mul a b h_a h_b)
  · cases h)
noncomputable def tab_wide_Mul : List (FuncId × Entry) := (175, e_wide_Mul) :: tab_math_bits_Div64
theorem tok_wide_Mul : TableOk Tryz.prog (table tab_wide_Mul) := table_cons ok_wide_Mul tok_math_bits_Div64

/-! wide.Over -/
def e_wide_Over : Entry := fun args => match args with | [.agg [.int .i64 false a_hi, .int .u64 false a_lo], .int .i64 false d] => some (.leaf (.tuple [i6 (ovQ (a_hi * 18446744073709551616 + a_lo) d), bb (ovOk (a_hi * 18446744073709551616 + a_lo) d)])) | _ => none
theorem ok_wide_Over : EntryOk Tryz.prog 176 e_wide_Over := entry_ok progOk (T := table tab_wide_Mul) tok_wide_Mul 16 12 noKnown (fun _ _ _ _ => noKnown_ok) (by
  intro args t v h hv
  unfold e_wide_Over at h
  split at h
  · cases h
    cases hv
    refine ⟨rfl, by kernel_rfl, fun φ cs hl => ?_⟩
    rename_i a_hi a_lo d
    obtain ⟨h_a_hi, h_a_lo, h_d, _⟩ : InR .i64 a_hi ∧ InR .u64 a_lo ∧ InR .i64 d ∧ True := rngL_of _ _ True hl trivial
    exact (congrArg Tr.run (by kernel_rfl : evV Tryz.prog (table tab_wide_Mul) 16 12 noKnown 176 [.agg [.int .i64 false a_hi, .int .u64 false a_lo], .int .i64 false d] = tr_wide_Over a_hi a_lo d)).trans (run_wide_Over a_hi a_lo d h_a_hi h_a_lo h_d)
  · cases h)
noncomputable def tab_wide_Over : List (FuncId × Entry) := (176, e_wide_Over) :: tab_wide_Mul
theorem tok_wide_Over : TableOk Tryz.prog (table tab_wide_Over) := table_cons ok_wide_Over tok_wide_Mul

/-! frac.Right -/
def e_frac_Right : Entry := fun args => match args with | [.agg [.int .i64 false f_n, .int .i64 false f_d]] => some (.leaf (bb (decide (0 < f_d)))) | _ => none
theorem ok_frac_Right : EntryOk Tryz.prog 58 e_frac_Right := entry_ok progOk (T := table tab_wide_Over) tok_wide_Over 16 12 noKnown (fun _ _ _ _ => noKnown_ok) (by
  intro args t v h hv
  unfold e_frac_Right at h
  split at h
  · cases h
    cases hv
    refine ⟨rfl, by kernel_rfl, fun φ cs hl => ?_⟩
    rename_i f_n f_d
    obtain ⟨h_f_n, h_f_d, _⟩ : InR .i64 f_n ∧ InR .i64 f_d ∧ True := rngL_of _ _ True hl trivial
    exact (congrArg Tr.run (by kernel_rfl : evV Tryz.prog (table tab_wide_Over) 16 12 noKnown 58 [.agg [.int .i64 false f_n, .int .i64 false f_d]] = tr_frac_Right f_n f_d)).trans (run_frac_Right f_n f_d h_f_n h_f_d)
  · cases h)
noncomputable def tab_frac_Right : List (FuncId × Entry) := (58, e_frac_Right) :: tab_wide_Over
theorem tok_frac_Right : TableOk Tryz.prog (table tab_frac_Right) := table_cons ok_frac_Right tok_wide_Over

/-! frac.At -/
def e_frac_At : Entry := fun args => match args with | [.int .i64 false v, .agg [.int .i64 false f_n, .int .i64 false f_d]] => some (.leaf (i6 (atF v f_n f_d))) | _ => none
theorem ok_frac_At : EntryOk Tryz.prog 123 e_frac_At := entry_ok progOk (T := table tab_frac_Right) tok_frac_Right 16 12 noKnown (fun _ _ _ _ => noKnown_ok) (by
  intro args t v h hv
  unfold e_frac_At at h
  split at h
  · cases h
    cases hv
    refine ⟨rfl, by kernel_rfl, fun φ cs hl => ?_⟩
    rename_i v f_n f_d
    obtain ⟨h_v, h_f_n, h_f_d, _⟩ : InR .i64 v ∧ InR .i64 f_n ∧ InR .i64 f_d ∧ True := rngL_of _ _ True hl trivial
    exact (congrArg Tr.run (by kernel_rfl : evV Tryz.prog (table tab_frac_Right) 16 12 noKnown 123 [.int .i64 false v, .agg [.int .i64 false f_n, .int .i64 false f_d]] = tr_frac_At v f_n f_d)).trans (run_frac_At v f_n f_d h_v h_f_n h_f_d)
  · cases h)
noncomputable def tab_frac_At : List (FuncId × Entry) := (123, e_frac_At) :: tab_frac_Right
theorem tok_frac_At : TableOk Tryz.prog (table tab_frac_At) := table_cons ok_frac_At tok_frac_Right

end Go.Proofs.YtpljpbmkklcbkaaGreat

/- Entries of the table: what functions give. -/
set_option linter.unusedSimpArgs false
set_option linter.unusedVariables false
namespace Go.Proofs.YtpljpbmkklcbkaaGreat
open Go Go.Sky
set_option maxRecDepth 100000

/-! vec.Near -/
def e_vec_Near : Entry := fun args => match args with | [.agg [.int .i64 false v_x, .int .i64 false v_y, .int .i64 false v_z]] => some (.leaf (bb (nearB v_x v_y v_z))) | _ => none
theorem ok_vec_Near : EntryOk Tryz.prog 198 e_vec_Near := entry_ok progOk (T := table tab_frac_At) tok_frac_At 16 12 noKnown (fun _ _ _ _ => noKnown_ok) (by
  intro args t v h hv
  unfold e_vec_Near at h
  split at h
  · cases h
    cases hv
    refine ⟨rfl, by kernel_rfl, fun φ cs hl => ?_⟩
    rename_i v_x v_y v_z
    obtain ⟨h_v_x, h_v_y, h_v_z, _⟩ : InR .i64 v_x ∧ InR .i64 v_y ∧ InR .i64 v_z ∧ True := rngL_of _ _ True hl trivial
    exact (congrArg Tr.run (by kernel_rfl : evV Tryz.prog (table tab_frac_At) 16 12 noKnown 198 [.agg [.int .i64 false v_x, .int .i64 false v_y, .int .i64 false v_z]] = tr_vec_Near v_x v_y v_z)).trans (run_vec_Near v_x v_y v_z h_v_x h_v_y h_v_z)
  · cases h)
noncomputable def tab_vec_Near : List (FuncId × Entry) := (198, e_vec_Near) :: tab_frac_At
theorem tok_vec_Near : TableOk Tryz.prog (table tab_vec_Near) := table_cons ok_vec_Near tok_frac_At

/-! vec.Add -/
def e_vec_Add : Entry := fun args => match args with | [.agg [.int .i64 false a_x, .int .i64 false a_y, .int .i64 false a_z], .agg [.int .i64 false b_x, .int .i64 false b_y, .int .i64 false b_z]] => some (.leaf (v3 (sat (a_x + b_x)) (sat (a_y + b_y)) (sat (a_z + b_z)))) | _ => none
theorem ok_vec_Add : EntryOk Tryz.prog 135 e_vec_Add := entry_ok progOk (T := table tab_vec_Near) tok_vec_Near 16 12 noKnown (fun _ _ _ _ => noKnown_ok) (by
  intro args t v h hv
  unfold e_vec_Add at h
  split at h
  · cases h
    cases hv
    refine ⟨rfl, by kernel_rfl, fun φ cs hl => ?_⟩
    rename_i a_x a_y a_z b_x b_y b_z
    obtain ⟨h_a_x, h_a_y, h_a_z, h_b_x, h_b_y, h_b_z, _⟩ : InR .i64 a_x ∧ InR .i64 a_y ∧ InR .i64 a_z ∧ InR .i64 b_x ∧ InR .i64 b_y ∧ InR .i64 b_z ∧ True := rngL_of _ _ True hl trivial
    exact (congrArg Tr.run (by kernel_rfl : evV Tryz.prog (table tab_vec_Near) 16 12 noKnown 135 [.agg [.int .i64 false a_x, .int .i64 false a_y, .int .i64 false a_z], .agg [.int .i64 false b_x, .int .i64 false b_y, .int .i64 false b_z]] = tr_vec_Add a_x a_y a_z b_x b_y b_z)).trans (run_vec_Add a_x a_y a_z b_x b_y b_z h_a_x h_a_y h_a_z h_b_x h_b_y h_b_z)
  · cases h)
noncomputable def tab_vec_Add : List (FuncId × Entry) := (135, e_vec_Add) :: tab_vec_Near
theorem tok_vec_Add : TableOk Tryz.prog (table tab_vec_Add) := table_cons ok_vec_Add tok_vec_Near

/-! vec.Sub -/
def e_vec_Sub : Entry := fun args => match args with | [.agg [.int .i64 false a_x, .int .i64 false a_y, .int .i64 false a_z], .agg [.int .i64 false b_x, .int .i64 false b_y, .int .i64 false b_z]] => some (.leaf (v3 (sat (a_x + sat (b_x * -1))) (sat (a_y + sat (b_y * -1))) (sat (a_z + sat (b_z * -1))))) | _ => none
theorem ok_vec_Sub : EntryOk Tryz.prog 72 e_vec_Sub := entry_ok progOk (T := table tab_vec_Add) tok_vec_Add 16 12 noKnown (fun _ _ _ _ => noKnown_ok) (by
  intro args t v h hv
  unfold e_vec_Sub at h
  split at h
  · cases h
    cases hv
    refine ⟨rfl, by kernel_rfl, fun φ cs hl => ?_⟩
    rename_i a_x a_y a_z b_x b_y b_z
    obtain ⟨h_a_x, h_a_y, h_a_z, h_b_x, h_b_y, h_b_z, _⟩ : InR .i64 a_x ∧ InR .i64 a_y ∧ InR .i64 a_z ∧ InR .i64 b_x ∧ InR .i64 b_y ∧ InR .i64 b_z ∧ True := rngL_of _ _ True hl trivial
    exact (congrArg Tr.run (by kernel_rfl : evV Tryz.prog (table tab_vec_Add) 16 12 noKnown 72 [.agg [.int .i64 false a_x, .int .i64 false a_y, .int .i64 false a_z], .agg [.int .i64 false b_x, .int .i64 false b_y, .int .i64 false b_z]] = tr_vec_Sub a_x a_y a_z b_x b_y b_z)).trans (run_vec_Sub a_x a_y a_z b_x b_y b_z h_a_x h_a_y h_a_z h_b_x h_b_y h_b_z)
  · cases h)
noncomputable def tab_vec_Sub : List (FuncId × Entry) := (72, e_vec_Sub) :: tab_vec_Add
theorem tok_vec_Sub : TableOk Tryz.prog (table tab_vec_Sub) := table_cons ok_vec_Sub tok_vec_Add

/-! vec.Dot -/
def e_vec_Dot : Entry := fun args => match args with | [.agg [.int .i64 false a_x, .int .i64 false a_y, .int .i64 false a_z], .agg [.int .i64 false b_x, .int .i64 false b_y, .int .i64 false b_z]] => some (.leaf (i6 (dotN a_x a_y a_z b_x b_y b_z))) | _ => none
theorem ok_vec_Dot : EntryOk Tryz.prog 154 e_vec_Dot := entry_ok progOk (T := table tab_vec_Sub) tok_vec_Sub 16 12 noKnown (fun _ _ _ _ => noKnown_ok) (by
  intro args t v h hv
  unfold e_vec_Dot at h
  split at h
  · cases h
    cases hv
    refine ⟨rfl, by kernel_rfl, fun φ cs hl => ?_⟩
    rename_i a_x a_y a_z b_x b_y b_z
    obtain ⟨h_a_x, h_a_y, h_a_z, h_b_x, h_b_y, h_b_z, _⟩ : InR .i64 a_x ∧ InR .i64 a_y ∧ InR .i64 a_z ∧ InR .i64 b_x ∧ InR .i64 b_y ∧ InR .i64 b_z ∧ True := rngL_of _ _ True hl trivial
    exact (congrArg Tr.run (by kernel_rfl : evV Tryz.prog (table tab_vec_Sub) 16 12 noKnown 154 [.agg [.int .i64 false a_x, .int .i64 false a_y, .int .i64 false a_z], .agg [.int .i64 false b_x, .int .i64 false b_y, .int .i64 false b_z]] = tr_vec_Dot a_x a_y a_z b_x b_y b_z)).trans (run_vec_Dot a_x a_y a_z b_x b_y b_z h_a_x h_a_y h_a_z h_b_x h_b_y h_b_z)
  · cases h)
noncomputable def tab_vec_Dot : List (FuncId × Entry) := (154, e_vec_Dot) :: tab_vec_Sub
theorem tok_vec_Dot : TableOk Tryz.prog (table tab_vec_Dot) := table_cons ok_vec_Dot tok_vec_Sub

/-! vec.Cross -/
def e_vec_Cross : Entry := fun args => match args with | [.agg [.int .i64 false a_x, .int .i64 false a_y, .int .i64 false a_z], .agg [.int .i64 false b_x, .int .i64 false b_y, .int .i64 false b_z]] => some (.leaf (v3 (crN a_y a_z b_y b_z a_x b_x) (crN a_z a_x b_z b_x a_y b_y) (crN a_x a_y b_x b_y a_z b_z))) | _ => none
theorem ok_vec_Cross : EntryOk Tryz.prog 216 e_vec_Cross := entry_ok progOk (T := table tab_vec_Dot) tok_vec_Dot 16 12 noKnown (fun _ _ _ _ => noKnown_ok) (by
  intro args t v h hv
  unfold e_vec_Cross at h
  split at h
  · cases h
    cases hv
    refine ⟨rfl, by kernel_rfl, fun φ cs hl => ?_⟩
    rename_i a_x a_y a_z b_x b_y b_z
    obtain ⟨h_a_x, h_a_y, h_a_z, h_b_x, h_b_y, h_b_z, _⟩ : InR .i64 a_x ∧ InR .i64 a_y ∧ InR .i64 a_z ∧ InR .i64 b_x ∧ InR .i64 b_y ∧ InR .i64 b_z ∧ True := rngL_of _ _ True hl trivial
    exact (congrArg Tr.run (by kernel_rfl : evV Tryz.prog (table tab_vec_Dot) 16 12 noKnown 216 [.agg [.int .i64 false a_x, .int .i64 false a_y, .int .i64 false a_z], .agg [.int .i64 false b_x, .int .i64 false b_y, .int .i64 false b_z]] = tr_vec_Cross a_x a_y a_z b_x b_y b_z)).trans (run_vec_Cross a_x a_y a_z b_x b_y b_z h_a_x h_a_y h_a_z h_b_x h_b_y h_b_z)
  · cases h)
noncomputable def tab_vec_Cross : List (FuncId × Entry) := (216, e_vec_Cross) :: tab_vec_Dot
theorem tok_vec_Cross : TableOk Tryz.prog (table tab_vec_Cross) := table_cons ok_vec_Cross tok_vec_Dot

/-! vec.Volume -/
def e_vec_Volume : Entry := fun args => match args with | [.agg [.int .i64 false a_x, .int .i64 false a_y, .int .i64 false a_z], .agg [.int .i64 false b_x, .int .i64 false b_y, .int .i64 false b_z], .agg [.int .i64 false c_x, .int .i64 false c_y, .int .i64 false c_z]] => some (.leaf (i6 (volN a_x a_y a_z b_x b_y b_z c_x c_y c_z))) | _ => none
theorem ok_vec_Volume : EntryOk Tryz.prog 281 e_vec_Volume := entry_ok progOk (T := table tab_vec_Cross) tok_vec_Cross 16 12 noKnown (fun _ _ _ _ => noKnown_ok) (by
  intro args t v h hv
  unfold e_vec_Volume at h
  split at h
  · cases h
    cases hv
    refine ⟨rfl, by kernel_rfl, fun φ cs hl => ?_⟩
    rename_i a_x a_y a_z b_x b_y b_z c_x c_y c_z
    obtain ⟨h_a_x, h_a_y, h_a_z, h_b_x, h_b_y, h_b_z, h_c_x, h_c_y, h_c_z, _⟩ : InR .i64 a_x ∧ InR .i64 a_y ∧ InR .i64 a_z ∧ InR .i64 b_x ∧ InR .i64 b_y ∧ InR .i64 b_z ∧ InR .i64 c_x ∧ InR .i64 c_y ∧ InR .i64 c_z ∧ True := rngL_of _ _ True hl trivial
    exact (congrArg Tr.run (by kernel_rfl : evV Tryz.prog (table tab_vec_Cross) 16 12 noKnown 281 [.agg [.int .i64 false a_x, .int .i64 false a_y, .int .i64 false a_z], .agg [.int .i64 false b_x, .int .i64 false b_y, .int .i64 false b_z], .agg [.int .i64 false c_x, .int .i64 false c_y, .int .i64 false c_z]] = tr_vec_Volume a_x a_y a_z b_x b_y b_z c_x c_y c_z)).trans (run_vec_Volume a_x a_y a_z b_x b_y b_z c_x c_y c_z h_a_x h_a_y h_a_z h_b_x h_b_y h_b_z h_c_x h_c_y h_c_z)
  · cases h)
noncomputable def tab_vec_Volume : List (FuncId × Entry) := (281, e_vec_Volume) :: tab_vec_Cross
theorem tok_vec_Volume : TableOk Tryz.prog (table tab_vec_Volume) := table_cons ok_vec_Volume tok_vec_Cross

/-! skylightref06.Near -/
def e_skylightref06_Near : Entry := fun args => match args with | [.agg [.int .i64 false v_x, .int .i64 false v_y, .int .i64 false v_z]] => some (.leaf (bb (nearB v_x v_y v_z))) | _ => none
theorem ok_skylightref06_Near : EntryOk Tryz.prog 86 e_skylightref06_Near := entry_ok progOk (T := table tab_vec_Volume) tok_vec_Volume 16 12 noKnown (fun _ _ _ _ => noKnown_ok) (by
  intro args t v h hv
  unfold e_skylightref06_Near at h
  split at h
  · cases h
    cases hv
    refine ⟨rfl, by kernel_rfl, fun φ cs hl => ?_⟩
    rename_i v_x v_y v_z
    obtain ⟨h_v_x, h_v_y, h_v_z, _⟩ : InR .i64 v_x ∧ InR .i64 v_y ∧ InR .i64 v_z ∧ True := rngL_of _ _ True hl trivial
    exact (congrArg Tr.run (by kernel_rfl : evV Tryz.prog (table tab_vec_Volume) 16 12 noKnown 86 [.agg [.int .i64 false v_x, .int .i64 false v_y, .int .i64 false v_z]] = tr_skylightref06_Near v_x v_y v_z)).trans (run_skylightref06_Near v_x v_y v_z h_v_x h_v_y h_v_z)
  · cases h)
noncomputable def tab_skylightref06_Near : List (FuncId × Entry) := (86, e_skylightref06_Near) :: tab_vec_Volume
theorem tok_skylightref06_Near : TableOk Tryz.prog (table tab_skylightref06_Near) := table_cons ok_skylightref06_Near tok_vec_Volume

end Go.Proofs.YtpljpbmkklcbkaaGreat

/- Entries of the table: what functions give. -/
set_option linter.unusedSimpArgs false
set_option linter.unusedVariables false
namespace Go.Proofs.YtpljpbmkklcbkaaGreat
open Go Go.Sky
set_option maxRecDepth 100000

/-! (vec.triple).most -/
def e_vec_triple_most : Entry := fun args => match args with | [.agg [.int .i64 false v_x, .int .i64 false v_y, .int .i64 false v_z]] => some (.leaf (i6 (mostI v_x v_y v_z))) | _ => none
theorem ok_vec_triple_most : EntryOk Tryz.prog 126 e_vec_triple_most := entry_ok progOk (T := table tab_skylightref06_Near) tok_skylightref06_Near 16 12 noKnown (fun _ _ _ _ => noKnown_ok) (by
  intro args t v h hv
  unfold e_vec_triple_most at h
  split at h
  · cases h
    cases hv
    refine ⟨rfl, by kernel_rfl, fun φ cs hl => ?_⟩
    rename_i v_x v_y v_z
    obtain ⟨h_v_x, h_v_y, h_v_z, _⟩ : InR .i64 v_x ∧ InR .i64 v_y ∧ InR .i64 v_z ∧ True := rngL_of _ _ True hl trivial
    exact (congrArg Tr.run (by kernel_rfl : evV Tryz.prog (table tab_skylightref06_Near) 16 12 noKnown 126 [.agg [.int .i64 false v_x, .int .i64 false v_y, .int .i64 false v_z]] = tr_vec_triple_most v_x v_y v_z)).trans (run_vec_triple_most v_x v_y v_z h_v_x h_v_y h_v_z)
  · cases h)
noncomputable def tab_vec_triple_most : List (FuncId × Entry) := (126, e_vec_triple_most) :: tab_skylightref06_Near
theorem tok_vec_triple_most : TableOk Tryz.prog (table tab_vec_triple_most) := table_cons ok_vec_triple_most tok_skylightref06_Near

/-! vec.Len -/
def e_vec_Len : Entry := fun args => match args with | [.agg [.int .i64 false v_x, .int .i64 false v_y, .int .i64 false v_z]] => some (.leaf (i6 (isq (dotN v_x v_y v_z v_x v_y v_z)))) | _ => none
theorem ok_vec_Len : EntryOk Tryz.prog 130 e_vec_Len := entry_ok progOk (T := table tab_vec_triple_most) tok_vec_triple_most 16 12 noKnown (fun _ _ _ _ => noKnown_ok) (by
  intro args t v h hv
  unfold e_vec_Len at h
  split at h
  · cases h
    cases hv
    refine ⟨rfl, by kernel_rfl, fun φ cs hl => ?_⟩
    rename_i v_x v_y v_z
    obtain ⟨h_v_x, h_v_y, h_v_z, _⟩ : InR .i64 v_x ∧ InR .i64 v_y ∧ InR .i64 v_z ∧ True := rngL_of _ _ True hl trivial
    exact (congrArg Tr.run (by kernel_rfl : evV Tryz.prog (table tab_vec_triple_most) 16 12 noKnown 130 [.agg [.int .i64 false v_x, .int .i64 false v_y, .int .i64 false v_z]] = tr_vec_Len v_x v_y v_z)).trans (run_vec_Len v_x v_y v_z h_v_x h_v_y h_v_z)
  · cases h)
noncomputable def tab_vec_Len : List (FuncId × Entry) := (130, e_vec_Len) :: tab_vec_triple_most
theorem tok_vec_Len : TableOk Tryz.prog (table tab_vec_Len) := table_cons ok_vec_Len tok_vec_triple_most

/-! vec.Unit -/
def e_vec_Unit : Entry := fun args => match args with | [.agg [.int .i64 false v_x, .int .i64 false v_y, .int .i64 false v_z]] => some (.leaf (.tuple [v3 (unitC v_x v_y v_z v_x) (unitC v_x v_y v_z v_y) (unitC v_x v_y v_z v_z), bb (okU v_x v_y v_z)])) | _ => none
noncomputable def O_vec_Unit_0 : Known := known 0 (piece Tryz.prog (table tab_vec_Len) noKnown 70 0 36 [5, 18, 19, 20, 21, 22, 23] [4, 5] g_vec_Unit_0) noKnown
theorem O_vec_Unit_0_ok : ∀ fn c, Tryz.prog.funcs[70]? = some fn → fn.body = some c → KnownOk Tryz.prog O_vec_Unit_0 (blocksOf c) :=
  known_ok (by kernel_rfl) (piece_wp progOk tok_vec_Len (known_in (by kernel_rfl) (fun _ _ _ _ => noKnown_ok)) (piece_vec_Unit_0 (by kernel_rfl) (by kernel_rfl) (fun L m p_x p_y p_z q_x q_y q_z t_x t_y t_z x0 x1 x2 x3 x6 x7 x8 x9 x10 x11 x12 x13 x14 x15 x16 x17 x18 x19 x20 x21 x22 x23 x24 x25 x26 x27 x28 x29 x30 x31 x32 x33 x34 x35 => by kernel_rfl))) (fun _ _ _ _ => noKnown_ok)
noncomputable def O_vec_Unit_2 : Known := known 2 (piece Tryz.prog (table tab_vec_Len) O_vec_Unit_0 70 2 36 [24, 25, 26, 27, 28] [4] g_vec_Unit_2) O_vec_Unit_0
theorem O_vec_Unit_2_ok : ∀ fn c, Tryz.prog.funcs[70]? = some fn → fn.body = some c → KnownOk Tryz.prog O_vec_Unit_2 (blocksOf c) :=
  known_ok (by kernel_rfl) (piece_wp progOk tok_vec_Len (known_in (by kernel_rfl) O_vec_Unit_0_ok) (piece_vec_Unit_2 (by kernel_rfl) (by kernel_rfl) (fun L p_x p_y p_z q_x q_y q_z t_x t_y t_z x0 x1 x2 x3 x5 x6 x7 x8 x9 x10 x11 x12 x13 x14 x15 x16 x17 x18 x19 x20 x21 x22 x23 x24 x25 x26 x27 x28 x29 x30 x31 x32 x33 x34 x35 => by kernel_rfl))) O_vec_Unit_0_ok
theorem ok_vec_Unit : EntryOk Tryz.prog 70 e_vec_Unit := entry_ok progOk (T := table tab_vec_Len) tok_vec_Len 16 12 O_vec_Unit_2 O_vec_Unit_2_ok (by
  intro args t v h hv
  unfold e_vec_Unit at h
  split at h
  · cases h
    cases hv
    refine ⟨rfl, by kernel_rfl, fun φ cs hl => ?_⟩
    rename_i v_x v_y v_z
    obtain ⟨h_v_x, h_v_y, h_v_z, _⟩ : InR .i64 v_x ∧ InR .i64 v_y ∧ InR .i64 v_z ∧ True := rngL_of _ _ True hl trivial
    exact (congrArg Tr.run (by kernel_rfl : evV Tryz.prog (table tab_vec_Len) 16 12 O_vec_Unit_2 70 [.agg [.int .i64 false v_x, .int .i64 false v_y, .int .i64 false v_z]] = tr_vec_Unit v_x v_y v_z)).trans (run_vec_Unit v_x v_y v_z h_v_x h_v_y h_v_z)
  · cases h)
noncomputable def tab_vec_Unit : List (FuncId × Entry) := (70, e_vec_Unit) :: tab_vec_Len
theorem tok_vec_Unit : TableOk Tryz.prog (table tab_vec_Unit) := table_cons ok_vec_Unit tok_vec_Len

end Go.Proofs.YtpljpbmkklcbkaaGreat

/- Entries of the table: what functions give. -/
set_option linter.unusedSimpArgs false
set_option linter.unusedVariables false
namespace Go.Proofs.YtpljpbmkklcbkaaGreat
open Go Go.Sky
set_option maxRecDepth 100000

/-! skylightref01.Plus -/
def e_skylightref01_Plus : Entry := fun args => match args with | [.int .i64 false a, .int .i64 false b] => some (.leaf (i6 (sat (a + b)))) | _ => none
theorem ok_skylightref01_Plus : EntryOk Tryz.prog 194 e_skylightref01_Plus := entry_ok progOk (T := table tab_vec_Unit) tok_vec_Unit 16 12 noKnown (fun _ _ _ _ => noKnown_ok) (by
  intro args t v h hv
  unfold e_skylightref01_Plus at h
  split at h
  · cases h
    cases hv
    refine ⟨rfl, by kernel_rfl, fun φ cs hl => ?_⟩
    rename_i a b
    obtain ⟨h_a, h_b, _⟩ : InR .i64 a ∧ InR .i64 b ∧ True := rngL_of _ _ True hl trivial
    exact (congrArg Tr.run (by kernel_rfl : evV Tryz.prog (table tab_vec_Unit) 16 12 noKnown 194 [.int .i64 false a, .int .i64 false b] = tr_skylightref01_Plus a b)).trans (run_skylightref01_Plus a b h_a h_b)
  · cases h)
noncomputable def tab_skylightref01_Plus : List (FuncId × Entry) := (194, e_skylightref01_Plus) :: tab_vec_Unit
theorem tok_skylightref01_Plus : TableOk Tryz.prog (table tab_skylightref01_Plus) := table_cons ok_skylightref01_Plus tok_vec_Unit

/-! skylightref01.Size -/
def e_skylightref01_Size : Entry := fun args => match args with | [.int .i64 false n] => some (.leaf (u6 (sz n))) | _ => none
theorem ok_skylightref01_Size : EntryOk Tryz.prog 190 e_skylightref01_Size := entry_ok progOk (T := table tab_skylightref01_Plus) tok_skylightref01_Plus 16 12 noKnown (fun _ _ _ _ => noKnown_ok) (by
  intro args t v h hv
  unfold e_skylightref01_Size at h
  split at h
  · cases h
    cases hv
    refine ⟨rfl, by kernel_rfl, fun φ cs hl => ?_⟩
    rename_i n
    obtain ⟨h_n, _⟩ : InR .i64 n ∧ True := rngL_of _ _ True hl trivial
    exact (congrArg Tr.run (by kernel_rfl : evV Tryz.prog (table tab_skylightref01_Plus) 16 12 noKnown 190 [.int .i64 false n] = tr_skylightref01_Size n)).trans (run_skylightref01_Size n h_n)
  · cases h)
noncomputable def tab_skylightref01_Size : List (FuncId × Entry) := (190, e_skylightref01_Size) :: tab_skylightref01_Plus
theorem tok_skylightref01_Size : TableOk Tryz.prog (table tab_skylightref01_Size) := table_cons ok_skylightref01_Size tok_skylightref01_Plus

/-! skylightref01.Mul -/
def e_skylightref01_Mul : Entry := fun args => match args with | [.int .u64 false a, .int .u64 false b] => some (.leaf (.tuple [u6 (a*b/18446744073709551616), u6 (a*b%18446744073709551616)])) | _ => none
theorem ok_skylightref01_Mul : EntryOk Tryz.prog 191 e_skylightref01_Mul := entry_ok progOk (T := table tab_skylightref01_Size) tok_skylightref01_Size 16 12 noKnown (fun _ _ _ _ => noKnown_ok) (by
  intro args t v h hv
  unfold e_skylightref01_Mul at h
  split at h
  · cases h
    cases hv
    refine ⟨rfl, by kernel_rfl, fun φ cs hl => ?_⟩
    rename_i a b
    obtain ⟨h_a, h_b, _⟩ : InR .u64 a ∧ InR .u64 b ∧ True := rngL_of _ _ True hl trivial
    exact (congrArg Tr.run (by kernel_rfl : evV Tryz.prog (table tab_skylightref01_Size) 16 12 noKnown 191 [.int .u64 false a, .int .u64 false b] = tr_skylightref01_Mul a b)).trans (run_skylightref01_Mul a b h_a h_b)
  · cases h)
noncomputable def tab_skylightref01_Mul : List (FuncId × Entry) := (191, e_skylightref01_Mul) :: tab_skylightref01_Size
theorem tok_skylightref01_Mul : TableOk Tryz.prog (table tab_skylightref01_Mul) := table_cons ok_skylightref01_Mul tok_skylightref01_Size

/-! skylightref01.Times -/
def e_skylightref01_Times : Entry := fun args => match args with | [.int .i64 false a, .int .i64 false b] => some (.leaf (i6 (sat (a * b)))) | _ => none
theorem ok_skylightref01_Times : EntryOk Tryz.prog 146 e_skylightref01_Times := entry_ok progOk (T := table tab_skylightref01_Mul) tok_skylightref01_Mul 16 12 noKnown (fun _ _ _ _ => noKnown_ok) (by
  intro args t v h hv
  unfold e_skylightref01_Times at h
  split at h
  · cases h
    cases hv
    refine ⟨rfl, by kernel_rfl, fun φ cs hl => ?_⟩
    rename_i a b
    obtain ⟨h_a, h_b, _⟩ : InR .i64 a ∧ InR .i64 b ∧ True := rngL_of _ _ True hl trivial
    exact (congrArg Tr.run (by kernel_rfl : evV Tryz.prog (table tab_skylightref01_Mul) 16 12 noKnown 146 [.int .i64 false a, .int .i64 false b] = tr_skylightref01_Times a b)).trans (run_skylightref01_Times a b h_a h_b)
  · cases h)
noncomputable def tab_skylightref01_Times : List (FuncId × Entry) := (146, e_skylightref01_Times) :: tab_skylightref01_Mul
theorem tok_skylightref01_Times : TableOk Tryz.prog (table tab_skylightref01_Times) := table_cons ok_skylightref01_Times tok_skylightref01_Mul

/-! skylightref01.Div -/
def e_skylightref01_Div : Entry := fun args => match args with | [.int .i64 false a, .int .i64 false b] => some (.leaf (i6 (if 1 ≤ b then a / b else 0))) | _ => none
theorem ok_skylightref01_Div : EntryOk Tryz.prog 92 e_skylightref01_Div := entry_ok progOk (T := table tab_skylightref01_Times) tok_skylightref01_Times 16 12 noKnown (fun _ _ _ _ => noKnown_ok) (by
  intro args t v h hv
  unfold e_skylightref01_Div at h
  split at h
  · cases h
    cases hv
    refine ⟨rfl, by kernel_rfl, fun φ cs hl => ?_⟩
    rename_i a b
    obtain ⟨h_a, h_b, _⟩ : InR .i64 a ∧ InR .i64 b ∧ True := rngL_of _ _ True hl trivial
    exact (congrArg Tr.run (by kernel_rfl : evV Tryz.prog (table tab_skylightref01_Times) 16 12 noKnown 92 [.int .i64 false a, .int .i64 false b] = tr_skylightref01_Div a b)).trans (run_skylightref01_Div a b h_a h_b)
  · cases h)
noncomputable def tab_skylightref01_Div : List (FuncId × Entry) := (92, e_skylightref01_Div) :: tab_skylightref01_Times
theorem tok_skylightref01_Div : TableOk Tryz.prog (table tab_skylightref01_Div) := table_cons ok_skylightref01_Div tok_skylightref01_Times

/-! skylightref03.Right -/
def e_skylightref03_Right : Entry := fun args => match args with | [.agg [.int .i64 false f_n, .int .i64 false f_d]] => some (.leaf (bb (decide (f_d ≥ 1)))) | _ => none
theorem ok_skylightref03_Right : EntryOk Tryz.prog 60 e_skylightref03_Right := entry_ok progOk (T := table tab_skylightref01_Div) tok_skylightref01_Div 16 12 noKnown (fun _ _ _ _ => noKnown_ok) (by
  intro args t v h hv
  unfold e_skylightref03_Right at h
  split at h
  · cases h
    cases hv
    refine ⟨rfl, by kernel_rfl, fun φ cs hl => ?_⟩
    rename_i f_n f_d
    obtain ⟨h_f_n, h_f_d, _⟩ : InR .i64 f_n ∧ InR .i64 f_d ∧ True := rngL_of _ _ True hl trivial
    exact (congrArg Tr.run (by kernel_rfl : evV Tryz.prog (table tab_skylightref01_Div) 16 12 noKnown 60 [.agg [.int .i64 false f_n, .int .i64 false f_d]] = tr_skylightref03_Right f_n f_d)).trans (run_skylightref03_Right f_n f_d h_f_n h_f_d)
  · cases h)
noncomputable def tab_skylightref03_Right : List (FuncId × Entry) := (60, e_skylightref03_Right) :: tab_skylightref01_Div
theorem tok_skylightref03_Right : TableOk Tryz.prog (table tab_skylightref03_Right) := table_cons ok_skylightref03_Right tok_skylightref01_Div

/-! skylightref06.Add -/
def e_skylightref06_Add : Entry := fun args => match args with | [.agg [.int .i64 false a_x, .int .i64 false a_y, .int .i64 false a_z], .agg [.int .i64 false b_x, .int .i64 false b_y, .int .i64 false b_z]] => some (.leaf (v3 (sat (a_x + b_x)) (sat (a_y + b_y)) (sat (a_z + b_z)))) | _ => none
theorem ok_skylightref06_Add : EntryOk Tryz.prog 145 e_skylightref06_Add := entry_ok progOk (T := table tab_skylightref03_Right) tok_skylightref03_Right 16 12 noKnown (fun _ _ _ _ => noKnown_ok) (by
  intro args t v h hv
  unfold e_skylightref06_Add at h
  split at h
  · cases h
    cases hv
    refine ⟨rfl, by kernel_rfl, fun φ cs hl => ?_⟩
    rename_i a_x a_y a_z b_x b_y b_z
    obtain ⟨h_a_x, h_a_y, h_a_z, h_b_x, h_b_y, h_b_z, _⟩ : InR .i64 a_x ∧ InR .i64 a_y ∧ InR .i64 a_z ∧ InR .i64 b_x ∧ InR .i64 b_y ∧ InR .i64 b_z ∧ True := rngL_of _ _ True hl trivial
    exact (congrArg Tr.run (by kernel_rfl : evV Tryz.prog (table tab_skylightref03_Right) 16 12 noKnown 145 [.agg [.int .i64 false a_x, .int .i64 false a_y, .int .i64 false a_z], .agg [.int .i64 false b_x, .int .i64 false b_y, .int .i64 false b_z]] = tr_skylightref06_Add a_x a_y a_z b_x b_y b_z)).trans (run_skylightref06_Add a_x a_y a_z b_x b_y b_z h_a_x h_a_y h_a_z h_b_x h_b_y h_b_z)
  · cases h)
noncomputable def tab_skylightref06_Add : List (FuncId × Entry) := (145, e_skylightref06_Add) :: tab_skylightref03_Right
theorem tok_skylightref06_Add : TableOk Tryz.prog (table tab_skylightref06_Add) := table_cons ok_skylightref06_Add tok_skylightref03_Right

/-! skylightref06.Sub -/
def e_skylightref06_Sub : Entry := fun args => match args with | [.agg [.int .i64 false a_x, .int .i64 false a_y, .int .i64 false a_z], .agg [.int .i64 false b_x, .int .i64 false b_y, .int .i64 false b_z]] => some (.leaf (v3 (sat (a_x + sat (b_x * -1))) (sat (a_y + sat (b_y * -1))) (sat (a_z + sat (b_z * -1))))) | _ => none
theorem ok_skylightref06_Sub : EntryOk Tryz.prog 77 e_skylightref06_Sub := entry_ok progOk (T := table tab_skylightref06_Add) tok_skylightref06_Add 16 12 noKnown (fun _ _ _ _ => noKnown_ok) (by
  intro args t v h hv
  unfold e_skylightref06_Sub at h
  split at h
  · cases h
    cases hv
    refine ⟨rfl, by kernel_rfl, fun φ cs hl => ?_⟩
    rename_i a_x a_y a_z b_x b_y b_z
    obtain ⟨h_a_x, h_a_y, h_a_z, h_b_x, h_b_y, h_b_z, _⟩ : InR .i64 a_x ∧ InR .i64 a_y ∧ InR .i64 a_z ∧ InR .i64 b_x ∧ InR .i64 b_y ∧ InR .i64 b_z ∧ True := rngL_of _ _ True hl trivial
    exact (congrArg Tr.run (by kernel_rfl : evV Tryz.prog (table tab_skylightref06_Add) 16 12 noKnown 77 [.agg [.int .i64 false a_x, .int .i64 false a_y, .int .i64 false a_z], .agg [.int .i64 false b_x, .int .i64 false b_y, .int .i64 false b_z]] = tr_skylightref06_Sub a_x a_y a_z b_x b_y b_z)).trans (run_skylightref06_Sub a_x a_y a_z b_x b_y b_z h_a_x h_a_y h_a_z h_b_x h_b_y h_b_z)
  · cases h)
noncomputable def tab_skylightref06_Sub : List (FuncId × Entry) := (77, e_skylightref06_Sub) :: tab_skylightref06_Add
theorem tok_skylightref06_Sub : TableOk Tryz.prog (table tab_skylightref06_Sub) := table_cons ok_skylightref06_Sub tok_skylightref06_Add

/-! skylightref06.Dot -/
def e_skylightref06_Dot : Entry := fun args => match args with | [.agg [.int .i64 false a_x, .int .i64 false a_y, .int .i64 false a_z], .agg [.int .i64 false b_x, .int .i64 false b_y, .int .i64 false b_z]] => some (.leaf (i6 (dotN a_x a_y a_z b_x b_y b_z))) | _ => none
theorem ok_skylightref06_Dot : EntryOk Tryz.prog 37 e_skylightref06_Dot := entry_ok progOk (T := table tab_skylightref06_Sub) tok_skylightref06_Sub 16 12 noKnown (fun _ _ _ _ => noKnown_ok) (by
  intro args t v h hv
  unfold e_skylightref06_Dot at h
  split at h
  · cases h
    cases hv
    refine ⟨rfl, by kernel_rfl, fun φ cs hl => ?_⟩
    rename_i a_x a_y a_z b_x b_y b_z
    obtain ⟨h_a_x, h_a_y, h_a_z, h_b_x, h_b_y, h_b_z, _⟩ : InR .i64 a_x ∧ InR .i64 a_y ∧ InR .i64 a_z ∧ InR .i64 b_x ∧ InR .i64 b_y ∧ InR .i64 b_z ∧ True := rngL_of _ _ True hl trivial
    exact (congrArg Tr.run (by kernel_rfl : evV Tryz.prog (table tab_skylightref06_Sub) 16 12 noKnown 37 [.agg [.int .i64 false a_x, .int .i64 false a_y, .int .i64 false a_z], .agg [.int .i64 false b_x, .int .i64 false b_y, .int .i64 false b_z]] = tr_skylightref06_Dot a_x a_y a_z b_x b_y b_z)).trans (run_skylightref06_Dot a_x a_y a_z b_x b_y b_z h_a_x h_a_y h_a_z h_b_x h_b_y h_b_z)
  · cases h)
noncomputable def tab_skylightref06_Dot : List (FuncId × Entry) := (37, e_skylightref06_Dot) :: tab_skylightref06_Sub
theorem tok_skylightref06_Dot : TableOk Tryz.prog (table tab_skylightref06_Dot) := table_cons ok_skylightref06_Dot tok_skylightref06_Sub

/-! skylightref06.Cross -/
def e_skylightref06_Cross : Entry := fun args => match args with | [.agg [.int .i64 false a_x, .int .i64 false a_y, .int .i64 false a_z], .agg [.int .i64 false b_x, .int .i64 false b_y, .int .i64 false b_z]] => some (.leaf (v3 (crN a_y a_z b_y b_z a_x b_x) (crN a_z a_x b_z b_x a_y b_y) (crN a_x a_y b_x b_y a_z b_z))) | _ => none
theorem ok_skylightref06_Cross : EntryOk Tryz.prog 173 e_skylightref06_Cross := entry_ok progOk (T := table tab_skylightref06_Dot) tok_skylightref06_Dot 16 12 noKnown (fun _ _ _ _ => noKnown_ok) (by
  intro args t v h hv
  unfold e_skylightref06_Cross at h
  split at h
  · cases h
    cases hv
    refine ⟨rfl, by kernel_rfl, fun φ cs hl => ?_⟩
    rename_i a_x a_y a_z b_x b_y b_z
    obtain ⟨h_a_x, h_a_y, h_a_z, h_b_x, h_b_y, h_b_z, _⟩ : InR .i64 a_x ∧ InR .i64 a_y ∧ InR .i64 a_z ∧ InR .i64 b_x ∧ InR .i64 b_y ∧ InR .i64 b_z ∧ True := rngL_of _ _ True hl trivial
    exact (congrArg Tr.run (by kernel_rfl : evV Tryz.prog (table tab_skylightref06_Dot) 16 12 noKnown 173 [.agg [.int .i64 false a_x, .int .i64 false a_y, .int .i64 false a_z], .agg [.int .i64 false b_x, .int .i64 false b_y, .int .i64 false b_z]] = tr_skylightref06_Cross a_x a_y a_z b_x b_y b_z)).trans (run_skylightref06_Cross a_x a_y a_z b_x b_y b_z h_a_x h_a_y h_a_z h_b_x h_b_y h_b_z)
  · cases h)
noncomputable def tab_skylightref06_Cross : List (FuncId × Entry) := (173, e_skylightref06_Cross) :: tab_skylightref06_Dot
theorem tok_skylightref06_Cross : TableOk Tryz.prog (table tab_skylightref06_Cross) := table_cons ok_skylightref06_Cross tok_skylightref06_Dot

/-! skylightref06.Volume -/
def e_skylightref06_Volume : Entry := fun args => match args with | [.agg [.int .i64 false a_x, .int .i64 false a_y, .int .i64 false a_z], .agg [.int .i64 false b_x, .int .i64 false b_y, .int .i64 false b_z], .agg [.int .i64 false c_x, .int .i64 false c_y, .int .i64 false c_z]] => some (.leaf (i6 (volN a_x a_y a_z b_x b_y b_z c_x c_y c_z))) | _ => none
theorem ok_skylightref06_Volume : EntryOk Tryz.prog 168 e_skylightref06_Volume := entry_ok progOk (T := table tab_skylightref06_Cross) tok_skylightref06_Cross 16 12 noKnown (fun _ _ _ _ => noKnown_ok) (by
  intro args t v h hv
  unfold e_skylightref06_Volume at h
  split at h
  · cases h
    cases hv
    refine ⟨rfl, by kernel_rfl, fun φ cs hl => ?_⟩
    rename_i a_x a_y a_z b_x b_y b_z c_x c_y c_z
    obtain ⟨h_a_x, h_a_y, h_a_z, h_b_x, h_b_y, h_b_z, h_c_x, h_c_y, h_c_z, _⟩ : InR .i64 a_x ∧ InR .i64 a_y ∧ InR .i64 a_z ∧ InR .i64 b_x ∧ InR .i64 b_y ∧ InR .i64 b_z ∧ InR .i64 c_x ∧ InR .i64 c_y ∧ InR .i64 c_z ∧ True := rngL_of _ _ True hl trivial
    exact (congrArg Tr.run (by kernel_rfl : evV Tryz.prog (table tab_skylightref06_Cross) 16 12 noKnown 168 [.agg [.int .i64 false a_x, .int .i64 false a_y, .int .i64 false a_z], .agg [.int .i64 false b_x, .int .i64 false b_y, .int .i64 false b_z], .agg [.int .i64 false c_x, .int .i64 false c_y, .int .i64 false c_z]] = tr_skylightref06_Volume a_x a_y a_z b_x b_y b_z c_x c_y c_z)).trans (run_skylightref06_Volume a_x a_y a_z b_x b_y b_z c_x c_y c_z h_a_x h_a_y h_a_z h_b_x h_b_y h_b_z h_c_x h_c_y h_c_z)
  · cases h)
noncomputable def tab_skylightref06_Volume : List (FuncId × Entry) := (168, e_skylightref06_Volume) :: tab_skylightref06_Cross
theorem tok_skylightref06_Volume : TableOk Tryz.prog (table tab_skylightref06_Volume) := table_cons ok_skylightref06_Volume tok_skylightref06_Cross

/-! skylightref06.Len -/
def e_skylightref06_Len : Entry := fun args => match args with | [.agg [.int .i64 false v_x, .int .i64 false v_y, .int .i64 false v_z]] => some (.leaf (i6 (isq (dotN v_x v_y v_z v_x v_y v_z)))) | _ => none
theorem ok_skylightref06_Len : EntryOk Tryz.prog 36 e_skylightref06_Len := entry_ok progOk (T := table tab_skylightref06_Volume) tok_skylightref06_Volume 16 12 noKnown (fun _ _ _ _ => noKnown_ok) (by
  intro args t v h hv
  unfold e_skylightref06_Len at h
  split at h
  · cases h
    cases hv
    refine ⟨rfl, by kernel_rfl, fun φ cs hl => ?_⟩
    rename_i v_x v_y v_z
    obtain ⟨h_v_x, h_v_y, h_v_z, _⟩ : InR .i64 v_x ∧ InR .i64 v_y ∧ InR .i64 v_z ∧ True := rngL_of _ _ True hl trivial
    exact (congrArg Tr.run (by kernel_rfl : evV Tryz.prog (table tab_skylightref06_Volume) 16 12 noKnown 36 [.agg [.int .i64 false v_x, .int .i64 false v_y, .int .i64 false v_z]] = tr_skylightref06_Len v_x v_y v_z)).trans (run_skylightref06_Len v_x v_y v_z h_v_x h_v_y h_v_z)
  · cases h)
noncomputable def tab_skylightref06_Len : List (FuncId × Entry) := (36, e_skylightref06_Len) :: tab_skylightref06_Volume
theorem tok_skylightref06_Len : TableOk Tryz.prog (table tab_skylightref06_Len) := table_cons ok_skylightref06_Len tok_skylightref06_Volume

/-! skylightref06.toward -/
def e_skylightref06_toward : Entry := fun args => match args with | [.int .i64 false a, .int .i64 false b] => some (.leaf (i6 (towS a b))) | _ => none
theorem ok_skylightref06_toward : EntryOk Tryz.prog 100 e_skylightref06_toward := entry_ok progOk (T := table tab_skylightref06_Len) tok_skylightref06_Len 16 12 noKnown (fun _ _ _ _ => noKnown_ok) (by
  intro args t v h hv
  unfold e_skylightref06_toward at h
  split at h
  · cases h
    cases hv
    refine ⟨rfl, by kernel_rfl, fun φ cs hl => ?_⟩
    rename_i a b
    obtain ⟨h_a, h_b, _⟩ : InR .i64 a ∧ InR .i64 b ∧ True := rngL_of _ _ True hl trivial
    exact (congrArg Tr.run (by kernel_rfl : evV Tryz.prog (table tab_skylightref06_Len) 16 12 noKnown 100 [.int .i64 false a, .int .i64 false b] = tr_skylightref06_toward a b)).trans (run_skylightref06_toward a b h_a h_b)
  · cases h)
noncomputable def tab_skylightref06_toward : List (FuncId × Entry) := (100, e_skylightref06_toward) :: tab_skylightref06_Len
theorem tok_skylightref06_toward : TableOk Tryz.prog (table tab_skylightref06_toward) := table_cons ok_skylightref06_toward tok_skylightref06_Len

/-! vec.Scale -/
def e_vec_Scale : Entry := fun args => match args with | [.agg [.int .i64 false v_x, .int .i64 false v_y, .int .i64 false v_z], .agg [.int .i64 false f_n, .int .i64 false f_d]] => some (.leaf (v3 (atF v_x f_n f_d) (atF v_y f_n f_d) (atF v_z f_n f_d))) | _ => none
theorem ok_vec_Scale : EntryOk Tryz.prog 274 e_vec_Scale := entry_ok progOk (T := table tab_skylightref06_toward) tok_skylightref06_toward 16 12 noKnown (fun _ _ _ _ => noKnown_ok) (by
  intro args t v h hv
  unfold e_vec_Scale at h
  split at h
  · cases h
    cases hv
    refine ⟨rfl, by kernel_rfl, fun φ cs hl => ?_⟩
    rename_i v_x v_y v_z f_n f_d
    obtain ⟨h_v_x, h_v_y, h_v_z, h_f_n, h_f_d, _⟩ : InR .i64 v_x ∧ InR .i64 v_y ∧ InR .i64 v_z ∧ InR .i64 f_n ∧ InR .i64 f_d ∧ True := rngL_of _ _ True hl trivial
    exact (congrArg Tr.run (by kernel_rfl : evV Tryz.prog (table tab_skylightref06_toward) 16 12 noKnown 274 [.agg [.int .i64 false v_x, .int .i64 false v_y, .int .i64 false v_z], .agg [.int .i64 false f_n, .int .i64 false f_d]] = tr_vec_Scale v_x v_y v_z f_n f_d)).trans (run_vec_Scale v_x v_y v_z f_n f_d h_v_x h_v_y h_v_z h_f_n h_f_d)
  · cases h)
noncomputable def tab_vec_Scale : List (FuncId × Entry) := (274, e_vec_Scale) :: tab_skylightref06_toward
theorem tok_vec_Scale : TableOk Tryz.prog (table tab_vec_Scale) := table_cons ok_vec_Scale tok_skylightref06_toward

end Go.Proofs.YtpljpbmkklcbkaaGreat

/- Entries of the table: what functions give. -/
set_option linter.unusedSimpArgs false
set_option linter.unusedVariables false
namespace Go.Proofs.YtpljpbmkklcbkaaGreat
open Go Go.Sky
set_option maxRecDepth 100000

/-! skylightref01.Part -/
def e_skylightref01_Part : Entry := fun args => match args with | [.int .u64 false a, .int .u64 false b, .int .u64 false c] => some (.leaf (.tuple [u6 (partQ (a * b) c), bb (decide (a * b / 18446744073709551616 < c))])) | _ => none
noncomputable def O_skylightref01_Part_0 : Known := known 0 (piece Tryz.prog (table tab_vec_Scale) noKnown 192 0 54 [10, 11, 12, 13, 23, 24, 25, 26, 27, 28, 29, 30, 31, 32, 33, 34, 35, 36, 37, 38, 39, 40, 41, 42, 43, 44, 45, 46, 47, 48, 49, 50, 51, 52] [2, 8, 9, 10, 11] g_skylightref01_Part_0) noKnown
theorem O_skylightref01_Part_0_ok : ∀ fn c, Tryz.prog.funcs[192]? = some fn → fn.body = some c → KnownOk Tryz.prog O_skylightref01_Part_0 (blocksOf c) :=
  known_ok (by kernel_rfl) (piece_wp progOk tok_vec_Scale (known_in (by kernel_rfl) (fun _ _ _ _ => noKnown_ok)) (piece_skylightref01_Part_0 (by kernel_rfl) (by kernel_rfl) (fun L c hi lo q i x0 x1 x3 x4 x5 x6 x7 x12 x13 x14 x15 x16 x17 x18 x19 x20 x21 x22 x23 x24 x25 x26 x27 x28 x29 x30 x31 x32 x33 x34 x35 x36 x37 x38 x39 x40 x41 x42 x43 x44 x45 x46 x47 x48 x49 x50 x51 x52 x53 h => by kernel_rfl))) (fun _ _ _ _ => noKnown_ok)
theorem ok_skylightref01_Part : EntryOk Tryz.prog 192 e_skylightref01_Part := entry_ok progOk (T := table tab_vec_Scale) tok_vec_Scale 16 12 O_skylightref01_Part_0 O_skylightref01_Part_0_ok (by
  intro args t v h hv
  unfold e_skylightref01_Part at h
  split at h
  · cases h
    cases hv
    refine ⟨rfl, by kernel_rfl, fun φ cs hl => ?_⟩
    rename_i a b c
    obtain ⟨h_a, h_b, h_c, _⟩ : InR .u64 a ∧ InR .u64 b ∧ InR .u64 c ∧ True := rngL_of _ _ True hl trivial
    exact (congrArg Tr.run (by kernel_rfl : evV Tryz.prog (table tab_vec_Scale) 16 12 O_skylightref01_Part_0 192 [.int .u64 false a, .int .u64 false b, .int .u64 false c] = tr_skylightref01_Part a b c)).trans (run_skylightref01_Part a b c h_a h_b h_c)
  · cases h)
noncomputable def tab_skylightref01_Part : List (FuncId × Entry) := (192, e_skylightref01_Part) :: tab_vec_Scale
theorem tok_skylightref01_Part : TableOk Tryz.prog (table tab_skylightref01_Part) := table_cons ok_skylightref01_Part tok_vec_Scale

end Go.Proofs.YtpljpbmkklcbkaaGreat

/- Entries of the table: what functions give. -/
set_option linter.unusedSimpArgs false
set_option linter.unusedVariables false
namespace Go.Proofs.YtpljpbmkklcbkaaGreat
open Go Go.Sky
set_option maxRecDepth 100000

/-! skylightref03.At -/
def e_skylightref03_At : Entry := fun args => match args with | [.int .i64 false v, .agg [.int .i64 false f_n, .int .i64 false f_d]] => some (.leaf (i6 (atF v f_n f_d))) | _ => none
theorem ok_skylightref03_At : EntryOk Tryz.prog 143 e_skylightref03_At := entry_ok progOk (T := table tab_skylightref01_Part) tok_skylightref01_Part 16 12 noKnown (fun _ _ _ _ => noKnown_ok) (by
  intro args t v h hv
  unfold e_skylightref03_At at h
  split at h
  · cases h
    cases hv
    refine ⟨rfl, by kernel_rfl, fun φ cs hl => ?_⟩
    rename_i v f_n f_d
    obtain ⟨h_v, h_f_n, h_f_d, _⟩ : InR .i64 v ∧ InR .i64 f_n ∧ InR .i64 f_d ∧ True := rngL_of _ _ True hl trivial
    exact (congrArg Tr.run (by kernel_rfl : evV Tryz.prog (table tab_skylightref01_Part) 16 12 noKnown 143 [.int .i64 false v, .agg [.int .i64 false f_n, .int .i64 false f_d]] = tr_skylightref03_At v f_n f_d)).trans (run_skylightref03_At v f_n f_d h_v h_f_n h_f_d)
  · cases h)
noncomputable def tab_skylightref03_At : List (FuncId × Entry) := (143, e_skylightref03_At) :: tab_skylightref01_Part
theorem tok_skylightref03_At : TableOk Tryz.prog (table tab_skylightref03_At) := table_cons ok_skylightref03_At tok_skylightref01_Part

/-! skylightref06.within -/
def e_skylightref06_within : Entry := fun args => match args with | [.agg [.int .i64 false v_x, .int .i64 false v_y, .int .i64 false v_z], .int .i64 false n] => some (.node (decide (-9223372036854775808 < n)) (.leaf (bb (decide ((-n ≤ v_x ∧ v_x ≤ n) ∧ (-n ≤ v_y ∧ v_y ≤ n) ∧ (-n ≤ v_z ∧ v_z ≤ n))))) .bad) | _ => none
theorem ok_skylightref06_within : EntryOk Tryz.prog 98 e_skylightref06_within := entry_ok progOk (T := table tab_skylightref03_At) tok_skylightref03_At 16 12 noKnown (fun _ _ _ _ => noKnown_ok) (by
  intro args t v h hv
  unfold e_skylightref06_within at h
  split at h
  · cases h
    simp only [Tr.run] at hv
    split at hv
    rotate_left
    · cases hv
    rename_i hpre0
    have hpre := of_decide_eq_true hpre0
    cases hv
    refine ⟨rfl, by kernel_rfl, fun φ cs hl => ?_⟩
    rename_i v_x v_y v_z n
    obtain ⟨h_v_x, h_v_y, h_v_z, h_n, _⟩ : InR .i64 v_x ∧ InR .i64 v_y ∧ InR .i64 v_z ∧ InR .i64 n ∧ True := rngL_of _ _ True hl trivial
    exact (congrArg Tr.run (by kernel_rfl : evV Tryz.prog (table tab_skylightref03_At) 16 12 noKnown 98 [.agg [.int .i64 false v_x, .int .i64 false v_y, .int .i64 false v_z], .int .i64 false n] = tr_skylightref06_within v_x v_y v_z n)).trans (run_skylightref06_within v_x v_y v_z n h_v_x h_v_y h_v_z h_n hpre)
  · cases h)
noncomputable def tab_skylightref06_within : List (FuncId × Entry) := (98, e_skylightref06_within) :: tab_skylightref03_At
theorem tok_skylightref06_within : TableOk Tryz.prog (table tab_skylightref06_within) := table_cons ok_skylightref06_within tok_skylightref03_At

end Go.Proofs.YtpljpbmkklcbkaaGreat

/- Entries of the table: what functions give. -/
set_option linter.unusedSimpArgs false
set_option linter.unusedVariables false
namespace Go.Proofs.YtpljpbmkklcbkaaGreat
open Go Go.Sky
set_option maxRecDepth 100000

/-! skylightref06.Even -/
def e_skylightref06_Even : Entry := fun args => match args with | [.agg [.int .i64 false v_x, .int .i64 false v_y, .int .i64 false v_z]] => some (.node (decide (1 ≤ mostI v_x v_y v_z ∧ mostI v_x v_y v_z ≤ 4611686018427387904)) (.leaf (v3 (nrm v_x v_y v_z v_x) (nrm v_x v_y v_z v_y) (nrm v_x v_y v_z v_z))) .bad) | _ => none
noncomputable def O_skylightref06_Even_0 : Known := known 0 (piece Tryz.prog (table tab_skylightref06_within) noKnown 99 0 29 [3, 4, 5, 6, 7, 8, 9, 10, 11, 12, 13, 14] [1] g_skylightref06_Even_0) noKnown
theorem O_skylightref06_Even_0_ok : ∀ fn c, Tryz.prog.funcs[99]? = some fn → fn.body = some c → KnownOk Tryz.prog O_skylightref06_Even_0 (blocksOf c) :=
  known_ok (by kernel_rfl) (piece_wp progOk tok_skylightref06_within (known_in (by kernel_rfl) (fun _ _ _ _ => noKnown_ok)) (piece_skylightref06_Even_0 (by kernel_rfl) (by kernel_rfl) (fun L t_x t_y t_z q_x q_y q_z x0 x2 x3 x4 x5 x6 x7 x8 x9 x10 x11 x12 x13 x14 x15 x16 x17 x18 x19 x20 x21 x22 x23 x24 x25 x26 x27 x28 => by kernel_rfl))) (fun _ _ _ _ => noKnown_ok)
noncomputable def O_skylightref06_Even_2 : Known := known 2 (piece Tryz.prog (table tab_skylightref06_within) O_skylightref06_Even_0 99 2 29 [15, 16, 17, 18, 19, 20, 21, 22, 23, 24, 25, 26, 27] [1] g_skylightref06_Even_2) O_skylightref06_Even_0
theorem O_skylightref06_Even_2_ok : ∀ fn c, Tryz.prog.funcs[99]? = some fn → fn.body = some c → KnownOk Tryz.prog O_skylightref06_Even_2 (blocksOf c) :=
  known_ok (by kernel_rfl) (piece_wp progOk tok_skylightref06_within (known_in (by kernel_rfl) O_skylightref06_Even_0_ok) (piece_skylightref06_Even_2 (by kernel_rfl) (by kernel_rfl) (fun L t_x t_y t_z q_x q_y q_z x0 x2 x3 x4 x5 x6 x7 x8 x9 x10 x11 x12 x13 x14 x15 x16 x17 x18 x19 x20 x21 x22 x23 x24 x25 x26 x27 x28 => by kernel_rfl))) O_skylightref06_Even_0_ok
theorem ok_skylightref06_Even : EntryOk Tryz.prog 99 e_skylightref06_Even := entry_ok progOk (T := table tab_skylightref06_within) tok_skylightref06_within 16 12 O_skylightref06_Even_2 O_skylightref06_Even_2_ok (by
  intro args t v h hv
  unfold e_skylightref06_Even at h
  split at h
  · cases h
    simp only [Tr.run] at hv
    split at hv
    rotate_left
    · cases hv
    rename_i hpre0
    have hpre := of_decide_eq_true hpre0
    cases hv
    refine ⟨rfl, by kernel_rfl, fun φ cs hl => ?_⟩
    rename_i v_x v_y v_z
    obtain ⟨h_v_x, h_v_y, h_v_z, _⟩ : InR .i64 v_x ∧ InR .i64 v_y ∧ InR .i64 v_z ∧ True := rngL_of _ _ True hl trivial
    exact (congrArg Tr.run (by kernel_rfl : evV Tryz.prog (table tab_skylightref06_within) 16 12 O_skylightref06_Even_2 99 [.agg [.int .i64 false v_x, .int .i64 false v_y, .int .i64 false v_z]] = tr_skylightref06_Even v_x v_y v_z)).trans (run_skylightref06_Even v_x v_y v_z h_v_x h_v_y h_v_z hpre)
  · cases h)
noncomputable def tab_skylightref06_Even : List (FuncId × Entry) := (99, e_skylightref06_Even) :: tab_skylightref06_within
theorem tok_skylightref06_Even : TableOk Tryz.prog (table tab_skylightref06_Even) := table_cons ok_skylightref06_Even tok_skylightref06_within

/-! skylightref06.Unit -/
def e_skylightref06_Unit : Entry := fun args => match args with | [.agg [.int .i64 false v_x, .int .i64 false v_y, .int .i64 false v_z]] => some (.leaf (.tuple [v3 (unitC v_x v_y v_z v_x) (unitC v_x v_y v_z v_y) (unitC v_x v_y v_z v_z), bb (okU v_x v_y v_z)])) | _ => none
theorem ok_skylightref06_Unit : EntryOk Tryz.prog 47 e_skylightref06_Unit := entry_ok progOk (T := table tab_skylightref06_Even) tok_skylightref06_Even 16 12 noKnown (fun _ _ _ _ => noKnown_ok) (by
  intro args t v h hv
  unfold e_skylightref06_Unit at h
  split at h
  · cases h
    cases hv
    refine ⟨rfl, by kernel_rfl, fun φ cs hl => ?_⟩
    rename_i v_x v_y v_z
    obtain ⟨h_v_x, h_v_y, h_v_z, _⟩ : InR .i64 v_x ∧ InR .i64 v_y ∧ InR .i64 v_z ∧ True := rngL_of _ _ True hl trivial
    exact (congrArg Tr.run (by kernel_rfl : evV Tryz.prog (table tab_skylightref06_Even) 16 12 noKnown 47 [.agg [.int .i64 false v_x, .int .i64 false v_y, .int .i64 false v_z]] = tr_skylightref06_Unit v_x v_y v_z)).trans (run_skylightref06_Unit v_x v_y v_z h_v_x h_v_y h_v_z)
  · cases h)
noncomputable def tab_skylightref06_Unit : List (FuncId × Entry) := (47, e_skylightref06_Unit) :: tab_skylightref06_Even
theorem tok_skylightref06_Unit : TableOk Tryz.prog (table tab_skylightref06_Unit) := table_cons ok_skylightref06_Unit tok_skylightref06_Even

end Go.Proofs.YtpljpbmkklcbkaaGreat

/- Entries of the table: what functions give. -/
set_option linter.unusedSimpArgs false
set_option linter.unusedVariables false
namespace Go.Proofs.YtpljpbmkklcbkaaGreat
open Go Go.Sky
set_option maxRecDepth 100000

/-! num.Div -/
def e_num_Div : Entry := fun args => match args with | [.int .i64 false a, .int .i64 false b] => some (.leaf (i6 (dv a b))) | _ => none
theorem ok_num_Div : EntryOk Tryz.prog 215 e_num_Div := entry_ok progOk (T := table tab_skylightref06_Unit) tok_skylightref06_Unit 16 12 noKnown (fun _ _ _ _ => noKnown_ok) (by
  intro args t v h hv
  unfold e_num_Div at h
  split at h
  · cases h
    cases hv
    refine ⟨rfl, by kernel_rfl, fun φ cs hl => ?_⟩
    rename_i a b
    obtain ⟨h_a, h_b, _⟩ : InR .i64 a ∧ InR .i64 b ∧ True := rngL_of _ _ True hl trivial
    exact (congrArg Tr.run (by kernel_rfl : evV Tryz.prog (table tab_skylightref06_Unit) 16 12 noKnown 215 [.int .i64 false a, .int .i64 false b] = tr_num_Div a b)).trans (run_num_Div a b h_a h_b)
  · cases h)
noncomputable def tab_num_Div : List (FuncId × Entry) := (215, e_num_Div) :: tab_skylightref06_Unit
theorem tok_num_Div : TableOk Tryz.prog (table tab_num_Div) := table_cons ok_num_Div tok_skylightref06_Unit

/-! num.Hold -/
def e_num_Hold : Entry := fun args => match args with | [.int .i64 false n, .int .i64 false low, .int .i64 false high] => some (.leaf (i6 (hold n low high))) | _ => none
theorem ok_num_Hold : EntryOk Tryz.prog 258 e_num_Hold := entry_ok progOk (T := table tab_num_Div) tok_num_Div 16 12 noKnown (fun _ _ _ _ => noKnown_ok) (by
  intro args t v h hv
  unfold e_num_Hold at h
  split at h
  · cases h
    cases hv
    refine ⟨rfl, by kernel_rfl, fun φ cs hl => ?_⟩
    rename_i n low high
    obtain ⟨h_n, h_low, h_high, _⟩ : InR .i64 n ∧ InR .i64 low ∧ InR .i64 high ∧ True := rngL_of _ _ True hl trivial
    exact (congrArg Tr.run (by kernel_rfl : evV Tryz.prog (table tab_num_Div) 16 12 noKnown 258 [.int .i64 false n, .int .i64 false low, .int .i64 false high] = tr_num_Hold n low high)).trans (run_num_Hold n low high h_n h_low h_high)
  · cases h)
noncomputable def tab_num_Hold : List (FuncId × Entry) := (258, e_num_Hold) :: tab_num_Div
theorem tok_num_Hold : TableOk Tryz.prog (table tab_num_Hold) := table_cons ok_num_Hold tok_num_Div

/-! skylightref01.Hold -/
def e_skylightref01_Hold : Entry := fun args => match args with | [.int .i64 false n, .int .i64 false low, .int .i64 false high] => some (.leaf (i6 (hold n low high))) | _ => none
theorem ok_skylightref01_Hold : EntryOk Tryz.prog 160 e_skylightref01_Hold := entry_ok progOk (T := table tab_num_Hold) tok_num_Hold 16 12 noKnown (fun _ _ _ _ => noKnown_ok) (by
  intro args t v h hv
  unfold e_skylightref01_Hold at h
  split at h
  · cases h
    cases hv
    refine ⟨rfl, by kernel_rfl, fun φ cs hl => ?_⟩
    rename_i n low high
    obtain ⟨h_n, h_low, h_high, _⟩ : InR .i64 n ∧ InR .i64 low ∧ InR .i64 high ∧ True := rngL_of _ _ True hl trivial
    exact (congrArg Tr.run (by kernel_rfl : evV Tryz.prog (table tab_num_Hold) 16 12 noKnown 160 [.int .i64 false n, .int .i64 false low, .int .i64 false high] = tr_skylightref01_Hold n low high)).trans (run_skylightref01_Hold n low high h_n h_low h_high)
  · cases h)
noncomputable def tab_skylightref01_Hold : List (FuncId × Entry) := (160, e_skylightref01_Hold) :: tab_num_Hold
theorem tok_skylightref01_Hold : TableOk Tryz.prog (table tab_skylightref01_Hold) := table_cons ok_skylightref01_Hold tok_num_Hold

/-! basis.Facing -/
def e_basis_Facing : Entry := fun args => match args with | [.agg [.int .i64 false n_x, .int .i64 false n_y, .int .i64 false n_z], .agg [.int .i64 false d_x, .int .i64 false d_y, .int .i64 false d_z]] => some (.leaf (v3 (facC n_x n_x n_y n_z d_x d_y d_z) (facC n_y n_x n_y n_z d_x d_y d_z) (facC n_z n_x n_y n_z d_x d_y d_z))) | _ => none
theorem ok_basis_Facing : EntryOk Tryz.prog 89 e_basis_Facing := entry_ok progOk (T := table tab_skylightref01_Hold) tok_skylightref01_Hold 16 12 noKnown (fun _ _ _ _ => noKnown_ok) (by
  intro args t v h hv
  unfold e_basis_Facing at h
  split at h
  · cases h
    cases hv
    refine ⟨rfl, by kernel_rfl, fun φ cs hl => ?_⟩
    rename_i n_x n_y n_z d_x d_y d_z
    obtain ⟨h_n_x, h_n_y, h_n_z, h_d_x, h_d_y, h_d_z, _⟩ : InR .i64 n_x ∧ InR .i64 n_y ∧ InR .i64 n_z ∧ InR .i64 d_x ∧ InR .i64 d_y ∧ InR .i64 d_z ∧ True := rngL_of _ _ True hl trivial
    exact (congrArg Tr.run (by kernel_rfl : evV Tryz.prog (table tab_skylightref01_Hold) 16 12 noKnown 89 [.agg [.int .i64 false n_x, .int .i64 false n_y, .int .i64 false n_z], .agg [.int .i64 false d_x, .int .i64 false d_y, .int .i64 false d_z]] = tr_basis_Facing n_x n_y n_z d_x d_y d_z)).trans (run_basis_Facing n_x n_y n_z d_x d_y d_z h_n_x h_n_y h_n_z h_d_x h_d_y h_d_z)
  · cases h)
noncomputable def tab_basis_Facing : List (FuncId × Entry) := (89, e_basis_Facing) :: tab_skylightref01_Hold
theorem tok_basis_Facing : TableOk Tryz.prog (table tab_basis_Facing) := table_cons ok_basis_Facing tok_skylightref01_Hold

/-! skylightref07.Facing -/
def e_skylightref07_Facing : Entry := fun args => match args with | [.agg [.int .i64 false n_x, .int .i64 false n_y, .int .i64 false n_z], .agg [.int .i64 false d_x, .int .i64 false d_y, .int .i64 false d_z]] => some (.leaf (v3 (facC n_x n_x n_y n_z d_x d_y d_z) (facC n_y n_x n_y n_z d_x d_y d_z) (facC n_z n_x n_y n_z d_x d_y d_z))) | _ => none
theorem ok_skylightref07_Facing : EntryOk Tryz.prog 51 e_skylightref07_Facing := entry_ok progOk (T := table tab_basis_Facing) tok_basis_Facing 16 12 noKnown (fun _ _ _ _ => noKnown_ok) (by
  intro args t v h hv
  unfold e_skylightref07_Facing at h
  split at h
  · cases h
    cases hv
    refine ⟨rfl, by kernel_rfl, fun φ cs hl => ?_⟩
    rename_i n_x n_y n_z d_x d_y d_z
    obtain ⟨h_n_x, h_n_y, h_n_z, h_d_x, h_d_y, h_d_z, _⟩ : InR .i64 n_x ∧ InR .i64 n_y ∧ InR .i64 n_z ∧ InR .i64 d_x ∧ InR .i64 d_y ∧ InR .i64 d_z ∧ True := rngL_of _ _ True hl trivial
    exact (congrArg Tr.run (by kernel_rfl : evV Tryz.prog (table tab_basis_Facing) 16 12 noKnown 51 [.agg [.int .i64 false n_x, .int .i64 false n_y, .int .i64 false n_z], .agg [.int .i64 false d_x, .int .i64 false d_y, .int .i64 false d_z]] = tr_skylightref07_Facing n_x n_y n_z d_x d_y d_z)).trans (run_skylightref07_Facing n_x n_y n_z d_x d_y d_z h_n_x h_n_y h_n_z h_d_x h_d_y h_d_z)
  · cases h)
noncomputable def tab_skylightref07_Facing : List (FuncId × Entry) := (51, e_skylightref07_Facing) :: tab_basis_Facing
theorem tok_skylightref07_Facing : TableOk Tryz.prog (table tab_skylightref07_Facing) := table_cons ok_skylightref07_Facing tok_basis_Facing

/-! bend.Back -/
def e_bend_Back : Entry := fun args => match args with | [.int .i64 false c, .int .i64 false n] => some (.leaf (i6 (backN c n))) | _ => none
theorem ok_bend_Back : EntryOk Tryz.prog 265 e_bend_Back := entry_ok progOk (T := table tab_skylightref07_Facing) tok_skylightref07_Facing 16 12 noKnown (fun _ _ _ _ => noKnown_ok) (by
  intro args t v h hv
  unfold e_bend_Back at h
  split at h
  · cases h
    cases hv
    refine ⟨rfl, by kernel_rfl, fun φ cs hl => ?_⟩
    rename_i c n
    obtain ⟨h_c, h_n, _⟩ : InR .i64 c ∧ InR .i64 n ∧ True := rngL_of _ _ True hl trivial
    exact (congrArg Tr.run (by kernel_rfl : evV Tryz.prog (table tab_skylightref07_Facing) 16 12 noKnown 265 [.int .i64 false c, .int .i64 false n] = tr_bend_Back c n)).trans (run_bend_Back c n h_c h_n)
  · cases h)
noncomputable def tab_bend_Back : List (FuncId × Entry) := (265, e_bend_Back) :: tab_skylightref07_Facing
theorem tok_bend_Back : TableOk Tryz.prog (table tab_bend_Back) := table_cons ok_bend_Back tok_skylightref07_Facing

/-! skylightref24.Back -/
def e_skylightref24_Back : Entry := fun args => match args with | [.int .i64 false c, .int .i64 false n] => some (.leaf (i6 (backN c n))) | _ => none
theorem ok_skylightref24_Back : EntryOk Tryz.prog 94 e_skylightref24_Back := entry_ok progOk (T := table tab_bend_Back) tok_bend_Back 16 12 noKnown (fun _ _ _ _ => noKnown_ok) (by
  intro args t v h hv
  unfold e_skylightref24_Back at h
  split at h
  · cases h
    cases hv
    refine ⟨rfl, by kernel_rfl, fun φ cs hl => ?_⟩
    rename_i c n
    obtain ⟨h_c, h_n, _⟩ : InR .i64 c ∧ InR .i64 n ∧ True := rngL_of _ _ True hl trivial
    exact (congrArg Tr.run (by kernel_rfl : evV Tryz.prog (table tab_bend_Back) 16 12 noKnown 94 [.int .i64 false c, .int .i64 false n] = tr_skylightref24_Back c n)).trans (run_skylightref24_Back c n h_c h_n)
  · cases h)
noncomputable def tab_skylightref24_Back : List (FuncId × Entry) := (94, e_skylightref24_Back) :: tab_bend_Back
theorem tok_skylightref24_Back : TableOk Tryz.prog (table tab_skylightref24_Back) := table_cons ok_skylightref24_Back tok_bend_Back

/-! bend.Cos -/
def e_bend_Cos : Entry := fun args => match args with | [.agg [.int .i64 false n_x, .int .i64 false n_y, .int .i64 false n_z], .agg [.int .i64 false d_x, .int .i64 false d_y, .int .i64 false d_z]] => some (.leaf (i6 (cosN n_x n_y n_z d_x d_y d_z))) | _ => none
theorem ok_bend_Cos : EntryOk Tryz.prog 266 e_bend_Cos := entry_ok progOk (T := table tab_skylightref24_Back) tok_skylightref24_Back 16 12 noKnown (fun _ _ _ _ => noKnown_ok) (by
  intro args t v h hv
  unfold e_bend_Cos at h
  split at h
  · cases h
    cases hv
    refine ⟨rfl, by kernel_rfl, fun φ cs hl => ?_⟩
    rename_i n_x n_y n_z d_x d_y d_z
    obtain ⟨h_n_x, h_n_y, h_n_z, h_d_x, h_d_y, h_d_z, _⟩ : InR .i64 n_x ∧ InR .i64 n_y ∧ InR .i64 n_z ∧ InR .i64 d_x ∧ InR .i64 d_y ∧ InR .i64 d_z ∧ True := rngL_of _ _ True hl trivial
    exact (congrArg Tr.run (by kernel_rfl : evV Tryz.prog (table tab_skylightref24_Back) 16 12 noKnown 266 [.agg [.int .i64 false n_x, .int .i64 false n_y, .int .i64 false n_z], .agg [.int .i64 false d_x, .int .i64 false d_y, .int .i64 false d_z]] = tr_bend_Cos n_x n_y n_z d_x d_y d_z)).trans (run_bend_Cos n_x n_y n_z d_x d_y d_z h_n_x h_n_y h_n_z h_d_x h_d_y h_d_z)
  · cases h)
noncomputable def tab_bend_Cos : List (FuncId × Entry) := (266, e_bend_Cos) :: tab_skylightref24_Back
theorem tok_bend_Cos : TableOk Tryz.prog (table tab_bend_Cos) := table_cons ok_bend_Cos tok_skylightref24_Back

/-! skylightref24.Cos -/
def e_skylightref24_Cos : Entry := fun args => match args with | [.agg [.int .i64 false n_x, .int .i64 false n_y, .int .i64 false n_z], .agg [.int .i64 false d_x, .int .i64 false d_y, .int .i64 false d_z]] => some (.leaf (i6 (cosN n_x n_y n_z d_x d_y d_z))) | _ => none
theorem ok_skylightref24_Cos : EntryOk Tryz.prog 95 e_skylightref24_Cos := entry_ok progOk (T := table tab_bend_Cos) tok_bend_Cos 16 12 noKnown (fun _ _ _ _ => noKnown_ok) (by
  intro args t v h hv
  unfold e_skylightref24_Cos at h
  split at h
  · cases h
    cases hv
    refine ⟨rfl, by kernel_rfl, fun φ cs hl => ?_⟩
    rename_i n_x n_y n_z d_x d_y d_z
    obtain ⟨h_n_x, h_n_y, h_n_z, h_d_x, h_d_y, h_d_z, _⟩ : InR .i64 n_x ∧ InR .i64 n_y ∧ InR .i64 n_z ∧ InR .i64 d_x ∧ InR .i64 d_y ∧ InR .i64 d_z ∧ True := rngL_of _ _ True hl trivial
    exact (congrArg Tr.run (by kernel_rfl : evV Tryz.prog (table tab_bend_Cos) 16 12 noKnown 95 [.agg [.int .i64 false n_x, .int .i64 false n_y, .int .i64 false n_z], .agg [.int .i64 false d_x, .int .i64 false d_y, .int .i64 false d_z]] = tr_skylightref24_Cos n_x n_y n_z d_x d_y d_z)).trans (run_skylightref24_Cos n_x n_y n_z d_x d_y d_z h_n_x h_n_y h_n_z h_d_x h_d_y h_d_z)
  · cases h)
noncomputable def tab_skylightref24_Cos : List (FuncId × Entry) := (95, e_skylightref24_Cos) :: tab_bend_Cos
theorem tok_skylightref24_Cos : TableOk Tryz.prog (table tab_skylightref24_Cos) := table_cons ok_skylightref24_Cos tok_bend_Cos

/-! bend.Sine -/
def e_bend_Sine : Entry := fun args => match args with | [.int .i64 false c, .int .i64 false a, .int .i64 false b] => some (.leaf (i6 (sineN c a b))) | _ => none
theorem ok_bend_Sine : EntryOk Tryz.prog 273 e_bend_Sine := entry_ok progOk (T := table tab_skylightref24_Cos) tok_skylightref24_Cos 16 12 noKnown (fun _ _ _ _ => noKnown_ok) (by
  intro args t v h hv
  unfold e_bend_Sine at h
  split at h
  · cases h
    cases hv
    refine ⟨rfl, by kernel_rfl, fun φ cs hl => ?_⟩
    rename_i c a b
    obtain ⟨h_c, h_a, h_b, _⟩ : InR .i64 c ∧ InR .i64 a ∧ InR .i64 b ∧ True := rngL_of _ _ True hl trivial
    exact (congrArg Tr.run (by kernel_rfl : evV Tryz.prog (table tab_skylightref24_Cos) 16 12 noKnown 273 [.int .i64 false c, .int .i64 false a, .int .i64 false b] = tr_bend_Sine c a b)).trans (run_bend_Sine c a b h_c h_a h_b)
  · cases h)
noncomputable def tab_bend_Sine : List (FuncId × Entry) := (273, e_bend_Sine) :: tab_skylightref24_Cos
theorem tok_bend_Sine : TableOk Tryz.prog (table tab_bend_Sine) := table_cons ok_bend_Sine tok_skylightref24_Cos

/-! skylightref24.Sine -/
def e_skylightref24_Sine : Entry := fun args => match args with | [.int .i64 false c, .int .i64 false a, .int .i64 false b] => some (.leaf (i6 (sineN c a b))) | _ => none
theorem ok_skylightref24_Sine : EntryOk Tryz.prog 158 e_skylightref24_Sine := entry_ok progOk (T := table tab_bend_Sine) tok_bend_Sine 16 12 noKnown (fun _ _ _ _ => noKnown_ok) (by
  intro args t v h hv
  unfold e_skylightref24_Sine at h
  split at h
  · cases h
    cases hv
    refine ⟨rfl, by kernel_rfl, fun φ cs hl => ?_⟩
    rename_i c a b
    obtain ⟨h_c, h_a, h_b, _⟩ : InR .i64 c ∧ InR .i64 a ∧ InR .i64 b ∧ True := rngL_of _ _ True hl trivial
    exact (congrArg Tr.run (by kernel_rfl : evV Tryz.prog (table tab_bend_Sine) 16 12 noKnown 158 [.int .i64 false c, .int .i64 false a, .int .i64 false b] = tr_skylightref24_Sine c a b)).trans (run_skylightref24_Sine c a b h_c h_a h_b)
  · cases h)
noncomputable def tab_skylightref24_Sine : List (FuncId × Entry) := (158, e_skylightref24_Sine) :: tab_bend_Sine
theorem tok_skylightref24_Sine : TableOk Tryz.prog (table tab_skylightref24_Sine) := table_cons ok_skylightref24_Sine tok_bend_Sine

/-! bend.Bend -/
def e_bend_Bend : Entry := fun args => match args with | [.agg [.int .i64 false d_x, .int .i64 false d_y, .int .i64 false d_z], .agg [.int .i64 false n_x, .int .i64 false n_y, .int .i64 false n_z], .int .i64 false a, .int .i64 false b] => some (.leaf (.tuple [v3 (bendU (bndC d_x n_x d_x d_y d_z n_x n_y n_z a b) d_x d_y d_z n_x n_y n_z a b) (bendU (bndC d_y n_y d_x d_y d_z n_x n_y n_z a b) d_x d_y d_z n_x n_y n_z a b) (bendU (bndC d_z n_z d_x d_y d_z n_x n_y n_z a b) d_x d_y d_z n_x n_y n_z a b), bb (bendIs d_x d_y d_z n_x n_y n_z a b)])) | _ => none
theorem ok_bend_Bend : EntryOk Tryz.prog 267 e_bend_Bend := entry_ok progOk (T := table tab_skylightref24_Sine) tok_skylightref24_Sine 16 12 noKnown (fun _ _ _ _ => noKnown_ok) (by
  intro args t v h hv
  unfold e_bend_Bend at h
  split at h
  · cases h
    cases hv
    refine ⟨rfl, by kernel_rfl, fun φ cs hl => ?_⟩
    rename_i d_x d_y d_z n_x n_y n_z a b
    obtain ⟨h_d_x, h_d_y, h_d_z, h_n_x, h_n_y, h_n_z, h_a, h_b, _⟩ : InR .i64 d_x ∧ InR .i64 d_y ∧ InR .i64 d_z ∧ InR .i64 n_x ∧ InR .i64 n_y ∧ InR .i64 n_z ∧ InR .i64 a ∧ InR .i64 b ∧ True := rngL_of _ _ True hl trivial
    exact (congrArg Tr.run (by kernel_rfl : evV Tryz.prog (table tab_skylightref24_Sine) 16 12 noKnown 267 [.agg [.int .i64 false d_x, .int .i64 false d_y, .int .i64 false d_z], .agg [.int .i64 false n_x, .int .i64 false n_y, .int .i64 false n_z], .int .i64 false a, .int .i64 false b] = tr_bend_Bend d_x d_y d_z n_x n_y n_z a b)).trans (run_bend_Bend d_x d_y d_z n_x n_y n_z a b h_d_x h_d_y h_d_z h_n_x h_n_y h_n_z h_a h_b)
  · cases h)
noncomputable def tab_bend_Bend : List (FuncId × Entry) := (267, e_bend_Bend) :: tab_skylightref24_Sine
theorem tok_bend_Bend : TableOk Tryz.prog (table tab_bend_Bend) := table_cons ok_bend_Bend tok_skylightref24_Sine

/-! skylightref24.Bend -/
def e_skylightref24_Bend : Entry := fun args => match args with | [.agg [.int .i64 false d_x, .int .i64 false d_y, .int .i64 false d_z], .agg [.int .i64 false n_x, .int .i64 false n_y, .int .i64 false n_z], .int .i64 false a, .int .i64 false b] => some (.leaf (.tuple [v3 (bendU (bndC d_x n_x d_x d_y d_z n_x n_y n_z a b) d_x d_y d_z n_x n_y n_z a b) (bendU (bndC d_y n_y d_x d_y d_z n_x n_y n_z a b) d_x d_y d_z n_x n_y n_z a b) (bendU (bndC d_z n_z d_x d_y d_z n_x n_y n_z a b) d_x d_y d_z n_x n_y n_z a b), bb (bendIs d_x d_y d_z n_x n_y n_z a b)])) | _ => none
theorem ok_skylightref24_Bend : EntryOk Tryz.prog 93 e_skylightref24_Bend := entry_ok progOk (T := table tab_bend_Bend) tok_bend_Bend 16 12 noKnown (fun _ _ _ _ => noKnown_ok) (by
  intro args t v h hv
  unfold e_skylightref24_Bend at h
  split at h
  · cases h
    cases hv
    refine ⟨rfl, by kernel_rfl, fun φ cs hl => ?_⟩
    rename_i d_x d_y d_z n_x n_y n_z a b
    obtain ⟨h_d_x, h_d_y, h_d_z, h_n_x, h_n_y, h_n_z, h_a, h_b, _⟩ : InR .i64 d_x ∧ InR .i64 d_y ∧ InR .i64 d_z ∧ InR .i64 n_x ∧ InR .i64 n_y ∧ InR .i64 n_z ∧ InR .i64 a ∧ InR .i64 b ∧ True := rngL_of _ _ True hl trivial
    exact (congrArg Tr.run (by kernel_rfl : evV Tryz.prog (table tab_bend_Bend) 16 12 noKnown 93 [.agg [.int .i64 false d_x, .int .i64 false d_y, .int .i64 false d_z], .agg [.int .i64 false n_x, .int .i64 false n_y, .int .i64 false n_z], .int .i64 false a, .int .i64 false b] = tr_skylightref24_Bend d_x d_y d_z n_x n_y n_z a b)).trans (run_skylightref24_Bend d_x d_y d_z n_x n_y n_z a b h_d_x h_d_y h_d_z h_n_x h_n_y h_n_z h_a h_b)
  · cases h)
noncomputable def tab_skylightref24_Bend : List (FuncId × Entry) := (93, e_skylightref24_Bend) :: tab_bend_Bend
theorem tok_skylightref24_Bend : TableOk Tryz.prog (table tab_skylightref24_Bend) := table_cons ok_skylightref24_Bend tok_bend_Bend

end Go.Proofs.YtpljpbmkklcbkaaGreat

/- Entries of the table: what functions give. -/
set_option linter.unusedSimpArgs false
set_option linter.unusedVariables false
namespace Go.Proofs.YtpljpbmkklcbkaaGreat
open Go Go.Sky
set_option maxRecDepth 100000

/-! matter.Power -/
def e_matter_Power : Entry := fun args => match args with | [.int .i64 false c, .int .i64 false e] => some (.leaf (i6 (powN c e))) | _ => none
noncomputable def O_matter_Power_0 : Known := known 0 (piece Tryz.prog (table tab_skylightref24_Bend) noKnown 42 0 29 [5, 21, 22, 23, 24, 25, 26, 27] [0, 5, 20, 21] g_matter_Power_0) noKnown
theorem O_matter_Power_0_ok : ∀ fn c, Tryz.prog.funcs[42]? = some fn → fn.body = some c → KnownOk Tryz.prog O_matter_Power_0 (blocksOf c) :=
  known_ok (by kernel_rfl) (piece_wp progOk tok_skylightref24_Bend (known_in (by kernel_rfl) (fun _ _ _ _ => noKnown_ok)) (piece_matter_Power_0 (by kernel_rfl) (by kernel_rfl) (fun L c pw en j x1 x2 x3 x4 x6 x7 x8 x9 x10 x11 x12 x13 x14 x15 x16 x17 x18 x19 x22 x23 x24 x25 x26 x27 x28 h => by kernel_rfl))) (fun _ _ _ _ => noKnown_ok)
theorem ok_matter_Power : EntryOk Tryz.prog 42 e_matter_Power := entry_ok progOk (T := table tab_skylightref24_Bend) tok_skylightref24_Bend 16 12 O_matter_Power_0 O_matter_Power_0_ok (by
  intro args t v h hv
  unfold e_matter_Power at h
  split at h
  · cases h
    cases hv
    refine ⟨rfl, by kernel_rfl, fun φ cs hl => ?_⟩
    rename_i c e
    obtain ⟨h_c, h_e, _⟩ : InR .i64 c ∧ InR .i64 e ∧ True := rngL_of _ _ True hl trivial
    exact (congrArg Tr.run (by kernel_rfl : evV Tryz.prog (table tab_skylightref24_Bend) 16 12 O_matter_Power_0 42 [.int .i64 false c, .int .i64 false e] = tr_matter_Power c e)).trans (run_matter_Power c e h_c h_e)
  · cases h)
noncomputable def tab_matter_Power : List (FuncId × Entry) := (42, e_matter_Power) :: tab_skylightref24_Bend
theorem tok_matter_Power : TableOk Tryz.prog (table tab_matter_Power) := table_cons ok_matter_Power tok_skylightref24_Bend

/-! skylightlaw25.awake -/
def e_skylightlaw25_awake : Entry := fun args => match args with | [] => some (.leaf (bb true)) | _ => none
theorem ok_skylightlaw25_awake : EntryOk Tryz.prog 46 e_skylightlaw25_awake := entry_ok progOk (T := table tab_matter_Power) tok_matter_Power 100 20 noKnown (fun _ _ _ _ => noKnown_ok) (by
  intro args t v h hv
  unfold e_skylightlaw25_awake at h
  split at h
  · cases h
    cases hv
    refine ⟨rfl, by kernel_rfl, fun φ cs hl => ?_⟩
    exact (congrArg Tr.run (by kernel_rfl : evV Tryz.prog (table tab_matter_Power) 100 20 noKnown 46 [] = tr_skylightlaw25_awake )).trans (run_skylightlaw25_awake  )
  · cases h)
noncomputable def tab_skylightlaw25_awake : List (FuncId × Entry) := (46, e_skylightlaw25_awake) :: tab_matter_Power
theorem tok_skylightlaw25_awake : TableOk Tryz.prog (table tab_skylightlaw25_awake) := table_cons ok_skylightlaw25_awake tok_matter_Power

end Go.Proofs.YtpljpbmkklcbkaaGreat

/- Entries of the table: what functions give. -/
set_option linter.unusedSimpArgs false
set_option linter.unusedVariables false
namespace Go.Proofs.YtpljpbmkklcbkaaGreat
open Go Go.Sky
set_option maxRecDepth 100000

/-! num.Mod -/
def e_num_Mod : Entry := fun args => match args with | [.int .i64 false a, .int .i64 false b] => some (.leaf (i6 (md a b))) | _ => none
theorem ok_num_Mod : EntryOk Tryz.prog 134 e_num_Mod := entry_ok progOk (T := table tab_skylightlaw25_awake) tok_skylightlaw25_awake 16 12 noKnown (fun _ _ _ _ => noKnown_ok) (by
  intro args t v h hv
  unfold e_num_Mod at h
  split at h
  · cases h
    cases hv
    refine ⟨rfl, by kernel_rfl, fun φ cs hl => ?_⟩
    rename_i a b
    obtain ⟨h_a, h_b, _⟩ : InR .i64 a ∧ InR .i64 b ∧ True := rngL_of _ _ True hl trivial
    exact (congrArg Tr.run (by kernel_rfl : evV Tryz.prog (table tab_skylightlaw25_awake) 16 12 noKnown 134 [.int .i64 false a, .int .i64 false b] = tr_num_Mod a b)).trans (run_num_Mod a b h_a h_b)
  · cases h)
noncomputable def tab_num_Mod : List (FuncId × Entry) := (134, e_num_Mod) :: tab_skylightlaw25_awake
theorem tok_num_Mod : TableOk Tryz.prog (table tab_num_Mod) := table_cons ok_num_Mod tok_skylightlaw25_awake

/-! skylightref01.Mod -/
def e_skylightref01_Mod : Entry := fun args => match args with | [.int .i64 false a, .int .i64 false b] => some (.leaf (i6 (md a b))) | _ => none
theorem ok_skylightref01_Mod : EntryOk Tryz.prog 80 e_skylightref01_Mod := entry_ok progOk (T := table tab_num_Mod) tok_num_Mod 16 12 noKnown (fun _ _ _ _ => noKnown_ok) (by
  intro args t v h hv
  unfold e_skylightref01_Mod at h
  split at h
  · cases h
    cases hv
    refine ⟨rfl, by kernel_rfl, fun φ cs hl => ?_⟩
    rename_i a b
    obtain ⟨h_a, h_b, _⟩ : InR .i64 a ∧ InR .i64 b ∧ True := rngL_of _ _ True hl trivial
    exact (congrArg Tr.run (by kernel_rfl : evV Tryz.prog (table tab_num_Mod) 16 12 noKnown 80 [.int .i64 false a, .int .i64 false b] = tr_skylightref01_Mod a b)).trans (run_skylightref01_Mod a b h_a h_b)
  · cases h)
noncomputable def tab_skylightref01_Mod : List (FuncId × Entry) := (80, e_skylightref01_Mod) :: tab_num_Mod
theorem tok_skylightref01_Mod : TableOk Tryz.prog (table tab_skylightref01_Mod) := table_cons ok_skylightref01_Mod tok_num_Mod

/-! hue.Color -/
def e_hue_Color : Entry := fun args => match args with | [.agg [.int .i64 false c_r, .int .i64 false c_g, .int .i64 false c_b]] => some (.leaf (bb (colB c_r c_g c_b))) | _ => none
theorem ok_hue_Color : EntryOk Tryz.prog 152 e_hue_Color := entry_ok progOk (T := table tab_skylightref01_Mod) tok_skylightref01_Mod 16 12 noKnown (fun _ _ _ _ => noKnown_ok) (by
  intro args t v h hv
  unfold e_hue_Color at h
  split at h
  · cases h
    cases hv
    refine ⟨rfl, by kernel_rfl, fun φ cs hl => ?_⟩
    rename_i c_r c_g c_b
    obtain ⟨h_c_r, h_c_g, h_c_b, _⟩ : InR .i64 c_r ∧ InR .i64 c_g ∧ InR .i64 c_b ∧ True := rngL_of _ _ True hl trivial
    exact (congrArg Tr.run (by kernel_rfl : evV Tryz.prog (table tab_skylightref01_Mod) 16 12 noKnown 152 [.agg [.int .i64 false c_r, .int .i64 false c_g, .int .i64 false c_b]] = tr_hue_Color c_r c_g c_b)).trans (run_hue_Color c_r c_g c_b h_c_r h_c_g h_c_b)
  · cases h)
noncomputable def tab_hue_Color : List (FuncId × Entry) := (152, e_hue_Color) :: tab_skylightref01_Mod
theorem tok_hue_Color : TableOk Tryz.prog (table tab_hue_Color) := table_cons ok_hue_Color tok_skylightref01_Mod

/-! skylightref09.Color -/
def e_skylightref09_Color : Entry := fun args => match args with | [.agg [.int .i64 false c_r, .int .i64 false c_g, .int .i64 false c_b]] => some (.leaf (bb (colB c_r c_g c_b))) | _ => none
theorem ok_skylightref09_Color : EntryOk Tryz.prog 49 e_skylightref09_Color := entry_ok progOk (T := table tab_hue_Color) tok_hue_Color 16 12 noKnown (fun _ _ _ _ => noKnown_ok) (by
  intro args t v h hv
  unfold e_skylightref09_Color at h
  split at h
  · cases h
    cases hv
    refine ⟨rfl, by kernel_rfl, fun φ cs hl => ?_⟩
    rename_i c_r c_g c_b
    obtain ⟨h_c_r, h_c_g, h_c_b, _⟩ : InR .i64 c_r ∧ InR .i64 c_g ∧ InR .i64 c_b ∧ True := rngL_of _ _ True hl trivial
    exact (congrArg Tr.run (by kernel_rfl : evV Tryz.prog (table tab_hue_Color) 16 12 noKnown 49 [.agg [.int .i64 false c_r, .int .i64 false c_g, .int .i64 false c_b]] = tr_skylightref09_Color c_r c_g c_b)).trans (run_skylightref09_Color c_r c_g c_b h_c_r h_c_g h_c_b)
  · cases h)
noncomputable def tab_skylightref09_Color : List (FuncId × Entry) := (49, e_skylightref09_Color) :: tab_hue_Color
theorem tok_skylightref09_Color : TableOk Tryz.prog (table tab_skylightref09_Color) := table_cons ok_skylightref09_Color tok_hue_Color

/-! hue.Part -/
def e_hue_Part : Entry := fun args => match args with | [.agg [.int .i64 false w_r, .int .i64 false w_g, .int .i64 false w_b], .agg [.int .i64 false f_n, .int .i64 false f_d]] => some (.leaf (v3 (partC w_r w_r w_g w_b f_n f_d) (partC w_g w_r w_g w_b f_n f_d) (partC w_b w_r w_g w_b f_n f_d))) | _ => none
theorem ok_hue_Part : EntryOk Tryz.prog 69 e_hue_Part := entry_ok progOk (T := table tab_skylightref09_Color) tok_skylightref09_Color 16 12 noKnown (fun _ _ _ _ => noKnown_ok) (by
  intro args t v h hv
  unfold e_hue_Part at h
  split at h
  · cases h
    cases hv
    refine ⟨rfl, by kernel_rfl, fun φ cs hl => ?_⟩
    rename_i w_r w_g w_b f_n f_d
    obtain ⟨h_w_r, h_w_g, h_w_b, h_f_n, h_f_d, _⟩ : InR .i64 w_r ∧ InR .i64 w_g ∧ InR .i64 w_b ∧ InR .i64 f_n ∧ InR .i64 f_d ∧ True := rngL_of _ _ True hl trivial
    exact (congrArg Tr.run (by kernel_rfl : evV Tryz.prog (table tab_skylightref09_Color) 16 12 noKnown 69 [.agg [.int .i64 false w_r, .int .i64 false w_g, .int .i64 false w_b], .agg [.int .i64 false f_n, .int .i64 false f_d]] = tr_hue_Part w_r w_g w_b f_n f_d)).trans (run_hue_Part w_r w_g w_b f_n f_d h_w_r h_w_g h_w_b h_f_n h_f_d)
  · cases h)
noncomputable def tab_hue_Part : List (FuncId × Entry) := (69, e_hue_Part) :: tab_skylightref09_Color
theorem tok_hue_Part : TableOk Tryz.prog (table tab_hue_Part) := table_cons ok_hue_Part tok_skylightref09_Color

/-! trig.Sin -/
def e_trig_Sin : Entry := fun args => match args with | [.int .i64 false a] => some (.leaf (i6 (sinT a))) | _ => none
theorem ok_trig_Sin : EntryOk Tryz.prog 234 e_trig_Sin := entry_ok progOk (T := table tab_hue_Part) tok_hue_Part 16 12 noKnown (fun _ _ _ _ => noKnown_ok) (by
  intro args t v h hv
  unfold e_trig_Sin at h
  split at h
  · cases h
    cases hv
    refine ⟨rfl, by kernel_rfl, fun φ cs hl => ?_⟩
    rename_i a
    obtain ⟨h_a, _⟩ : InR .i64 a ∧ True := rngL_of _ _ True hl trivial
    exact (congrArg Tr.run (by kernel_rfl : evV Tryz.prog (table tab_hue_Part) 16 12 noKnown 234 [.int .i64 false a] = tr_trig_Sin a)).trans (run_trig_Sin a h_a)
  · cases h)
noncomputable def tab_trig_Sin : List (FuncId × Entry) := (234, e_trig_Sin) :: tab_hue_Part
theorem tok_trig_Sin : TableOk Tryz.prog (table tab_trig_Sin) := table_cons ok_trig_Sin tok_hue_Part

/-! trig.Cos -/
def e_trig_Cos : Entry := fun args => match args with | [.int .i64 false a] => some (.leaf (i6 (cosT a))) | _ => none
theorem ok_trig_Cos : EntryOk Tryz.prog 233 e_trig_Cos := entry_ok progOk (T := table tab_trig_Sin) tok_trig_Sin 16 12 noKnown (fun _ _ _ _ => noKnown_ok) (by
  intro args t v h hv
  unfold e_trig_Cos at h
  split at h
  · cases h
    cases hv
    refine ⟨rfl, by kernel_rfl, fun φ cs hl => ?_⟩
    rename_i a
    obtain ⟨h_a, _⟩ : InR .i64 a ∧ True := rngL_of _ _ True hl trivial
    exact (congrArg Tr.run (by kernel_rfl : evV Tryz.prog (table tab_trig_Sin) 16 12 noKnown 233 [.int .i64 false a] = tr_trig_Cos a)).trans (run_trig_Cos a h_a)
  · cases h)
noncomputable def tab_trig_Cos : List (FuncId × Entry) := (233, e_trig_Cos) :: tab_trig_Sin
theorem tok_trig_Cos : TableOk Tryz.prog (table tab_trig_Cos) := table_cons ok_trig_Cos tok_trig_Sin

/-! skylightref05.Sin -/
def e_ref05_SinLow : Entry := fun args => match args with | [.int .i64 false a] => some (.node (decide (a % 65536 < 32768)) (.leaf (i6 (sinT a))) .bad) | _ => none
noncomputable def O_ref05_SinLow_0 : Known := known 0 (piece Tryz.prog (table tab_trig_Cos) noKnown 226 0 42 [6, 7, 25, 26, 27, 28, 29, 30, 31, 32, 33, 34, 35, 36, 37, 38, 39, 40] [6, 7, 5, 4] g_ref05_SinLow_0) noKnown
theorem O_ref05_SinLow_0_ok : ∀ fn c, Tryz.prog.funcs[226]? = some fn → fn.body = some c → KnownOk Tryz.prog O_ref05_SinLow_0 (blocksOf c) :=
  known_ok (by kernel_rfl) (piece_wp progOk tok_trig_Cos (known_in (by kernel_rfl) (fun _ _ _ _ => noKnown_ok)) (piece_ref05_SinLow_0 (by kernel_rfl) (by kernel_rfl) (fun L q j low up x0 x1 x2 x3 x8 x9 x10 x11 x12 x13 x14 x15 x16 x17 x18 x19 x20 x21 x22 x23 x24 x25 x26 x27 x28 x29 x30 x31 x32 x33 x34 x35 x36 x37 x38 x39 x40 x41 h => by kernel_rfl))) (fun _ _ _ _ => noKnown_ok)
theorem ok_ref05_SinLow : EntryOk Tryz.prog 226 e_ref05_SinLow := entry_ok progOk (T := table tab_trig_Cos) tok_trig_Cos 16 0 O_ref05_SinLow_0 O_ref05_SinLow_0_ok (by
  intro args t v h hv
  unfold e_ref05_SinLow at h
  split at h
  · cases h
    simp only [Tr.run] at hv
    split at hv
    rotate_left
    · cases hv
    rename_i hpre0
    have hpre := of_decide_eq_true hpre0
    cases hv
    refine ⟨rfl, by kernel_rfl, fun φ cs hl => ?_⟩
    rename_i a
    obtain ⟨h_a, _⟩ : InR .i64 a ∧ True := rngL_of _ _ True hl trivial
    exact (congrArg Tr.run (by kernel_rfl : evV Tryz.prog (table tab_trig_Cos) 16 0 O_ref05_SinLow_0 226 [.int .i64 false a] = tr_ref05_SinLow a)).trans (run_ref05_SinLow a h_a hpre)
  · cases h)
noncomputable def tab_ref05_SinLow : List (FuncId × Entry) := (226, e_ref05_SinLow) :: tab_trig_Cos
theorem tok_ref05_SinLow : TableOk Tryz.prog (table tab_ref05_SinLow) := table_cons ok_ref05_SinLow tok_trig_Cos

/-! skylightref05.Sin -/
def e_skylightref05_Sin : Entry := fun args => match args with | [.int .i64 false a] => some (.leaf (i6 (sinT a))) | _ => none
noncomputable def O_skylightref05_Sin_0 : Known := known 0 (piece Tryz.prog (table tab_ref05_SinLow) noKnown 226 0 42 [6, 7, 25, 26, 27, 28, 29, 30, 31, 32, 33, 34, 35, 36, 37, 38, 39, 40] [6, 7, 5, 4] g_skylightref05_Sin_0) noKnown
theorem O_skylightref05_Sin_0_ok : ∀ fn c, Tryz.prog.funcs[226]? = some fn → fn.body = some c → KnownOk Tryz.prog O_skylightref05_Sin_0 (blocksOf c) :=
  known_ok (by kernel_rfl) (piece_wp progOk tok_ref05_SinLow (known_in (by kernel_rfl) (fun _ _ _ _ => noKnown_ok)) (piece_skylightref05_Sin_0 (by kernel_rfl) (by kernel_rfl) (fun L q j low up x0 x1 x2 x3 x8 x9 x10 x11 x12 x13 x14 x15 x16 x17 x18 x19 x20 x21 x22 x23 x24 x25 x26 x27 x28 x29 x30 x31 x32 x33 x34 x35 x36 x37 x38 x39 x40 x41 h => by kernel_rfl))) (fun _ _ _ _ => noKnown_ok)
theorem ok_skylightref05_Sin : EntryOk Tryz.prog 226 e_skylightref05_Sin := entry_ok progOk (T := table tab_ref05_SinLow) tok_ref05_SinLow 16 1 O_skylightref05_Sin_0 O_skylightref05_Sin_0_ok (by
  intro args t v h hv
  unfold e_skylightref05_Sin at h
  split at h
  · cases h
    cases hv
    refine ⟨rfl, by kernel_rfl, fun φ cs hl => ?_⟩
    rename_i a
    obtain ⟨h_a, _⟩ : InR .i64 a ∧ True := rngL_of _ _ True hl trivial
    exact (congrArg Tr.run (by kernel_rfl : evV Tryz.prog (table tab_ref05_SinLow) 16 1 O_skylightref05_Sin_0 226 [.int .i64 false a] = tr_skylightref05_Sin a)).trans (run_skylightref05_Sin a h_a)
  · cases h)
noncomputable def tab_skylightref05_Sin : List (FuncId × Entry) := (226, e_skylightref05_Sin) :: tab_ref05_SinLow
theorem tok_skylightref05_Sin : TableOk Tryz.prog (table tab_skylightref05_Sin) := table_cons ok_skylightref05_Sin tok_ref05_SinLow

/-! skylightref05.Cos -/
def e_skylightref05_Cos : Entry := fun args => match args with | [.int .i64 false a] => some (.leaf (i6 (cosT a))) | _ => none
theorem ok_skylightref05_Cos : EntryOk Tryz.prog 225 e_skylightref05_Cos := entry_ok progOk (T := table tab_skylightref05_Sin) tok_skylightref05_Sin 16 12 noKnown (fun _ _ _ _ => noKnown_ok) (by
  intro args t v h hv
  unfold e_skylightref05_Cos at h
  split at h
  · cases h
    cases hv
    refine ⟨rfl, by kernel_rfl, fun φ cs hl => ?_⟩
    rename_i a
    obtain ⟨h_a, _⟩ : InR .i64 a ∧ True := rngL_of _ _ True hl trivial
    exact (congrArg Tr.run (by kernel_rfl : evV Tryz.prog (table tab_skylightref05_Sin) 16 12 noKnown 225 [.int .i64 false a] = tr_skylightref05_Cos a)).trans (run_skylightref05_Cos a h_a)
  · cases h)
noncomputable def tab_skylightref05_Cos : List (FuncId × Entry) := (225, e_skylightref05_Cos) :: tab_skylightref05_Sin
theorem tok_skylightref05_Cos : TableOk Tryz.prog (table tab_skylightref05_Cos) := table_cons ok_skylightref05_Cos tok_skylightref05_Sin

/-! spread.Ring -/
def e_spread_Ring : Entry := fun args => match args with | [.int .i64 false r, .int .i64 false a] => some (.leaf (.tuple [i6 (ringC (cosT a) r), i6 (ringC (sinT a) r)])) | _ => none
theorem ok_spread_Ring : EntryOk Tryz.prog 178 e_spread_Ring := entry_ok progOk (T := table tab_skylightref05_Cos) tok_skylightref05_Cos 16 12 noKnown (fun _ _ _ _ => noKnown_ok) (by
  intro args t v h hv
  unfold e_spread_Ring at h
  split at h
  · cases h
    cases hv
    refine ⟨rfl, by kernel_rfl, fun φ cs hl => ?_⟩
    rename_i r a
    obtain ⟨h_r, h_a, _⟩ : InR .i64 r ∧ InR .i64 a ∧ True := rngL_of _ _ True hl trivial
    exact (congrArg Tr.run (by kernel_rfl : evV Tryz.prog (table tab_skylightref05_Cos) 16 12 noKnown 178 [.int .i64 false r, .int .i64 false a] = tr_spread_Ring r a)).trans (run_spread_Ring r a h_r h_a)
  · cases h)
noncomputable def tab_spread_Ring : List (FuncId × Entry) := (178, e_spread_Ring) :: tab_skylightref05_Cos
theorem tok_spread_Ring : TableOk Tryz.prog (table tab_spread_Ring) := table_cons ok_spread_Ring tok_skylightref05_Cos

/-! skylightref23.Ring -/
def e_skylightref23_Ring : Entry := fun args => match args with | [.int .i64 false r, .int .i64 false a] => some (.leaf (.tuple [i6 (ringC (cosT a) r), i6 (ringC (sinT a) r)])) | _ => none
theorem ok_skylightref23_Ring : EntryOk Tryz.prog 193 e_skylightref23_Ring := entry_ok progOk (T := table tab_spread_Ring) tok_spread_Ring 16 12 noKnown (fun _ _ _ _ => noKnown_ok) (by
  intro args t v h hv
  unfold e_skylightref23_Ring at h
  split at h
  · cases h
    cases hv
    refine ⟨rfl, by kernel_rfl, fun φ cs hl => ?_⟩
    rename_i r a
    obtain ⟨h_r, h_a, _⟩ : InR .i64 r ∧ InR .i64 a ∧ True := rngL_of _ _ True hl trivial
    exact (congrArg Tr.run (by kernel_rfl : evV Tryz.prog (table tab_spread_Ring) 16 12 noKnown 193 [.int .i64 false r, .int .i64 false a] = tr_skylightref23_Ring r a)).trans (run_skylightref23_Ring r a h_r h_a)
  · cases h)
noncomputable def tab_skylightref23_Ring : List (FuncId × Entry) := (193, e_skylightref23_Ring) :: tab_spread_Ring
theorem tok_skylightref23_Ring : TableOk Tryz.prog (table tab_skylightref23_Ring) := table_cons ok_skylightref23_Ring tok_spread_Ring

/-! spread.Disc -/
def e_spread_Disc : Entry := fun args => match args with | [.int .i64 false u, .int .i64 false a] => some (.leaf (.tuple [i6 (ringC (cosT a) (discR u)), i6 (ringC (sinT a) (discR u))])) | _ => none
theorem ok_spread_Disc : EntryOk Tryz.prog 189 e_spread_Disc := entry_ok progOk (T := table tab_skylightref23_Ring) tok_skylightref23_Ring 16 12 noKnown (fun _ _ _ _ => noKnown_ok) (by
  intro args t v h hv
  unfold e_spread_Disc at h
  split at h
  · cases h
    cases hv
    refine ⟨rfl, by kernel_rfl, fun φ cs hl => ?_⟩
    rename_i u a
    obtain ⟨h_u, h_a, _⟩ : InR .i64 u ∧ InR .i64 a ∧ True := rngL_of _ _ True hl trivial
    exact (congrArg Tr.run (by kernel_rfl : evV Tryz.prog (table tab_skylightref23_Ring) 16 12 noKnown 189 [.int .i64 false u, .int .i64 false a] = tr_spread_Disc u a)).trans (run_spread_Disc u a h_u h_a)
  · cases h)
noncomputable def tab_spread_Disc : List (FuncId × Entry) := (189, e_spread_Disc) :: tab_skylightref23_Ring
theorem tok_spread_Disc : TableOk Tryz.prog (table tab_spread_Disc) := table_cons ok_spread_Disc tok_skylightref23_Ring

/-! skylightref23.Disc -/
def e_skylightref23_Disc : Entry := fun args => match args with | [.int .i64 false u, .int .i64 false a] => some (.leaf (.tuple [i6 (ringC (cosT a) (discR u)), i6 (ringC (sinT a) (discR u))])) | _ => none
theorem ok_skylightref23_Disc : EntryOk Tryz.prog 151 e_skylightref23_Disc := entry_ok progOk (T := table tab_spread_Disc) tok_spread_Disc 16 12 noKnown (fun _ _ _ _ => noKnown_ok) (by
  intro args t v h hv
  unfold e_skylightref23_Disc at h
  split at h
  · cases h
    cases hv
    refine ⟨rfl, by kernel_rfl, fun φ cs hl => ?_⟩
    rename_i u a
    obtain ⟨h_u, h_a, _⟩ : InR .i64 u ∧ InR .i64 a ∧ True := rngL_of _ _ True hl trivial
    exact (congrArg Tr.run (by kernel_rfl : evV Tryz.prog (table tab_spread_Disc) 16 12 noKnown 151 [.int .i64 false u, .int .i64 false a] = tr_skylightref23_Disc u a)).trans (run_skylightref23_Disc u a h_u h_a)
  · cases h)
noncomputable def tab_skylightref23_Disc : List (FuncId × Entry) := (151, e_skylightref23_Disc) :: tab_spread_Disc
theorem tok_skylightref23_Disc : TableOk Tryz.prog (table tab_skylightref23_Disc) := table_cons ok_skylightref23_Disc tok_spread_Disc

/-! spread.Up -/
def e_spread_Up : Entry := fun args => match args with | [.int .i64 false z, .int .i64 false a] => some (.leaf (v3 (upC (cosT a) z) (upC (sinT a) z) (upZ z))) | _ => none
theorem ok_spread_Up : EntryOk Tryz.prog 133 e_spread_Up := entry_ok progOk (T := table tab_skylightref23_Disc) tok_skylightref23_Disc 16 12 noKnown (fun _ _ _ _ => noKnown_ok) (by
  intro args t v h hv
  unfold e_spread_Up at h
  split at h
  · cases h
    cases hv
    refine ⟨rfl, by kernel_rfl, fun φ cs hl => ?_⟩
    rename_i z a
    obtain ⟨h_z, h_a, _⟩ : InR .i64 z ∧ InR .i64 a ∧ True := rngL_of _ _ True hl trivial
    exact (congrArg Tr.run (by kernel_rfl : evV Tryz.prog (table tab_skylightref23_Disc) 16 12 noKnown 133 [.int .i64 false z, .int .i64 false a] = tr_spread_Up z a)).trans (run_spread_Up z a h_z h_a)
  · cases h)
noncomputable def tab_spread_Up : List (FuncId × Entry) := (133, e_spread_Up) :: tab_skylightref23_Disc
theorem tok_spread_Up : TableOk Tryz.prog (table tab_spread_Up) := table_cons ok_spread_Up tok_skylightref23_Disc

/-! skylightref23.Up -/
def e_skylightref23_Up : Entry := fun args => match args with | [.int .i64 false z, .int .i64 false a] => some (.leaf (v3 (upC (cosT a) z) (upC (sinT a) z) (upZ z))) | _ => none
theorem ok_skylightref23_Up : EntryOk Tryz.prog 144 e_skylightref23_Up := entry_ok progOk (T := table tab_spread_Up) tok_spread_Up 16 12 noKnown (fun _ _ _ _ => noKnown_ok) (by
  intro args t v h hv
  unfold e_skylightref23_Up at h
  split at h
  · cases h
    cases hv
    refine ⟨rfl, by kernel_rfl, fun φ cs hl => ?_⟩
    rename_i z a
    obtain ⟨h_z, h_a, _⟩ : InR .i64 z ∧ InR .i64 a ∧ True := rngL_of _ _ True hl trivial
    exact (congrArg Tr.run (by kernel_rfl : evV Tryz.prog (table tab_spread_Up) 16 12 noKnown 144 [.int .i64 false z, .int .i64 false a] = tr_skylightref23_Up z a)).trans (run_skylightref23_Up z a h_z h_a)
  · cases h)
noncomputable def tab_skylightref23_Up : List (FuncId × Entry) := (144, e_skylightref23_Up) :: tab_spread_Up
theorem tok_skylightref23_Up : TableOk Tryz.prog (table tab_skylightref23_Up) := table_cons ok_skylightref23_Up tok_spread_Up

end Go.Proofs.YtpljpbmkklcbkaaGreat

/- Entries of the table: what functions give. -/
set_option linter.unusedSimpArgs false
set_option linter.unusedVariables false
namespace Go.Proofs.YtpljpbmkklcbkaaGreat
open Go Go.Sky
set_option maxRecDepth 100000

/-! basis.Of -/
def e_basis_Of : Entry := fun args => match args with | [.agg [.int .i64 false n_x, .int .i64 false n_y, .int .i64 false n_z]] => some (.leaf (.tuple [.agg [i6 (basU ⟨n_x, n_y, n_z⟩).x, i6 (basU ⟨n_x, n_y, n_z⟩).y, i6 (basU ⟨n_x, n_y, n_z⟩).z, i6 (basV ⟨n_x, n_y, n_z⟩).x, i6 (basV ⟨n_x, n_y, n_z⟩).y, i6 (basV ⟨n_x, n_y, n_z⟩).z, i6 (basN ⟨n_x, n_y, n_z⟩).x, i6 (basN ⟨n_x, n_y, n_z⟩).y, i6 (basN ⟨n_x, n_y, n_z⟩).z], bb (ok3 ⟨n_x, n_y, n_z⟩)])) | _ => none
theorem ok_basis_Of : EntryOk Tryz.prog 183 e_basis_Of := entry_ok progOk (T := table tab_skylightref23_Up) tok_skylightref23_Up 16 12 noKnown (fun _ _ _ _ => noKnown_ok) (by
  intro args t v h hv
  unfold e_basis_Of at h
  split at h
  · cases h
    cases hv
    refine ⟨rfl, by kernel_rfl, fun φ cs hl => ?_⟩
    rename_i n_x n_y n_z
    obtain ⟨h_n_x, h_n_y, h_n_z, _⟩ : InR .i64 n_x ∧ InR .i64 n_y ∧ InR .i64 n_z ∧ True := rngL_of _ _ True hl trivial
    exact (congrArg Tr.run (by kernel_rfl : evV Tryz.prog (table tab_skylightref23_Up) 16 12 noKnown 183 [.agg [.int .i64 false n_x, .int .i64 false n_y, .int .i64 false n_z]] = tr_basis_Of n_x n_y n_z)).trans (run_basis_Of n_x n_y n_z h_n_x h_n_y h_n_z)
  · cases h)
noncomputable def tab_basis_Of : List (FuncId × Entry) := (183, e_basis_Of) :: tab_skylightref23_Up
theorem tok_basis_Of : TableOk Tryz.prog (table tab_basis_Of) := table_cons ok_basis_Of tok_skylightref23_Up

/-! skylightref07.Of -/
def e_skylightref07_Of : Entry := fun args => match args with | [.agg [.int .i64 false n_x, .int .i64 false n_y, .int .i64 false n_z]] => some (.leaf (.tuple [.agg [i6 (basU ⟨n_x, n_y, n_z⟩).x, i6 (basU ⟨n_x, n_y, n_z⟩).y, i6 (basU ⟨n_x, n_y, n_z⟩).z, i6 (basV ⟨n_x, n_y, n_z⟩).x, i6 (basV ⟨n_x, n_y, n_z⟩).y, i6 (basV ⟨n_x, n_y, n_z⟩).z, i6 (basN ⟨n_x, n_y, n_z⟩).x, i6 (basN ⟨n_x, n_y, n_z⟩).y, i6 (basN ⟨n_x, n_y, n_z⟩).z], bb (ok3 ⟨n_x, n_y, n_z⟩)])) | _ => none
theorem ok_skylightref07_Of : EntryOk Tryz.prog 195 e_skylightref07_Of := entry_ok progOk (T := table tab_basis_Of) tok_basis_Of 16 12 noKnown (fun _ _ _ _ => noKnown_ok) (by
  intro args t v h hv
  unfold e_skylightref07_Of at h
  split at h
  · cases h
    cases hv
    refine ⟨rfl, by kernel_rfl, fun φ cs hl => ?_⟩
    rename_i n_x n_y n_z
    obtain ⟨h_n_x, h_n_y, h_n_z, _⟩ : InR .i64 n_x ∧ InR .i64 n_y ∧ InR .i64 n_z ∧ True := rngL_of _ _ True hl trivial
    exact (congrArg Tr.run (by kernel_rfl : evV Tryz.prog (table tab_basis_Of) 16 12 noKnown 195 [.agg [.int .i64 false n_x, .int .i64 false n_y, .int .i64 false n_z]] = tr_skylightref07_Of n_x n_y n_z)).trans (run_skylightref07_Of n_x n_y n_z h_n_x h_n_y h_n_z)
  · cases h)
noncomputable def tab_skylightref07_Of : List (FuncId × Entry) := (195, e_skylightref07_Of) :: tab_basis_Of
theorem tok_skylightref07_Of : TableOk Tryz.prog (table tab_skylightref07_Of) := table_cons ok_skylightref07_Of tok_basis_Of

end Go.Proofs.YtpljpbmkklcbkaaGreat

/- Entries of the table: what functions give. -/
set_option linter.unusedSimpArgs false
set_option linter.unusedVariables false
namespace Go.Proofs.YtpljpbmkklcbkaaGreat
open Go Go.Sky
set_option maxRecDepth 100000

/-! (basis.Basis).Out -/
def e_basis_Basis_Out : Entry := fun args => match args with | [.agg [.int .i64 false b_u_x, .int .i64 false b_u_y, .int .i64 false b_u_z, .int .i64 false b_v_x, .int .i64 false b_v_y, .int .i64 false b_v_z, .int .i64 false b_n_x, .int .i64 false b_n_y, .int .i64 false b_n_z], .agg [.int .i64 false w_x, .int .i64 false w_y, .int .i64 false w_z]] => some (.leaf (v3 ((out3 ⟨b_u_x, b_u_y, b_u_z⟩ ⟨b_v_x, b_v_y, b_v_z⟩ ⟨b_n_x, b_n_y, b_n_z⟩ ⟨w_x, w_y, w_z⟩).x) ((out3 ⟨b_u_x, b_u_y, b_u_z⟩ ⟨b_v_x, b_v_y, b_v_z⟩ ⟨b_n_x, b_n_y, b_n_z⟩ ⟨w_x, w_y, w_z⟩).y) ((out3 ⟨b_u_x, b_u_y, b_u_z⟩ ⟨b_v_x, b_v_y, b_v_z⟩ ⟨b_n_x, b_n_y, b_n_z⟩ ⟨w_x, w_y, w_z⟩).z))) | _ => none
theorem ok_basis_Basis_Out : EntryOk Tryz.prog 184 e_basis_Basis_Out := entry_ok progOk (T := table tab_skylightref07_Of) tok_skylightref07_Of 16 12 noKnown (fun _ _ _ _ => noKnown_ok) (by
  intro args t v h hv
  unfold e_basis_Basis_Out at h
  split at h
  · cases h
    cases hv
    refine ⟨rfl, by kernel_rfl, fun φ cs hl => ?_⟩
    rename_i b_u_x b_u_y b_u_z b_v_x b_v_y b_v_z b_n_x b_n_y b_n_z w_x w_y w_z
    obtain ⟨h_b_u_x, h_b_u_y, h_b_u_z, h_b_v_x, h_b_v_y, h_b_v_z, h_b_n_x, h_b_n_y, h_b_n_z, h_w_x, h_w_y, h_w_z, _⟩ : InR .i64 b_u_x ∧ InR .i64 b_u_y ∧ InR .i64 b_u_z ∧ InR .i64 b_v_x ∧ InR .i64 b_v_y ∧ InR .i64 b_v_z ∧ InR .i64 b_n_x ∧ InR .i64 b_n_y ∧ InR .i64 b_n_z ∧ InR .i64 w_x ∧ InR .i64 w_y ∧ InR .i64 w_z ∧ True := rngL_of _ _ True hl trivial
    exact (congrArg Tr.run (by kernel_rfl : evV Tryz.prog (table tab_skylightref07_Of) 16 12 noKnown 184 [.agg [.int .i64 false b_u_x, .int .i64 false b_u_y, .int .i64 false b_u_z, .int .i64 false b_v_x, .int .i64 false b_v_y, .int .i64 false b_v_z, .int .i64 false b_n_x, .int .i64 false b_n_y, .int .i64 false b_n_z], .agg [.int .i64 false w_x, .int .i64 false w_y, .int .i64 false w_z]] = tr_basis_Basis_Out b_u_x b_u_y b_u_z b_v_x b_v_y b_v_z b_n_x b_n_y b_n_z w_x w_y w_z)).trans (run_basis_Basis_Out b_u_x b_u_y b_u_z b_v_x b_v_y b_v_z b_n_x b_n_y b_n_z w_x w_y w_z h_b_u_x h_b_u_y h_b_u_z h_b_v_x h_b_v_y h_b_v_z h_b_n_x h_b_n_y h_b_n_z h_w_x h_w_y h_w_z)
  · cases h)
noncomputable def tab_basis_Basis_Out : List (FuncId × Entry) := (184, e_basis_Basis_Out) :: tab_skylightref07_Of
theorem tok_basis_Basis_Out : TableOk Tryz.prog (table tab_basis_Basis_Out) := table_cons ok_basis_Basis_Out tok_skylightref07_Of

/-! skylightref07.Out -/
def e_skylightref07_Out : Entry := fun args => match args with | [.agg [.int .i64 false b_u_x, .int .i64 false b_u_y, .int .i64 false b_u_z, .int .i64 false b_v_x, .int .i64 false b_v_y, .int .i64 false b_v_z, .int .i64 false b_n_x, .int .i64 false b_n_y, .int .i64 false b_n_z], .agg [.int .i64 false w_x, .int .i64 false w_y, .int .i64 false w_z]] => some (.leaf (v3 ((out3 ⟨b_u_x, b_u_y, b_u_z⟩ ⟨b_v_x, b_v_y, b_v_z⟩ ⟨b_n_x, b_n_y, b_n_z⟩ ⟨w_x, w_y, w_z⟩).x) ((out3 ⟨b_u_x, b_u_y, b_u_z⟩ ⟨b_v_x, b_v_y, b_v_z⟩ ⟨b_n_x, b_n_y, b_n_z⟩ ⟨w_x, w_y, w_z⟩).y) ((out3 ⟨b_u_x, b_u_y, b_u_z⟩ ⟨b_v_x, b_v_y, b_v_z⟩ ⟨b_n_x, b_n_y, b_n_z⟩ ⟨w_x, w_y, w_z⟩).z))) | _ => none
theorem ok_skylightref07_Out : EntryOk Tryz.prog 196 e_skylightref07_Out := entry_ok progOk (T := table tab_basis_Basis_Out) tok_basis_Basis_Out 16 12 noKnown (fun _ _ _ _ => noKnown_ok) (by
  intro args t v h hv
  unfold e_skylightref07_Out at h
  split at h
  · cases h
    cases hv
    refine ⟨rfl, by kernel_rfl, fun φ cs hl => ?_⟩
    rename_i b_u_x b_u_y b_u_z b_v_x b_v_y b_v_z b_n_x b_n_y b_n_z w_x w_y w_z
    obtain ⟨h_b_u_x, h_b_u_y, h_b_u_z, h_b_v_x, h_b_v_y, h_b_v_z, h_b_n_x, h_b_n_y, h_b_n_z, h_w_x, h_w_y, h_w_z, _⟩ : InR .i64 b_u_x ∧ InR .i64 b_u_y ∧ InR .i64 b_u_z ∧ InR .i64 b_v_x ∧ InR .i64 b_v_y ∧ InR .i64 b_v_z ∧ InR .i64 b_n_x ∧ InR .i64 b_n_y ∧ InR .i64 b_n_z ∧ InR .i64 w_x ∧ InR .i64 w_y ∧ InR .i64 w_z ∧ True := rngL_of _ _ True hl trivial
    exact (congrArg Tr.run (by kernel_rfl : evV Tryz.prog (table tab_basis_Basis_Out) 16 12 noKnown 196 [.agg [.int .i64 false b_u_x, .int .i64 false b_u_y, .int .i64 false b_u_z, .int .i64 false b_v_x, .int .i64 false b_v_y, .int .i64 false b_v_z, .int .i64 false b_n_x, .int .i64 false b_n_y, .int .i64 false b_n_z], .agg [.int .i64 false w_x, .int .i64 false w_y, .int .i64 false w_z]] = tr_skylightref07_Out b_u_x b_u_y b_u_z b_v_x b_v_y b_v_z b_n_x b_n_y b_n_z w_x w_y w_z)).trans (run_skylightref07_Out b_u_x b_u_y b_u_z b_v_x b_v_y b_v_z b_n_x b_n_y b_n_z w_x w_y w_z h_b_u_x h_b_u_y h_b_u_z h_b_v_x h_b_v_y h_b_v_z h_b_n_x h_b_n_y h_b_n_z h_w_x h_w_y h_w_z)
  · cases h)
noncomputable def tab_skylightref07_Out : List (FuncId × Entry) := (196, e_skylightref07_Out) :: tab_basis_Basis_Out
theorem tok_skylightref07_Out : TableOk Tryz.prog (table tab_skylightref07_Out) := table_cons ok_skylightref07_Out tok_basis_Basis_Out

/-! basis.Mirror -/
def e_basis_Mirror : Entry := fun args => match args with | [.agg [.int .i64 false d_x, .int .i64 false d_y, .int .i64 false d_z], .agg [.int .i64 false n_x, .int .i64 false n_y, .int .i64 false n_z]] => some (.leaf (v3 ((mir3 ⟨d_x, d_y, d_z⟩ ⟨n_x, n_y, n_z⟩).x) ((mir3 ⟨d_x, d_y, d_z⟩ ⟨n_x, n_y, n_z⟩).y) ((mir3 ⟨d_x, d_y, d_z⟩ ⟨n_x, n_y, n_z⟩).z))) | _ => none
theorem ok_basis_Mirror : EntryOk Tryz.prog 262 e_basis_Mirror := entry_ok progOk (T := table tab_skylightref07_Out) tok_skylightref07_Out 16 12 noKnown (fun _ _ _ _ => noKnown_ok) (by
  intro args t v h hv
  unfold e_basis_Mirror at h
  split at h
  · cases h
    cases hv
    refine ⟨rfl, by kernel_rfl, fun φ cs hl => ?_⟩
    rename_i d_x d_y d_z n_x n_y n_z
    obtain ⟨h_d_x, h_d_y, h_d_z, h_n_x, h_n_y, h_n_z, _⟩ : InR .i64 d_x ∧ InR .i64 d_y ∧ InR .i64 d_z ∧ InR .i64 n_x ∧ InR .i64 n_y ∧ InR .i64 n_z ∧ True := rngL_of _ _ True hl trivial
    exact (congrArg Tr.run (by kernel_rfl : evV Tryz.prog (table tab_skylightref07_Out) 16 12 noKnown 262 [.agg [.int .i64 false d_x, .int .i64 false d_y, .int .i64 false d_z], .agg [.int .i64 false n_x, .int .i64 false n_y, .int .i64 false n_z]] = tr_basis_Mirror d_x d_y d_z n_x n_y n_z)).trans (run_basis_Mirror d_x d_y d_z n_x n_y n_z h_d_x h_d_y h_d_z h_n_x h_n_y h_n_z)
  · cases h)
noncomputable def tab_basis_Mirror : List (FuncId × Entry) := (262, e_basis_Mirror) :: tab_skylightref07_Out
theorem tok_basis_Mirror : TableOk Tryz.prog (table tab_basis_Mirror) := table_cons ok_basis_Mirror tok_skylightref07_Out

/-! skylightref07.Mirror -/
def e_skylightref07_Mirror : Entry := fun args => match args with | [.agg [.int .i64 false d_x, .int .i64 false d_y, .int .i64 false d_z], .agg [.int .i64 false n_x, .int .i64 false n_y, .int .i64 false n_z]] => some (.leaf (v3 ((mir3 ⟨d_x, d_y, d_z⟩ ⟨n_x, n_y, n_z⟩).x) ((mir3 ⟨d_x, d_y, d_z⟩ ⟨n_x, n_y, n_z⟩).y) ((mir3 ⟨d_x, d_y, d_z⟩ ⟨n_x, n_y, n_z⟩).z))) | _ => none
theorem ok_skylightref07_Mirror : EntryOk Tryz.prog 52 e_skylightref07_Mirror := entry_ok progOk (T := table tab_basis_Mirror) tok_basis_Mirror 16 12 noKnown (fun _ _ _ _ => noKnown_ok) (by
  intro args t v h hv
  unfold e_skylightref07_Mirror at h
  split at h
  · cases h
    cases hv
    refine ⟨rfl, by kernel_rfl, fun φ cs hl => ?_⟩
    rename_i d_x d_y d_z n_x n_y n_z
    obtain ⟨h_d_x, h_d_y, h_d_z, h_n_x, h_n_y, h_n_z, _⟩ : InR .i64 d_x ∧ InR .i64 d_y ∧ InR .i64 d_z ∧ InR .i64 n_x ∧ InR .i64 n_y ∧ InR .i64 n_z ∧ True := rngL_of _ _ True hl trivial
    exact (congrArg Tr.run (by kernel_rfl : evV Tryz.prog (table tab_basis_Mirror) 16 12 noKnown 52 [.agg [.int .i64 false d_x, .int .i64 false d_y, .int .i64 false d_z], .agg [.int .i64 false n_x, .int .i64 false n_y, .int .i64 false n_z]] = tr_skylightref07_Mirror d_x d_y d_z n_x n_y n_z)).trans (run_skylightref07_Mirror d_x d_y d_z n_x n_y n_z h_d_x h_d_y h_d_z h_n_x h_n_y h_n_z)
  · cases h)
noncomputable def tab_skylightref07_Mirror : List (FuncId × Entry) := (52, e_skylightref07_Mirror) :: tab_basis_Mirror
theorem tok_skylightref07_Mirror : TableOk Tryz.prog (table tab_skylightref07_Mirror) := table_cons ok_skylightref07_Mirror tok_basis_Mirror

/-! spread.Half -/
def e_spread_Half : Entry := fun args => match args with | [.agg [.int .i64 false n_x, .int .i64 false n_y, .int .i64 false n_z], .int .i64 false u, .int .i64 false a] => some (.leaf (v3 ((half3 ⟨n_x, n_y, n_z⟩ u a).x) ((half3 ⟨n_x, n_y, n_z⟩ u a).y) ((half3 ⟨n_x, n_y, n_z⟩ u a).z))) | _ => none
theorem ok_spread_Half : EntryOk Tryz.prog 142 e_spread_Half := entry_ok progOk (T := table tab_skylightref07_Mirror) tok_skylightref07_Mirror 16 12 noKnown (fun _ _ _ _ => noKnown_ok) (by
  intro args t v h hv
  unfold e_spread_Half at h
  split at h
  · cases h
    cases hv
    refine ⟨rfl, by kernel_rfl, fun φ cs hl => ?_⟩
    rename_i n_x n_y n_z u a
    obtain ⟨h_n_x, h_n_y, h_n_z, h_u, h_a, _⟩ : InR .i64 n_x ∧ InR .i64 n_y ∧ InR .i64 n_z ∧ InR .i64 u ∧ InR .i64 a ∧ True := rngL_of _ _ True hl trivial
    exact (congrArg Tr.run (by kernel_rfl : evV Tryz.prog (table tab_skylightref07_Mirror) 16 12 noKnown 142 [.agg [.int .i64 false n_x, .int .i64 false n_y, .int .i64 false n_z], .int .i64 false u, .int .i64 false a] = tr_spread_Half n_x n_y n_z u a)).trans (run_spread_Half n_x n_y n_z u a h_n_x h_n_y h_n_z h_u h_a)
  · cases h)
noncomputable def tab_spread_Half : List (FuncId × Entry) := (142, e_spread_Half) :: tab_skylightref07_Mirror
theorem tok_spread_Half : TableOk Tryz.prog (table tab_spread_Half) := table_cons ok_spread_Half tok_skylightref07_Mirror

/-! spread.Cone -/
def e_spread_Cone : Entry := fun args => match args with | [.agg [.int .i64 false n_x, .int .i64 false n_y, .int .i64 false n_z], .int .i64 false c, .int .i64 false u, .int .i64 false a] => some (.leaf (v3 ((cone3 ⟨n_x, n_y, n_z⟩ c u a).x) ((cone3 ⟨n_x, n_y, n_z⟩ c u a).y) ((cone3 ⟨n_x, n_y, n_z⟩ c u a).z))) | _ => none
theorem ok_spread_Cone : EntryOk Tryz.prog 73 e_spread_Cone := entry_ok progOk (T := table tab_spread_Half) tok_spread_Half 16 12 noKnown (fun _ _ _ _ => noKnown_ok) (by
  intro args t v h hv
  unfold e_spread_Cone at h
  split at h
  · cases h
    cases hv
    refine ⟨rfl, by kernel_rfl, fun φ cs hl => ?_⟩
    rename_i n_x n_y n_z c u a
    obtain ⟨h_n_x, h_n_y, h_n_z, h_c, h_u, h_a, _⟩ : InR .i64 n_x ∧ InR .i64 n_y ∧ InR .i64 n_z ∧ InR .i64 c ∧ InR .i64 u ∧ InR .i64 a ∧ True := rngL_of _ _ True hl trivial
    exact (congrArg Tr.run (by kernel_rfl : evV Tryz.prog (table tab_spread_Half) 16 12 noKnown 73 [.agg [.int .i64 false n_x, .int .i64 false n_y, .int .i64 false n_z], .int .i64 false c, .int .i64 false u, .int .i64 false a] = tr_spread_Cone n_x n_y n_z c u a)).trans (run_spread_Cone n_x n_y n_z c u a h_n_x h_n_y h_n_z h_c h_u h_a)
  · cases h)
noncomputable def tab_spread_Cone : List (FuncId × Entry) := (73, e_spread_Cone) :: tab_spread_Half
theorem tok_spread_Cone : TableOk Tryz.prog (table tab_spread_Cone) := table_cons ok_spread_Cone tok_spread_Half

/-! skylightref23.Half -/
def e_skylightref23_Half : Entry := fun args => match args with | [.agg [.int .i64 false n_x, .int .i64 false n_y, .int .i64 false n_z], .int .i64 false u, .int .i64 false a] => some (.leaf (v3 ((half3 ⟨n_x, n_y, n_z⟩ u a).x) ((half3 ⟨n_x, n_y, n_z⟩ u a).y) ((half3 ⟨n_x, n_y, n_z⟩ u a).z))) | _ => none
theorem ok_skylightref23_Half : EntryOk Tryz.prog 82 e_skylightref23_Half := entry_ok progOk (T := table tab_spread_Cone) tok_spread_Cone 16 12 noKnown (fun _ _ _ _ => noKnown_ok) (by
  intro args t v h hv
  unfold e_skylightref23_Half at h
  split at h
  · cases h
    cases hv
    refine ⟨rfl, by kernel_rfl, fun φ cs hl => ?_⟩
    rename_i n_x n_y n_z u a
    obtain ⟨h_n_x, h_n_y, h_n_z, h_u, h_a, _⟩ : InR .i64 n_x ∧ InR .i64 n_y ∧ InR .i64 n_z ∧ InR .i64 u ∧ InR .i64 a ∧ True := rngL_of _ _ True hl trivial
    exact (congrArg Tr.run (by kernel_rfl : evV Tryz.prog (table tab_spread_Cone) 16 12 noKnown 82 [.agg [.int .i64 false n_x, .int .i64 false n_y, .int .i64 false n_z], .int .i64 false u, .int .i64 false a] = tr_skylightref23_Half n_x n_y n_z u a)).trans (run_skylightref23_Half n_x n_y n_z u a h_n_x h_n_y h_n_z h_u h_a)
  · cases h)
noncomputable def tab_skylightref23_Half : List (FuncId × Entry) := (82, e_skylightref23_Half) :: tab_spread_Cone
theorem tok_skylightref23_Half : TableOk Tryz.prog (table tab_skylightref23_Half) := table_cons ok_skylightref23_Half tok_spread_Cone

/-! skylightref23.Cone -/
def e_skylightref23_Cone : Entry := fun args => match args with | [.agg [.int .i64 false n_x, .int .i64 false n_y, .int .i64 false n_z], .int .i64 false c, .int .i64 false u, .int .i64 false a] => some (.leaf (v3 ((cone3 ⟨n_x, n_y, n_z⟩ c u a).x) ((cone3 ⟨n_x, n_y, n_z⟩ c u a).y) ((cone3 ⟨n_x, n_y, n_z⟩ c u a).z))) | _ => none
theorem ok_skylightref23_Cone : EntryOk Tryz.prog 78 e_skylightref23_Cone := entry_ok progOk (T := table tab_skylightref23_Half) tok_skylightref23_Half 16 12 noKnown (fun _ _ _ _ => noKnown_ok) (by
  intro args t v h hv
  unfold e_skylightref23_Cone at h
  split at h
  · cases h
    cases hv
    refine ⟨rfl, by kernel_rfl, fun φ cs hl => ?_⟩
    rename_i n_x n_y n_z c u a
    obtain ⟨h_n_x, h_n_y, h_n_z, h_c, h_u, h_a, _⟩ : InR .i64 n_x ∧ InR .i64 n_y ∧ InR .i64 n_z ∧ InR .i64 c ∧ InR .i64 u ∧ InR .i64 a ∧ True := rngL_of _ _ True hl trivial
    exact (congrArg Tr.run (by kernel_rfl : evV Tryz.prog (table tab_skylightref23_Half) 16 12 noKnown 78 [.agg [.int .i64 false n_x, .int .i64 false n_y, .int .i64 false n_z], .int .i64 false c, .int .i64 false u, .int .i64 false a] = tr_skylightref23_Cone n_x n_y n_z c u a)).trans (run_skylightref23_Cone n_x n_y n_z c u a h_n_x h_n_y h_n_z h_c h_u h_a)
  · cases h)
noncomputable def tab_skylightref23_Cone : List (FuncId × Entry) := (78, e_skylightref23_Cone) :: tab_skylightref23_Half
theorem tok_skylightref23_Cone : TableOk Tryz.prog (table tab_skylightref23_Cone) := table_cons ok_skylightref23_Cone tok_skylightref23_Half

end Go.Proofs.YtpljpbmkklcbkaaGreat

/- Entries of the table: what functions give. -/
set_option linter.unusedSimpArgs false
set_option linter.unusedVariables false
namespace Go.Proofs.YtpljpbmkklcbkaaGreat
open Go Go.Sky
set_option maxRecDepth 100000

/-! skylightref25.Power -/
def e_skylightref25_Power : Entry := fun args => match args with | [.int .i64 false c, .int .i64 false e] => some (.leaf (i6 (powN c e))) | _ => none
noncomputable def O_skylightref25_Power_0 : Known := known 0 (piece Tryz.prog (table tab_skylightref23_Cone) noKnown 43 0 31 [5, 6, 21, 22, 23, 24, 25, 26, 27, 28, 29] [0, 1, 5, 6] g_skylightref25_Power_0) noKnown
theorem O_skylightref25_Power_0_ok : ∀ fn c, Tryz.prog.funcs[43]? = some fn → fn.body = some c → KnownOk Tryz.prog O_skylightref25_Power_0 (blocksOf c) :=
  known_ok (by kernel_rfl) (piece_wp progOk tok_skylightref23_Cone (known_in (by kernel_rfl) (fun _ _ _ _ => noKnown_ok)) (piece_skylightref25_Power_0 (by kernel_rfl) (by kernel_rfl) (fun L c en pw j x2 x3 x4 x7 x8 x9 x10 x11 x12 x13 x14 x15 x16 x17 x18 x19 x20 x21 x22 x23 x24 x25 x26 x27 x28 x29 x30 h => by kernel_rfl))) (fun _ _ _ _ => noKnown_ok)
theorem ok_skylightref25_Power : EntryOk Tryz.prog 43 e_skylightref25_Power := entry_ok progOk (T := table tab_skylightref23_Cone) tok_skylightref23_Cone 16 12 O_skylightref25_Power_0 O_skylightref25_Power_0_ok (by
  intro args t v h hv
  unfold e_skylightref25_Power at h
  split at h
  · cases h
    cases hv
    refine ⟨rfl, by kernel_rfl, fun φ cs hl => ?_⟩
    rename_i c e
    obtain ⟨h_c, h_e, _⟩ : InR .i64 c ∧ InR .i64 e ∧ True := rngL_of _ _ True hl trivial
    exact (congrArg Tr.run (by kernel_rfl : evV Tryz.prog (table tab_skylightref23_Cone) 16 12 O_skylightref25_Power_0 43 [.int .i64 false c, .int .i64 false e] = tr_skylightref25_Power c e)).trans (run_skylightref25_Power c e h_c h_e)
  · cases h)
noncomputable def tab_skylightref25_Power : List (FuncId × Entry) := (43, e_skylightref25_Power) :: tab_skylightref23_Cone
theorem tok_skylightref25_Power : TableOk Tryz.prog (table tab_skylightref25_Power) := table_cons ok_skylightref25_Power tok_skylightref23_Cone

/-! matter.Right -/
def e_matter_Right : Entry := fun args => match args with | [.agg [.int .i64 false m_k, .int .i64 false m_c_r, .int .i64 false m_c_g, .int .i64 false m_c_b, .int .i64 false m_x]] => some (.leaf (bb (matB m_k m_c_r m_c_g m_c_b m_x))) | _ => none
theorem ok_matter_Right : EntryOk Tryz.prog 40 e_matter_Right := entry_ok progOk (T := table tab_skylightref25_Power) tok_skylightref25_Power 16 12 noKnown (fun _ _ _ _ => noKnown_ok) (by
  intro args t v h hv
  unfold e_matter_Right at h
  split at h
  · cases h
    cases hv
    refine ⟨rfl, by kernel_rfl, fun φ cs hl => ?_⟩
    rename_i m_k m_c_r m_c_g m_c_b m_x
    obtain ⟨h_m_k, h_m_c_r, h_m_c_g, h_m_c_b, h_m_x, _⟩ : InR .i64 m_k ∧ InR .i64 m_c_r ∧ InR .i64 m_c_g ∧ InR .i64 m_c_b ∧ InR .i64 m_x ∧ True := rngL_of _ _ True hl trivial
    exact (congrArg Tr.run (by kernel_rfl : evV Tryz.prog (table tab_skylightref25_Power) 16 12 noKnown 40 [.agg [.int .i64 false m_k, .int .i64 false m_c_r, .int .i64 false m_c_g, .int .i64 false m_c_b, .int .i64 false m_x]] = tr_matter_Right m_k m_c_r m_c_g m_c_b m_x)).trans (run_matter_Right m_k m_c_r m_c_g m_c_b m_x h_m_k h_m_c_r h_m_c_g h_m_c_b h_m_x)
  · cases h)
noncomputable def tab_matter_Right : List (FuncId × Entry) := (40, e_matter_Right) :: tab_skylightref25_Power
theorem tok_matter_Right : TableOk Tryz.prog (table tab_matter_Right) := table_cons ok_matter_Right tok_skylightref25_Power

/-! skylightref25.Right -/
def e_skylightref25_Right : Entry := fun args => match args with | [.agg [.int .i64 false m_k, .int .i64 false m_c_r, .int .i64 false m_c_g, .int .i64 false m_c_b, .int .i64 false m_x]] => some (.leaf (bb (matB m_k m_c_r m_c_g m_c_b m_x))) | _ => none
theorem ok_skylightref25_Right : EntryOk Tryz.prog 41 e_skylightref25_Right := entry_ok progOk (T := table tab_matter_Right) tok_matter_Right 16 12 noKnown (fun _ _ _ _ => noKnown_ok) (by
  intro args t v h hv
  unfold e_skylightref25_Right at h
  split at h
  · cases h
    cases hv
    refine ⟨rfl, by kernel_rfl, fun φ cs hl => ?_⟩
    rename_i m_k m_c_r m_c_g m_c_b m_x
    obtain ⟨h_m_k, h_m_c_r, h_m_c_g, h_m_c_b, h_m_x, _⟩ : InR .i64 m_k ∧ InR .i64 m_c_r ∧ InR .i64 m_c_g ∧ InR .i64 m_c_b ∧ InR .i64 m_x ∧ True := rngL_of _ _ True hl trivial
    exact (congrArg Tr.run (by kernel_rfl : evV Tryz.prog (table tab_matter_Right) 16 12 noKnown 41 [.agg [.int .i64 false m_k, .int .i64 false m_c_r, .int .i64 false m_c_g, .int .i64 false m_c_b, .int .i64 false m_x]] = tr_skylightref25_Right m_k m_c_r m_c_g m_c_b m_x)).trans (run_skylightref25_Right m_k m_c_r m_c_g m_c_b m_x h_m_k h_m_c_r h_m_c_g h_m_c_b h_m_x)
  · cases h)
noncomputable def tab_skylightref25_Right : List (FuncId × Entry) := (41, e_skylightref25_Right) :: tab_matter_Right
theorem tok_skylightref25_Right : TableOk Tryz.prog (table tab_skylightref25_Right) := table_cons ok_skylightref25_Right tok_matter_Right

/-! matter.Value -/
def e_matter_Value : Entry := fun args => match args with | [.agg [.int .i64 false m_k, .int .i64 false m_c_r, .int .i64 false m_c_g, .int .i64 false m_c_b, .int .i64 false m_x], .agg [.int .i64 false n_x, .int .i64 false n_y, .int .i64 false n_z], .agg [.int .i64 false i_x, .int .i64 false i_y, .int .i64 false i_z], .agg [.int .i64 false o_x, .int .i64 false o_y, .int .i64 false o_z]] => some (.leaf (v3 (valC m_c_r m_k m_c_r m_c_g m_c_b m_x ⟨n_x, n_y, n_z⟩ ⟨i_x, i_y, i_z⟩ ⟨o_x, o_y, o_z⟩) (valC m_c_g m_k m_c_r m_c_g m_c_b m_x ⟨n_x, n_y, n_z⟩ ⟨i_x, i_y, i_z⟩ ⟨o_x, o_y, o_z⟩) (valC m_c_b m_k m_c_r m_c_g m_c_b m_x ⟨n_x, n_y, n_z⟩ ⟨i_x, i_y, i_z⟩ ⟨o_x, o_y, o_z⟩))) | _ => none
theorem ok_matter_Value : EntryOk Tryz.prog 44 e_matter_Value := entry_ok progOk (T := table tab_skylightref25_Right) tok_skylightref25_Right 16 12 noKnown (fun _ _ _ _ => noKnown_ok) (by
  intro args t v h hv
  unfold e_matter_Value at h
  split at h
  · cases h
    cases hv
    refine ⟨rfl, by kernel_rfl, fun φ cs hl => ?_⟩
    rename_i m_k m_c_r m_c_g m_c_b m_x n_x n_y n_z i_x i_y i_z o_x o_y o_z
    obtain ⟨h_m_k, h_m_c_r, h_m_c_g, h_m_c_b, h_m_x, h_n_x, h_n_y, h_n_z, h_i_x, h_i_y, h_i_z, h_o_x, h_o_y, h_o_z, _⟩ : InR .i64 m_k ∧ InR .i64 m_c_r ∧ InR .i64 m_c_g ∧ InR .i64 m_c_b ∧ InR .i64 m_x ∧ InR .i64 n_x ∧ InR .i64 n_y ∧ InR .i64 n_z ∧ InR .i64 i_x ∧ InR .i64 i_y ∧ InR .i64 i_z ∧ InR .i64 o_x ∧ InR .i64 o_y ∧ InR .i64 o_z ∧ True := rngL_of _ _ True hl trivial
    exact (congrArg Tr.run (by kernel_rfl : evV Tryz.prog (table tab_skylightref25_Right) 16 12 noKnown 44 [.agg [.int .i64 false m_k, .int .i64 false m_c_r, .int .i64 false m_c_g, .int .i64 false m_c_b, .int .i64 false m_x], .agg [.int .i64 false n_x, .int .i64 false n_y, .int .i64 false n_z], .agg [.int .i64 false i_x, .int .i64 false i_y, .int .i64 false i_z], .agg [.int .i64 false o_x, .int .i64 false o_y, .int .i64 false o_z]] = tr_matter_Value m_k m_c_r m_c_g m_c_b m_x n_x n_y n_z i_x i_y i_z o_x o_y o_z)).trans (run_matter_Value m_k m_c_r m_c_g m_c_b m_x n_x n_y n_z i_x i_y i_z o_x o_y o_z h_m_k h_m_c_r h_m_c_g h_m_c_b h_m_x h_n_x h_n_y h_n_z h_i_x h_i_y h_i_z h_o_x h_o_y h_o_z)
  · cases h)
noncomputable def tab_matter_Value : List (FuncId × Entry) := (44, e_matter_Value) :: tab_skylightref25_Right
theorem tok_matter_Value : TableOk Tryz.prog (table tab_matter_Value) := table_cons ok_matter_Value tok_skylightref25_Right

/-! skylightref25.Value -/
def e_skylightref25_Value : Entry := fun args => match args with | [.agg [.int .i64 false m_k, .int .i64 false m_c_r, .int .i64 false m_c_g, .int .i64 false m_c_b, .int .i64 false m_x], .agg [.int .i64 false n_x, .int .i64 false n_y, .int .i64 false n_z], .agg [.int .i64 false i_x, .int .i64 false i_y, .int .i64 false i_z], .agg [.int .i64 false o_x, .int .i64 false o_y, .int .i64 false o_z]] => some (.leaf (v3 (valC m_c_r m_k m_c_r m_c_g m_c_b m_x ⟨n_x, n_y, n_z⟩ ⟨i_x, i_y, i_z⟩ ⟨o_x, o_y, o_z⟩) (valC m_c_g m_k m_c_r m_c_g m_c_b m_x ⟨n_x, n_y, n_z⟩ ⟨i_x, i_y, i_z⟩ ⟨o_x, o_y, o_z⟩) (valC m_c_b m_k m_c_r m_c_g m_c_b m_x ⟨n_x, n_y, n_z⟩ ⟨i_x, i_y, i_z⟩ ⟨o_x, o_y, o_z⟩))) | _ => none
theorem ok_skylightref25_Value : EntryOk Tryz.prog 45 e_skylightref25_Value := entry_ok progOk (T := table tab_matter_Value) tok_matter_Value 16 12 noKnown (fun _ _ _ _ => noKnown_ok) (by
  intro args t v h hv
  unfold e_skylightref25_Value at h
  split at h
  · cases h
    cases hv
    refine ⟨rfl, by kernel_rfl, fun φ cs hl => ?_⟩
    rename_i m_k m_c_r m_c_g m_c_b m_x n_x n_y n_z i_x i_y i_z o_x o_y o_z
    obtain ⟨h_m_k, h_m_c_r, h_m_c_g, h_m_c_b, h_m_x, h_n_x, h_n_y, h_n_z, h_i_x, h_i_y, h_i_z, h_o_x, h_o_y, h_o_z, _⟩ : InR .i64 m_k ∧ InR .i64 m_c_r ∧ InR .i64 m_c_g ∧ InR .i64 m_c_b ∧ InR .i64 m_x ∧ InR .i64 n_x ∧ InR .i64 n_y ∧ InR .i64 n_z ∧ InR .i64 i_x ∧ InR .i64 i_y ∧ InR .i64 i_z ∧ InR .i64 o_x ∧ InR .i64 o_y ∧ InR .i64 o_z ∧ True := rngL_of _ _ True hl trivial
    exact (congrArg Tr.run (by kernel_rfl : evV Tryz.prog (table tab_matter_Value) 16 12 noKnown 45 [.agg [.int .i64 false m_k, .int .i64 false m_c_r, .int .i64 false m_c_g, .int .i64 false m_c_b, .int .i64 false m_x], .agg [.int .i64 false n_x, .int .i64 false n_y, .int .i64 false n_z], .agg [.int .i64 false i_x, .int .i64 false i_y, .int .i64 false i_z], .agg [.int .i64 false o_x, .int .i64 false o_y, .int .i64 false o_z]] = tr_skylightref25_Value m_k m_c_r m_c_g m_c_b m_x n_x n_y n_z i_x i_y i_z o_x o_y o_z)).trans (run_skylightref25_Value m_k m_c_r m_c_g m_c_b m_x n_x n_y n_z i_x i_y i_z o_x o_y o_z h_m_k h_m_c_r h_m_c_g h_m_c_b h_m_x h_n_x h_n_y h_n_z h_i_x h_i_y h_i_z h_o_x h_o_y h_o_z)
  · cases h)
noncomputable def tab_skylightref25_Value : List (FuncId × Entry) := (45, e_skylightref25_Value) :: tab_matter_Value
theorem tok_skylightref25_Value : TableOk Tryz.prog (table tab_skylightref25_Value) := table_cons ok_skylightref25_Value tok_matter_Value

end Go.Proofs.YtpljpbmkklcbkaaGreat

/- Entries of the table: what functions give. -/
set_option linter.unusedSimpArgs false
set_option linter.unusedVariables false
namespace Go.Proofs.YtpljpbmkklcbkaaGreat
open Go Go.Sky
set_option maxRecDepth 100000

/-! matter.Throw -/
def e_matter_Throw : Entry := fun args => match args with | [.agg [.int .i64 false m_k, .int .i64 false m_c_r, .int .i64 false m_c_g, .int .i64 false m_c_b, .int .i64 false m_x], .agg [.int .i64 false n_x, .int .i64 false n_y, .int .i64 false n_z], .agg [.int .i64 false i_x, .int .i64 false i_y, .int .i64 false i_z], .int .i64 false u, .int .i64 false a, .int .i64 false w] => some (.leaf (.tuple [v3 (((thr3 m_k m_c_r m_c_g m_c_b m_x ⟨n_x, n_y, n_z⟩ ⟨i_x, i_y, i_z⟩ u a w).1).x) (((thr3 m_k m_c_r m_c_g m_c_b m_x ⟨n_x, n_y, n_z⟩ ⟨i_x, i_y, i_z⟩ u a w).1).y) (((thr3 m_k m_c_r m_c_g m_c_b m_x ⟨n_x, n_y, n_z⟩ ⟨i_x, i_y, i_z⟩ u a w).1).z), bb (thr3 m_k m_c_r m_c_g m_c_b m_x ⟨n_x, n_y, n_z⟩ ⟨i_x, i_y, i_z⟩ u a w).2])) | _ => none
theorem ok_matter_Throw : EntryOk Tryz.prog 38 e_matter_Throw := entry_ok progOk (T := table tab_skylightref25_Value) tok_skylightref25_Value 16 12 noKnown (fun _ _ _ _ => noKnown_ok) (by
  intro args t v h hv
  unfold e_matter_Throw at h
  split at h
  · cases h
    cases hv
    refine ⟨rfl, by kernel_rfl, fun φ cs hl => ?_⟩
    rename_i m_k m_c_r m_c_g m_c_b m_x n_x n_y n_z i_x i_y i_z u a w
    obtain ⟨h_m_k, h_m_c_r, h_m_c_g, h_m_c_b, h_m_x, h_n_x, h_n_y, h_n_z, h_i_x, h_i_y, h_i_z, h_u, h_a, h_w, _⟩ : InR .i64 m_k ∧ InR .i64 m_c_r ∧ InR .i64 m_c_g ∧ InR .i64 m_c_b ∧ InR .i64 m_x ∧ InR .i64 n_x ∧ InR .i64 n_y ∧ InR .i64 n_z ∧ InR .i64 i_x ∧ InR .i64 i_y ∧ InR .i64 i_z ∧ InR .i64 u ∧ InR .i64 a ∧ InR .i64 w ∧ True := rngL_of _ _ True hl trivial
    exact (congrArg Tr.run (by kernel_rfl : evV Tryz.prog (table tab_skylightref25_Value) 16 12 noKnown 38 [.agg [.int .i64 false m_k, .int .i64 false m_c_r, .int .i64 false m_c_g, .int .i64 false m_c_b, .int .i64 false m_x], .agg [.int .i64 false n_x, .int .i64 false n_y, .int .i64 false n_z], .agg [.int .i64 false i_x, .int .i64 false i_y, .int .i64 false i_z], .int .i64 false u, .int .i64 false a, .int .i64 false w] = tr_matter_Throw m_k m_c_r m_c_g m_c_b m_x n_x n_y n_z i_x i_y i_z u a w)).trans (run_matter_Throw m_k m_c_r m_c_g m_c_b m_x n_x n_y n_z i_x i_y i_z u a w h_m_k h_m_c_r h_m_c_g h_m_c_b h_m_x h_n_x h_n_y h_n_z h_i_x h_i_y h_i_z h_u h_a h_w)
  · cases h)
noncomputable def tab_matter_Throw : List (FuncId × Entry) := (38, e_matter_Throw) :: tab_skylightref25_Value
theorem tok_matter_Throw : TableOk Tryz.prog (table tab_matter_Throw) := table_cons ok_matter_Throw tok_skylightref25_Value

/-! skylightref25.Throw -/
def e_skylightref25_Throw : Entry := fun args => match args with | [.agg [.int .i64 false m_k, .int .i64 false m_c_r, .int .i64 false m_c_g, .int .i64 false m_c_b, .int .i64 false m_x], .agg [.int .i64 false n_x, .int .i64 false n_y, .int .i64 false n_z], .agg [.int .i64 false i_x, .int .i64 false i_y, .int .i64 false i_z], .int .i64 false u, .int .i64 false a, .int .i64 false w] => some (.leaf (.tuple [v3 (((thr3 m_k m_c_r m_c_g m_c_b m_x ⟨n_x, n_y, n_z⟩ ⟨i_x, i_y, i_z⟩ u a w).1).x) (((thr3 m_k m_c_r m_c_g m_c_b m_x ⟨n_x, n_y, n_z⟩ ⟨i_x, i_y, i_z⟩ u a w).1).y) (((thr3 m_k m_c_r m_c_g m_c_b m_x ⟨n_x, n_y, n_z⟩ ⟨i_x, i_y, i_z⟩ u a w).1).z), bb (thr3 m_k m_c_r m_c_g m_c_b m_x ⟨n_x, n_y, n_z⟩ ⟨i_x, i_y, i_z⟩ u a w).2])) | _ => none
theorem ok_skylightref25_Throw : EntryOk Tryz.prog 39 e_skylightref25_Throw := entry_ok progOk (T := table tab_matter_Throw) tok_matter_Throw 16 12 noKnown (fun _ _ _ _ => noKnown_ok) (by
  intro args t v h hv
  unfold e_skylightref25_Throw at h
  split at h
  · cases h
    cases hv
    refine ⟨rfl, by kernel_rfl, fun φ cs hl => ?_⟩
    rename_i m_k m_c_r m_c_g m_c_b m_x n_x n_y n_z i_x i_y i_z u a w
    obtain ⟨h_m_k, h_m_c_r, h_m_c_g, h_m_c_b, h_m_x, h_n_x, h_n_y, h_n_z, h_i_x, h_i_y, h_i_z, h_u, h_a, h_w, _⟩ : InR .i64 m_k ∧ InR .i64 m_c_r ∧ InR .i64 m_c_g ∧ InR .i64 m_c_b ∧ InR .i64 m_x ∧ InR .i64 n_x ∧ InR .i64 n_y ∧ InR .i64 n_z ∧ InR .i64 i_x ∧ InR .i64 i_y ∧ InR .i64 i_z ∧ InR .i64 u ∧ InR .i64 a ∧ InR .i64 w ∧ True := rngL_of _ _ True hl trivial
    exact (congrArg Tr.run (by kernel_rfl : evV Tryz.prog (table tab_matter_Throw) 16 12 noKnown 39 [.agg [.int .i64 false m_k, .int .i64 false m_c_r, .int .i64 false m_c_g, .int .i64 false m_c_b, .int .i64 false m_x], .agg [.int .i64 false n_x, .int .i64 false n_y, .int .i64 false n_z], .agg [.int .i64 false i_x, .int .i64 false i_y, .int .i64 false i_z], .int .i64 false u, .int .i64 false a, .int .i64 false w] = tr_skylightref25_Throw m_k m_c_r m_c_g m_c_b m_x n_x n_y n_z i_x i_y i_z u a w)).trans (run_skylightref25_Throw m_k m_c_r m_c_g m_c_b m_x n_x n_y n_z i_x i_y i_z u a w h_m_k h_m_c_r h_m_c_g h_m_c_b h_m_x h_n_x h_n_y h_n_z h_i_x h_i_y h_i_z h_u h_a h_w)
  · cases h)
noncomputable def tab_skylightref25_Throw : List (FuncId × Entry) := (39, e_skylightref25_Throw) :: tab_matter_Throw
theorem tok_skylightref25_Throw : TableOk Tryz.prog (table tab_skylightref25_Throw) := table_cons ok_skylightref25_Throw tok_matter_Throw

end Go.Proofs.YtpljpbmkklcbkaaGreat

/- Entries of the table: what functions give. -/
set_option linter.unusedSimpArgs false
set_option linter.unusedVariables false
namespace Go.Proofs.YtpljpbmkklcbkaaGreat
open Go Go.Sky
set_option maxRecDepth 100000

/-! skylightlaw25.MatterTells -/
def e_skylightlaw25_MatterTells : Entry := fun args => match args with | [.agg [.int .i64 false m_k, .int .i64 false m_c_r, .int .i64 false m_c_g, .int .i64 false m_c_b, .int .i64 false m_x], .agg [.int .i64 false n_x, .int .i64 false n_y, .int .i64 false n_z], .agg [.int .i64 false i_x, .int .i64 false i_y, .int .i64 false i_z], .agg [.int .i64 false o_x, .int .i64 false o_y, .int .i64 false o_z], .int .i64 false u, .int .i64 false a, .int .i64 false w] => some (.leaf (bb true)) | _ => none
theorem ok_skylightlaw25_MatterTells : EntryOk Tryz.prog 7 e_skylightlaw25_MatterTells := entry_ok progOk (T := table tab_skylightref25_Throw) tok_skylightref25_Throw 16 12 noKnown (fun _ _ _ _ => noKnown_ok) (by
  intro args t v h hv
  unfold e_skylightlaw25_MatterTells at h
  split at h
  · cases h
    cases hv
    refine ⟨rfl, by kernel_rfl, fun φ cs hl => ?_⟩
    rename_i m_k m_c_r m_c_g m_c_b m_x n_x n_y n_z i_x i_y i_z o_x o_y o_z u a w
    obtain ⟨h_m_k, h_m_c_r, h_m_c_g, h_m_c_b, h_m_x, h_n_x, h_n_y, h_n_z, h_i_x, h_i_y, h_i_z, h_o_x, h_o_y, h_o_z, h_u, h_a, h_w, _⟩ : InR .i64 m_k ∧ InR .i64 m_c_r ∧ InR .i64 m_c_g ∧ InR .i64 m_c_b ∧ InR .i64 m_x ∧ InR .i64 n_x ∧ InR .i64 n_y ∧ InR .i64 n_z ∧ InR .i64 i_x ∧ InR .i64 i_y ∧ InR .i64 i_z ∧ InR .i64 o_x ∧ InR .i64 o_y ∧ InR .i64 o_z ∧ InR .i64 u ∧ InR .i64 a ∧ InR .i64 w ∧ True := rngL_of _ _ True hl trivial
    exact (congrArg Tr.run (by kernel_rfl : evV Tryz.prog (table tab_skylightref25_Throw) 16 12 noKnown 7 [.agg [.int .i64 false m_k, .int .i64 false m_c_r, .int .i64 false m_c_g, .int .i64 false m_c_b, .int .i64 false m_x], .agg [.int .i64 false n_x, .int .i64 false n_y, .int .i64 false n_z], .agg [.int .i64 false i_x, .int .i64 false i_y, .int .i64 false i_z], .agg [.int .i64 false o_x, .int .i64 false o_y, .int .i64 false o_z], .int .i64 false u, .int .i64 false a, .int .i64 false w] = tr_skylightlaw25_MatterTells m_k m_c_r m_c_g m_c_b m_x n_x n_y n_z i_x i_y i_z o_x o_y o_z u a w)).trans (run_skylightlaw25_MatterTells m_k m_c_r m_c_g m_c_b m_x n_x n_y n_z i_x i_y i_z o_x o_y o_z u a w h_m_k h_m_c_r h_m_c_g h_m_c_b h_m_x h_n_x h_n_y h_n_z h_i_x h_i_y h_i_z h_o_x h_o_y h_o_z h_u h_a h_w)
  · cases h)
noncomputable def tab_skylightlaw25_MatterTells : List (FuncId × Entry) := (7, e_skylightlaw25_MatterTells) :: tab_skylightref25_Throw
theorem tok_skylightlaw25_MatterTells : TableOk Tryz.prog (table tab_skylightlaw25_MatterTells) := table_cons ok_skylightlaw25_MatterTells tok_skylightref25_Throw

/-! skylightlaw25.MatterLess -/
def e_skylightlaw25_MatterLess : Entry := fun args => match args with | [.agg [.int .i64 false m_k, .int .i64 false m_c_r, .int .i64 false m_c_g, .int .i64 false m_c_b, .int .i64 false m_x], .agg [.int .i64 false a_x, .int .i64 false a_y, .int .i64 false a_z], .agg [.int .i64 false b_x, .int .i64 false b_y, .int .i64 false b_z], .agg [.int .i64 false c_x, .int .i64 false c_y, .int .i64 false c_z]] => some (.leaf (bb true)) | _ => none
theorem ok_skylightlaw25_MatterLess : EntryOk Tryz.prog 8 e_skylightlaw25_MatterLess := entry_ok progOk (T := table tab_skylightlaw25_MatterTells) tok_skylightlaw25_MatterTells 16 12 noKnown (fun _ _ _ _ => noKnown_ok) (by
  intro args t v h hv
  unfold e_skylightlaw25_MatterLess at h
  split at h
  · cases h
    cases hv
    refine ⟨rfl, by kernel_rfl, fun φ cs hl => ?_⟩
    rename_i m_k m_c_r m_c_g m_c_b m_x a_x a_y a_z b_x b_y b_z c_x c_y c_z
    obtain ⟨h_m_k, h_m_c_r, h_m_c_g, h_m_c_b, h_m_x, h_a_x, h_a_y, h_a_z, h_b_x, h_b_y, h_b_z, h_c_x, h_c_y, h_c_z, _⟩ : InR .i64 m_k ∧ InR .i64 m_c_r ∧ InR .i64 m_c_g ∧ InR .i64 m_c_b ∧ InR .i64 m_x ∧ InR .i64 a_x ∧ InR .i64 a_y ∧ InR .i64 a_z ∧ InR .i64 b_x ∧ InR .i64 b_y ∧ InR .i64 b_z ∧ InR .i64 c_x ∧ InR .i64 c_y ∧ InR .i64 c_z ∧ True := rngL_of _ _ True hl trivial
    exact (congrArg Tr.run (by kernel_rfl : evV Tryz.prog (table tab_skylightlaw25_MatterTells) 16 12 noKnown 8 [.agg [.int .i64 false m_k, .int .i64 false m_c_r, .int .i64 false m_c_g, .int .i64 false m_c_b, .int .i64 false m_x], .agg [.int .i64 false a_x, .int .i64 false a_y, .int .i64 false a_z], .agg [.int .i64 false b_x, .int .i64 false b_y, .int .i64 false b_z], .agg [.int .i64 false c_x, .int .i64 false c_y, .int .i64 false c_z]] = tr_skylightlaw25_MatterLess m_k m_c_r m_c_g m_c_b m_x a_x a_y a_z b_x b_y b_z c_x c_y c_z)).trans (run_skylightlaw25_MatterLess m_k m_c_r m_c_g m_c_b m_x a_x a_y a_z b_x b_y b_z c_x c_y c_z h_m_k h_m_c_r h_m_c_g h_m_c_b h_m_x h_a_x h_a_y h_a_z h_b_x h_b_y h_b_z h_c_x h_c_y h_c_z)
  · cases h)
noncomputable def tab_skylightlaw25_MatterLess : List (FuncId × Entry) := (8, e_skylightlaw25_MatterLess) :: tab_skylightlaw25_MatterTells
theorem tok_skylightlaw25_MatterLess : TableOk Tryz.prog (table tab_skylightlaw25_MatterLess) := table_cons ok_skylightlaw25_MatterLess tok_skylightlaw25_MatterTells

end Go.Proofs.YtpljpbmkklcbkaaGreat

/- Entries of the table: what functions give. -/
set_option linter.unusedSimpArgs false
set_option linter.unusedVariables false
namespace Go.Proofs.YtpljpbmkklcbkaaGreat
open Go Go.Sky
set_option maxRecDepth 100000

/-! skylightlaw25.MatterSide -/
def e_skylightlaw25_MatterSide : Entry := fun args => match args with | [.agg [.int .i64 false m_k, .int .i64 false m_c_r, .int .i64 false m_c_g, .int .i64 false m_c_b, .int .i64 false m_x], .agg [.int .i64 false a_x, .int .i64 false a_y, .int .i64 false a_z], .agg [.int .i64 false b_x, .int .i64 false b_y, .int .i64 false b_z], .int .i64 false u, .int .i64 false q, .int .i64 false w] => some (.leaf (bb true)) | _ => none
theorem ok_skylightlaw25_MatterSide : EntryOk Tryz.prog 9 e_skylightlaw25_MatterSide := entry_ok progOk (T := table tab_skylightlaw25_MatterLess) tok_skylightlaw25_MatterLess 16 12 noKnown (fun _ _ _ _ => noKnown_ok) (by
  intro args t v h hv
  unfold e_skylightlaw25_MatterSide at h
  split at h
  · cases h
    cases hv
    refine ⟨rfl, by kernel_rfl, fun φ cs hl => ?_⟩
    rename_i m_k m_c_r m_c_g m_c_b m_x a_x a_y a_z b_x b_y b_z u q w
    obtain ⟨h_m_k, h_m_c_r, h_m_c_g, h_m_c_b, h_m_x, h_a_x, h_a_y, h_a_z, h_b_x, h_b_y, h_b_z, h_u, h_q, h_w, _⟩ : InR .i64 m_k ∧ InR .i64 m_c_r ∧ InR .i64 m_c_g ∧ InR .i64 m_c_b ∧ InR .i64 m_x ∧ InR .i64 a_x ∧ InR .i64 a_y ∧ InR .i64 a_z ∧ InR .i64 b_x ∧ InR .i64 b_y ∧ InR .i64 b_z ∧ InR .i64 u ∧ InR .i64 q ∧ InR .i64 w ∧ True := rngL_of _ _ True hl trivial
    exact (congrArg Tr.run (by kernel_rfl : evV Tryz.prog (table tab_skylightlaw25_MatterLess) 16 12 noKnown 9 [.agg [.int .i64 false m_k, .int .i64 false m_c_r, .int .i64 false m_c_g, .int .i64 false m_c_b, .int .i64 false m_x], .agg [.int .i64 false a_x, .int .i64 false a_y, .int .i64 false a_z], .agg [.int .i64 false b_x, .int .i64 false b_y, .int .i64 false b_z], .int .i64 false u, .int .i64 false q, .int .i64 false w] = tr_skylightlaw25_MatterSide m_k m_c_r m_c_g m_c_b m_x a_x a_y a_z b_x b_y b_z u q w)).trans (run_skylightlaw25_MatterSide m_k m_c_r m_c_g m_c_b m_x a_x a_y a_z b_x b_y b_z u q w h_m_k h_m_c_r h_m_c_g h_m_c_b h_m_x h_a_x h_a_y h_a_z h_b_x h_b_y h_b_z h_u h_q h_w)
  · cases h)
noncomputable def tab_skylightlaw25_MatterSide : List (FuncId × Entry) := (9, e_skylightlaw25_MatterSide) :: tab_skylightlaw25_MatterLess
theorem tok_skylightlaw25_MatterSide : TableOk Tryz.prog (table tab_skylightlaw25_MatterSide) := table_cons ok_skylightlaw25_MatterSide tok_skylightlaw25_MatterLess

end Go.Proofs.YtpljpbmkklcbkaaGreat
