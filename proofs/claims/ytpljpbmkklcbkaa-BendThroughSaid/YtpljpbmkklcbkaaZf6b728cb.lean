/-
  DERIVED: THE SHELF's CONTRACTS AT THIS DUMP, IN PLAIN WORDS (tools/lay-plain.mjs out of 'TryShelf.lean', which tools/lay-shelf.mjs wrote): THE SAME DECLARATIONS UNDER THE SAME NAMES: 'import', 'namespace', 'open', 'def', 'theorem' AND NOTHING ELSE: no command of the shelf's: FOR A HAND-IN. Each laying: the table of numbers ('.._ren') and one theorem, a field a fact of the dump's own or the kernel's comparison; each contract: ONE APPLICATION.
-/
import Derived.Shelf.Strings.Builder1
import Derived.Shelf.Strings.Builder2
import Derived.Shelf.Strings.OnBuilder
import Derived.Shelf.Small.Bits
import Derived.Shelf.Small.Wraps
import Derived.Shelf.Strings.BuilderF
import Derived.Shelf.Strings.Builder2Cap
import Derived.Shelf.Strconv.Itoa0
import Derived.Shelf.Strings.Search1
import Derived.Shelf.Strings.Search2
import Derived.Shelf.Strings.Cut
import Derived.Shelf.LaysM
import Derived.Shelf.Strings.Shaped
import Derived.Shelf.Strings.Prefix
import Derived.Shelf.Bits.Mul64
import Derived.Ground.Names2Prog
import Derived.Shelf.Slices.SearchI
import Derived.Test.YtpljpbmkklcbkaaProg
import Derived.Test.YtpljpbmkklcbkaaQe51a9cdb
namespace Go.Proofs
open Go.Shelf
def Try.lays169_ren : Go.Shelf.Ren := ⟨fun | 169 => 107 | n => n, fun | 70 => 160 | 9 => 9 | 0 => 0 | 72 => 163 | 37 => 161 | 127 => 196 | 3 => 3 | 5 => 5 | n => n, fun | n => n⟩
theorem Try.lays169 : Go.Proofs.Lays.n169 Try.prog Try.lays169_ren := {
  mixed := by kernel_rfl
  f169 := Try.func107.trans (congrArg some (by kernel_rfl))
  t0 := Try.underlying0
  a0 := Try.isAgg0
  z0 := Try.sizeOf0
  v0 := Try.zeroValue0
  t3 := Try.underlying3
  a3 := Try.isAgg3
  z3 := Try.sizeOf3
  v3 := Try.zeroValue3
  t9 := Try.underlying9
  a9 := Try.isAgg9
  z9 := Try.sizeOf9
  v9 := Try.zeroValue9
  t37 := Try.underlying161
  a37 := Try.isAgg161
  z37 := Try.sizeOf161
  v37 := Try.zeroValue161
  t70 := Try.underlying160
  a70 := Try.isAgg160
  z70 := Try.sizeOf160
  v70 := Try.zeroValue160
  t72 := Try.underlying163
  a72 := Try.isAgg163
  z72 := Try.sizeOf163
  v72 := Try.zeroValue163
  t127 := Try.underlying196
  a127 := Try.isAgg196
  z127 := Try.sizeOf196
  v127 := Try.zeroValue196 }
theorem Try.Builder_Extra_169 : Builder.Extra Try.prog Try.lays169_ren := {
  sizeBuilder := by kernel_rfl
  liesBuilder := by kernel_rfl
  t5 := Try.underlying5
  a5 := Try.isAgg5
  z5 := Try.sizeOf5
  v5 := Try.zeroValue5
  infoByte := by kernel_rfl
  cellsByte := by kernel_rfl
  sizeByte := by kernel_rfl
  neB5 := by decide }
open Go.RowKit in
/-- (*strings.Builder).String: "String returns the accumulated string.": OF A BUILDER THAT HOLDS AT LEAST ONE BYTE. ✋ THE MODEL FREEZES THOSE BYTES IN THE BUFFER (unsafe.String): a later write INTO them ends the model's run without an answer; a later append BEHIND them goes on. The statement's order of evaluation is drawn: one draw. (LAID: no walk: one application.) -/
theorem Try.Builder_String (B b : Nat) (l : List UInt8) (w : World) (h : Lib.IsBuilder 163 5 B b (Lib.byteCells l) w) (h0 : l ≠ []) :
    Calls Try.prog 107 #[.pointer (some ⟨b, 0, none⟩)] w fun e w' => e = .returned (.string ⟨l.toArray⟩) ∧ Below B w w' := Any.Builder_String Try.lays169 Try.Builder_Extra_169 B b l w h h0
open Go.RowKit in
/-- (*strings.Builder).String OF A BUILDER THAT HOLDS NO BYTE: the empty string. (Its buffer is nil, or a row of which it has taken nothing yet; where that row has NO capacity the model lays one new block for unsafe.SliceData's 'some address'.) One draw. (LAID: no walk: one application.) -/
theorem Try.Builder_String_empty (B b : Nat) (w : World) (h : Lib.IsBuilder 163 5 B b [] w) (hBw : B ≤ w.heap.size) :
    Calls Try.prog 107 #[.pointer (some ⟨b, 0, none⟩)] w fun e w' => e = .returned (.string ⟨#[]⟩) ∧ Below B w w' := Any.Builder_String_empty Try.lays169 Try.Builder_Extra_169 B b w h hBw
open Go.RowKit in
/-- (*strings.Builder).String: "String returns the accumulated string.": WHATEVER THE BUILDER HOLDS. (LAID: no walk: one application.) -/
theorem Try.Builder_String_any (B b : Nat) (l : List UInt8) (w : World) (h : Lib.IsBuilder 163 5 B b (Lib.byteCells l) w) (hBw : B ≤ w.heap.size) :
    Calls Try.prog 107 #[.pointer (some ⟨b, 0, none⟩)] w fun e w' => e = .returned (.string ⟨l.toArray⟩) ∧ Below B w w' := Any.Builder_String_any Try.lays169 Try.Builder_Extra_169 B b l w h hBw
def Try.lays241_ren : Go.Shelf.Ren := ⟨fun | 241 => 146 | 277 => 165 | n => n, fun | 70 => 160 | 3 => 3 | 0 => 0 | 72 => 163 | 37 => 161 | 5 => 5 | n => n, fun | n => n⟩
theorem Try.lays241 : Go.Proofs.Lays.n241 Try.prog Try.lays241_ren := {
  mixed := by kernel_rfl
  f241 := Try.func146.trans (congrArg some (by kernel_rfl))
  f277 := Try.func165.trans (congrArg some (by kernel_rfl))
  t0 := Try.underlying0
  a0 := Try.isAgg0
  z0 := Try.sizeOf0
  v0 := Try.zeroValue0
  t3 := Try.underlying3
  a3 := Try.isAgg3
  z3 := Try.sizeOf3
  v3 := Try.zeroValue3
  t37 := Try.underlying161
  a37 := Try.isAgg161
  z37 := Try.sizeOf161
  v37 := Try.zeroValue161
  t70 := Try.underlying160
  a70 := Try.isAgg160
  z70 := Try.sizeOf160
  v70 := Try.zeroValue160
  t72 := Try.underlying163
  a72 := Try.isAgg163
  z72 := Try.sizeOf163
  v72 := Try.zeroValue163 }
theorem Try.Builder_Extra_241 : Builder.Extra Try.prog Try.lays241_ren := {
  sizeBuilder := by kernel_rfl
  liesBuilder := by kernel_rfl
  t5 := Try.underlying5
  a5 := Try.isAgg5
  z5 := Try.sizeOf5
  v5 := Try.zeroValue5
  infoByte := by kernel_rfl
  cellsByte := by kernel_rfl
  sizeByte := by kernel_rfl
  neB5 := by decide }
open Go.RowKit in
/-- (*strings.Builder).grow (no doc but "grow copies the buffer to a new, larger buffer so that there are at least n bytes of capacity beyond len(b.buf)."): AT A BUILDER WITHOUT A BUFFER: a new row of whatever bytes for its buffer, none of them its own yet. Three draws. (LAID: no walk: one application.) -/
theorem Try.Builder_grow_fresh (B b n : Nat) (w : World) (hB : B ≤ b) (hbk : w.heap[b]? = some (.cells #[.pointer (some ⟨b, 0, none⟩), .slice none 0 0] 163 (0, 0))) (hBw : B ≤ w.heap.size) (hn : n ≤ 281474976710656) :
    Calls Try.prog 146 #[.pointer (some ⟨b, 0, none⟩), .int .i64 n] w fun e w' => e = .returned (.tuple #[]) ∧ (Lib.BuilderAt 163 5 B b (.pointer (some ⟨b, 0, none⟩)) [] w' ∧ Below B w w') := Any.Builder_grow_fresh Try.lays241 Try.Builder_Extra_241 B b n w hB hbk hBw hn
def Try.lays165_ren : Go.Shelf.Ren := ⟨fun | 165 => 105 | 240 => 145 | 241 => 146 | 276 => 164 | 277 => 165 | n => n, fun | 70 => 160 | 3 => 3 | 0 => 0 | 4 => 4 | 9 => 9 | 20 => 20 | 72 => 163 | 37 => 161 | 164 => 219 | 5 => 5 | n => n, fun | n => n⟩
theorem Try.lays165 : Go.Proofs.Lays.n165 Try.prog Try.lays165_ren := {
  mixed := by kernel_rfl
  f165 := Try.func105.trans (congrArg some (by kernel_rfl))
  f240 := Try.func145.trans (congrArg some (by kernel_rfl))
  f241 := Try.func146.trans (congrArg some (by kernel_rfl))
  f276 := Try.func164.trans (congrArg some (by kernel_rfl))
  f277 := Try.func165.trans (congrArg some (by kernel_rfl))
  t0 := Try.underlying0
  a0 := Try.isAgg0
  z0 := Try.sizeOf0
  v0 := Try.zeroValue0
  t3 := Try.underlying3
  a3 := Try.isAgg3
  z3 := Try.sizeOf3
  v3 := Try.zeroValue3
  t4 := Try.underlying4
  a4 := Try.isAgg4
  z4 := Try.sizeOf4
  v4 := Try.zeroValue4
  t9 := Try.underlying9
  a9 := Try.isAgg9
  z9 := Try.sizeOf9
  v9 := Try.zeroValue9
  t20 := Try.underlying20
  a20 := Try.isAgg20
  z20 := Try.sizeOf20
  v20 := Try.zeroValue20
  t37 := Try.underlying161
  a37 := Try.isAgg161
  z37 := Try.sizeOf161
  v37 := Try.zeroValue161
  t70 := Try.underlying160
  a70 := Try.isAgg160
  z70 := Try.sizeOf160
  v70 := Try.zeroValue160
  t72 := Try.underlying163
  a72 := Try.isAgg163
  z72 := Try.sizeOf163
  v72 := Try.zeroValue163
  t164 := Try.underlying219
  a164 := Try.isAgg219
  z164 := Try.sizeOf219
  v164 := Try.zeroValue219 }
theorem Try.Builder_Extra_165 : Builder.Extra Try.prog Try.lays165_ren := {
  sizeBuilder := by kernel_rfl
  liesBuilder := by kernel_rfl
  t5 := Try.underlying5
  a5 := Try.isAgg5
  z5 := Try.sizeOf5
  v5 := Try.zeroValue5
  infoByte := by kernel_rfl
  cellsByte := by kernel_rfl
  sizeByte := by kernel_rfl
  neB5 := by decide }
open Go.RowKit in
/-- (*strings.Builder).Grow AT A BUILDER THAT HAS NOT BEEN WRITTEN ('var b strings.Builder; b.Grow(n)'): "Grow grows b's capacity, if necessary, to guarantee space for another n bytes.": it holds no byte behind it as before it. (LAID: no walk: one application.) -/
theorem Try.Builder_Grow_fresh (B b n : Nat) (w : World) (hB : B ≤ b) (hbk : w.heap[b]? = some (.cells #[.pointer none, .slice none 0 0] 163 (0, 0))) (hBw : B ≤ w.heap.size) (hn : n ≤ 281474976710656) :
    Calls Try.prog 105 #[.pointer (some ⟨b, 0, none⟩), .int .i64 n] w fun e w' => e = .returned (.tuple #[]) ∧ (Lib.BuilderAt 163 5 B b (.pointer (some ⟨b, 0, none⟩)) [] w' ∧ Below B w w') := Any.Builder_Grow_fresh Try.lays165 Try.Builder_Extra_165 B b n w hB hbk hBw hn
def Try.lays156_ren : Go.Shelf.Ren := ⟨fun | 156 => 54 | 165 => 105 | 166 => 106 | 169 => 107 | 240 => 145 | 241 => 146 | 276 => 164 | 277 => 165 | n => n, fun | 31 => 34 | 9 => 9 | 3 => 3 | 4 => 4 | 0 => 0 | 20 => 20 | 72 => 163 | 76 => 167 | 70 => 160 | 37 => 161 | 75 => 166 | 127 => 196 | 164 => 219 | 5 => 5 | 80 => 169 | n => n, fun | n => n⟩
theorem Try.lays156 : Go.Proofs.Lays.n156 Try.prog Try.lays156_ren := {
  mixed := by kernel_rfl
  f156 := Try.func54.trans (congrArg some (by kernel_rfl))
  f165 := Try.func105.trans (congrArg some (by kernel_rfl))
  f166 := Try.func106.trans (congrArg some (by kernel_rfl))
  f169 := Try.func107.trans (congrArg some (by kernel_rfl))
  f240 := Try.func145.trans (congrArg some (by kernel_rfl))
  f241 := Try.func146.trans (congrArg some (by kernel_rfl))
  f276 := Try.func164.trans (congrArg some (by kernel_rfl))
  f277 := Try.func165.trans (congrArg some (by kernel_rfl))
  t0 := Try.underlying0
  a0 := Try.isAgg0
  z0 := Try.sizeOf0
  v0 := Try.zeroValue0
  t3 := Try.underlying3
  a3 := Try.isAgg3
  z3 := Try.sizeOf3
  v3 := Try.zeroValue3
  t4 := Try.underlying4
  a4 := Try.isAgg4
  z4 := Try.sizeOf4
  v4 := Try.zeroValue4
  t9 := Try.underlying9
  a9 := Try.isAgg9
  z9 := Try.sizeOf9
  v9 := Try.zeroValue9
  t20 := Try.underlying20
  a20 := Try.isAgg20
  z20 := Try.sizeOf20
  v20 := Try.zeroValue20
  t31 := Try.underlying34
  a31 := Try.isAgg34
  z31 := Try.sizeOf34
  v31 := Try.zeroValue34
  t37 := Try.underlying161
  a37 := Try.isAgg161
  z37 := Try.sizeOf161
  v37 := Try.zeroValue161
  t70 := Try.underlying160
  a70 := Try.isAgg160
  z70 := Try.sizeOf160
  v70 := Try.zeroValue160
  t72 := Try.underlying163
  a72 := Try.isAgg163
  z72 := Try.sizeOf163
  v72 := Try.zeroValue163
  t75 := Try.underlying166
  a75 := Try.isAgg166
  z75 := Try.sizeOf166
  v75 := Try.zeroValue166
  t76 := Try.underlying167
  a76 := Try.isAgg167
  z76 := Try.sizeOf167
  v76 := Try.zeroValue167
  t127 := Try.underlying196
  a127 := Try.isAgg196
  z127 := Try.sizeOf196
  v127 := Try.zeroValue196
  t164 := Try.underlying219
  a164 := Try.isAgg219
  z164 := Try.sizeOf219
  v164 := Try.zeroValue219 }
theorem Try.Builder_Extra_156 : Builder.Extra Try.prog Try.lays156_ren := {
  sizeBuilder := by kernel_rfl
  liesBuilder := by kernel_rfl
  t5 := Try.underlying5
  a5 := Try.isAgg5
  z5 := Try.sizeOf5
  v5 := Try.zeroValue5
  infoByte := by kernel_rfl
  cellsByte := by kernel_rfl
  sizeByte := by kernel_rfl
  neB5 := by decide }
open Go.RowKit in
/-- No element: the empty string; the world is as it was. (Whatever the slice's address and capacity: a nil slice too.) (LAID: no walk: one application.) -/
theorem Try.strings_Join_none (a : Option Addr) (c : Nat) (sep : ByteArray) (w : World) :
    Calls Try.prog 54 #[.slice a 0 c, .string sep] w fun e w' => e = .returned (.string ⟨#[]⟩) ∧ w' = w := Any.strings_Join_none Try.lays156 Try.Builder_Extra_156 a c sep w
open Go.RowKit in
/-- strings.Join: "Join concatenates the elements of its first argument to create a single string. The separator string sep is placed between elements in the resulting string.": HOWEVER MANY ELEMENTS. Below the heap's end the world is as it was. (LAID: no walk: one application.) -/
theorem Try.strings_Join (bk o c : Nat) (xs : List ByteArray) (sep : ByteArray) (w : World) (hcells : ∀ (j : Nat) x, xs[j]? = some x → w.cell? ⟨bk, o + j, none⟩ = some (.string x)) (hbk : bk < w.heap.size) (hN : xs.length ≤ 140737488355328) (hcap : xs.length ≤ c) (hlen : (Lib.join (xs.map (·.data.toList)) sep.data.toList).length ≤ 140737488355328) :
    Calls Try.prog 54 #[.slice (some ⟨bk, o, none⟩) xs.length c, .string sep] w fun e w' => e = .returned (.string ⟨(Lib.join (xs.map (·.data.toList)) sep.data.toList).toArray⟩) ∧ Below w.heap.size w w' := Any.strings_Join Try.lays156 Try.Builder_Extra_156 bk o c xs sep w hcells hbk hN hcap hlen
def Try.lays134_ren : Go.Shelf.Ren := ⟨fun | 134 => 174 | 129 => 89 | n => n, fun | 53 => 87 | 3 => 3 | 4 => 4 | 46 => 190 | 5 => 5 | 9 => 9 | n => n, fun | n => n⟩
theorem Try.lays134 : Go.Proofs.Lays.n134 Try.prog Try.lays134_ren := {
  mixed := by kernel_rfl
  f129 := Try.func89.trans (congrArg some (by kernel_rfl))
  f134 := Try.func174.trans (congrArg some (by kernel_rfl))
  t3 := Try.underlying3
  a3 := Try.isAgg3
  z3 := Try.sizeOf3
  v3 := Try.zeroValue3
  t4 := Try.underlying4
  a4 := Try.isAgg4
  z4 := Try.sizeOf4
  v4 := Try.zeroValue4
  t5 := Try.underlying5
  a5 := Try.isAgg5
  z5 := Try.sizeOf5
  v5 := Try.zeroValue5
  t9 := Try.underlying9
  a9 := Try.isAgg9
  z9 := Try.sizeOf9
  v9 := Try.zeroValue9
  t46 := Try.underlying190
  a46 := Try.isAgg190
  z46 := Try.sizeOf190
  v46 := Try.zeroValue190
  t53 := Try.underlying87
  a53 := Try.isAgg87
  z53 := Try.sizeOf87
  v53 := Try.zeroValue87 }
/-- bits.LeadingZeros64: "LeadingZeros64 returns the number of leading zero bits in x; the result is 64 for x == 0.": IT RETURNS '64 - Lib.bitLen x'; the world is as it was. ITS CALLEE bits.Len64 IS MET BY ITS OWN CONTRACT OFF THE SHELF (lay that first): entered in place it sends the kernel out of memory. (LAID: no walk: one application.) -/
theorem Try.bits_LeadingZeros64 (x : Int) (w : World) (h0 : 0 ≤ x) (h1 : x ≤ 18446744073709551615) :
    Calls Try.prog 174 #[.int .u64 x] w fun e w' => e = .returned (.int .i64 (64 - (Lib.bitLen x.toNat : Int))) ∧ w' = w := Any.bits_LeadingZeros64 Try.lays134 x w h0 h1
def Try.lays210_ren : Go.Shelf.Ren := ⟨fun | 210 => 143 | 206 => 163 | n => n, fun | 9 => 9 | 4 => 4 | 3 => 3 | n => n, fun | n => n⟩
theorem Try.lays210 : Go.Proofs.Lays.n210 Try.prog Try.lays210_ren := {
  mixed := by kernel_rfl
  f206 := Try.func163.trans (congrArg some (by kernel_rfl))
  f210 := Try.func143.trans (congrArg some (by kernel_rfl))
  t3 := Try.underlying3
  a3 := Try.isAgg3
  z3 := Try.sizeOf3
  v3 := Try.zeroValue3
  t4 := Try.underlying4
  a4 := Try.isAgg4
  z4 := Try.sizeOf4
  v4 := Try.zeroValue4
  t9 := Try.underlying9
  a9 := Try.isAgg9
  z9 := Try.sizeOf9
  v9 := Try.zeroValue9 }
open Go.RowKit in
/-- internal/stringslite.CutPrefix (what strings.CutPrefix calls). (LAID: no walk: one application.) -/
theorem Try.stringslite_CutPrefix (s p : ByteArray) (w : World) :
    Calls Try.prog 143 #[.string s, .string p] w fun e w' => e = .returned (.tuple #[.string ⟨(Lib.trimPrefix s.data.toList p.data.toList).toArray⟩, .bool (Lib.hasPrefix s.data.toList p.data.toList)]) ∧ w' = w := Any.stringslite_CutPrefix Try.lays210 s p w
def Try.lays103_ren : Go.Shelf.Ren := ⟨fun | 103 => 101 | 210 => 143 | 206 => 163 | n => n, fun | 9 => 9 | 4 => 4 | 24 => 154 | 3 => 3 | n => n, fun | n => n⟩
theorem Try.lays103 : Go.Proofs.Lays.n103 Try.prog Try.lays103_ren := {
  mixed := by kernel_rfl
  f103 := Try.func101.trans (congrArg some (by kernel_rfl))
  f206 := Try.func163.trans (congrArg some (by kernel_rfl))
  f210 := Try.func143.trans (congrArg some (by kernel_rfl))
  t3 := Try.underlying3
  a3 := Try.isAgg3
  z3 := Try.sizeOf3
  v3 := Try.zeroValue3
  t4 := Try.underlying4
  a4 := Try.isAgg4
  z4 := Try.sizeOf4
  v4 := Try.zeroValue4
  t9 := Try.underlying9
  a9 := Try.isAgg9
  z9 := Try.sizeOf9
  v9 := Try.zeroValue9
  t24 := Try.underlying154
  a24 := Try.isAgg154
  z24 := Try.sizeOf154
  v24 := Try.zeroValue154 }
open Go.RowKit in
/-- strings.CutPrefix: "CutPrefix returns s without the provided leading prefix string and reports whether it found the prefix. If s doesn't start with prefix, CutPrefix returns s, false. If prefix is the empty string, CutPrefix returns s, true.": IT RETURNS '(Lib.trimPrefix s p, Lib.hasPrefix s p)'; the world is as it was. (LAID: no walk: one application.) -/
theorem Try.strings_CutPrefix (s p : ByteArray) (w : World) :
    Calls Try.prog 101 #[.string s, .string p] w fun e w' => e = .returned (.tuple #[.string ⟨(Lib.trimPrefix s.data.toList p.data.toList).toArray⟩, .bool (Lib.hasPrefix s.data.toList p.data.toList)]) ∧ w' = w := Any.strings_CutPrefix Try.lays103 s p w
def Try.lays215_ren : Go.Shelf.Ren := ⟨fun | 215 => 148 | n => n, fun | 3 => 3 | 4 => 4 | n => n, fun | n => n⟩
theorem Try.lays215 : Go.Proofs.Lays.n215 Try.prog Try.lays215_ren := {
  mixed := by kernel_rfl
  f215 := Try.func148.trans (congrArg some (by kernel_rfl))
  t3 := Try.underlying3
  a3 := Try.isAgg3
  z3 := Try.sizeOf3
  v3 := Try.zeroValue3
  t4 := Try.underlying4
  a4 := Try.isAgg4
  z4 := Try.sizeOf4
  v4 := Try.zeroValue4 }
open Go.RowKit in
/-- cmp.isNaN at int: 'x != x': false. (LAID: no walk: one application.) -/
theorem Try.cmp_isNaN_int (x : Int) (w : World) :
    Calls Try.prog 148 #[.int .i64 x] w fun e w' => e = .returned (.bool false) ∧ w' = w := Any.cmp_isNaN_int Try.lays215 x w
def Try.lays122_ren : Go.Shelf.Ren := ⟨fun | 122 => 115 | 215 => 148 | n => n, fun | 3 => 3 | 4 => 4 | n => n, fun | n => n⟩
theorem Try.lays122 : Go.Proofs.Lays.n122 Try.prog Try.lays122_ren := {
  mixed := by kernel_rfl
  f122 := Try.func115.trans (congrArg some (by kernel_rfl))
  f215 := Try.func148.trans (congrArg some (by kernel_rfl))
  t3 := Try.underlying3
  a3 := Try.isAgg3
  z3 := Try.sizeOf3
  v3 := Try.zeroValue3
  t4 := Try.underlying4
  a4 := Try.isAgg4
  z4 := Try.sizeOf4
  v4 := Try.zeroValue4 }
open Go.RowKit in
/-- cmp.Compare at int: "Compare returns -1 if x is less than y, 0 if x equals y, +1 if x is greater than y.": IT RETURNS 'Lib.compareInt x y'; the world is as it was. (LAID: no walk: one application.) -/
theorem Try.cmp_Compare_int (x y : Int) (w : World) :
    Calls Try.prog 115 #[.int .i64 x, .int .i64 y] w fun e w' => e = .returned (.int .i64 (Lib.compareInt x y)) ∧ w' = w := Any.cmp_Compare_int Try.lays122 x y w
open Go.RowKit in
/-- (*strings.Builder).String: "String returns the accumulated string.": OF A BUILDER THAT HOLDS AT LEAST ONE BYTE. ✋ THE MODEL FREEZES THOSE BYTES IN THE BUFFER (unsafe.String): a later write INTO them ends the model's run without an answer; a later append BEHIND them goes on. The statement's order of evaluation is drawn: one draw. THE FORM '_f': IT SAYS BESIDES THAT THE BUILDER IS A BUILDER STILL ('Lib.IsBuilderF', the same bytes): SO IT CAN BE WRITTEN ON: 'b.WriteString(b.String()[:k])'. (LAID: no walk: one application.) -/
theorem Try.Builder_String_f (B b : Nat) (l : List UInt8) (w : World) (h : Lib.IsBuilderF 163 5 B b (Lib.byteCells l) w) (h0 : l ≠ []) :
    Calls Try.prog 107 #[.pointer (some ⟨b, 0, none⟩)] w fun e w' => e = .returned (.string ⟨l.toArray⟩) ∧ (Lib.IsBuilderF 163 5 B b (Lib.byteCells l) w' ∧ Below B w w') := Any.Builder_String_f Try.lays169 Try.Builder_Extra_169 B b l w h h0
open Go.RowKit in
/-- (*strings.Builder).String OF A BUILDER THAT HOLDS NO BYTE: the empty string; THE FORM '_f': a builder still. (LAID: no walk: one application.) -/
theorem Try.Builder_String_empty_f (B b : Nat) (w : World) (h : Lib.IsBuilderF 163 5 B b [] w) (hBw : B ≤ w.heap.size) :
    Calls Try.prog 107 #[.pointer (some ⟨b, 0, none⟩)] w fun e w' => e = .returned (.string ⟨#[]⟩) ∧ (Lib.IsBuilderF 163 5 B b [] w' ∧ Below B w w') := Any.Builder_String_empty_f Try.lays169 Try.Builder_Extra_169 B b w h hBw
open Go.RowKit in
/-- (*strings.Builder).String: "String returns the accumulated string.": WHATEVER THE BUILDER HOLDS; THE FORM '_f': OF A BUILDER THAT MAY HAVE BEEN READ BEFORE; AND IT IS A BUILDER STILL, holding the same bytes: it can be written on. (LAID: no walk: one application.) -/
theorem Try.Builder_String_any_f (B b : Nat) (l : List UInt8) (w : World) (h : Lib.IsBuilderF 163 5 B b (Lib.byteCells l) w) (hBw : B ≤ w.heap.size) :
    Calls Try.prog 107 #[.pointer (some ⟨b, 0, none⟩)] w fun e w' => e = .returned (.string ⟨l.toArray⟩) ∧ (Lib.IsBuilderF 163 5 B b (Lib.byteCells l) w' ∧ Below B w w') := Any.Builder_String_any_f Try.lays169 Try.Builder_Extra_169 B b l w h hBw
open Go.RowKit in
/-- (*strings.Builder).grow (no doc but "grow copies the buffer to a new, larger buffer so that there are at least n bytes of capacity beyond len(b.buf)."): AT A BUILDER WITHOUT A BUFFER: a new row of whatever bytes for its buffer, none of them its own yet. Three draws. (LAID: no walk: one application.) -/
theorem Try.Builder_grow_fresh_cap (B b n : Nat) (w : World) (hB : B ≤ b) (hbk : w.heap[b]? = some (.cells #[.pointer (some ⟨b, 0, none⟩), .slice none 0 0] 163 (0, 0))) (hBw : B ≤ w.heap.size) (hn : n ≤ 281474976710656) :
    Calls Try.prog 146 #[.pointer (some ⟨b, 0, none⟩), .int .i64 n] w fun e w' => e = .returned (.tuple #[]) ∧ (Lib.BuilderAt 163 5 B b (.pointer (some ⟨b, 0, none⟩)) [] w' ∧ Below B w w') ∧ ∃ p cap, w'.cell? ⟨b, 1, none⟩ = some (.slice p 0 cap) ∧ n ≤ cap := Any.Builder_grow_fresh_cap Try.lays241 Try.Builder_Extra_241 B b n w hB hbk hBw hn
open Go.RowKit in
/-- (*strings.Builder).Grow AT A BUILDER THAT HAS NOT BEEN WRITTEN ('var b strings.Builder; b.Grow(n)'): "Grow grows b's capacity, if necessary, to guarantee space for another n bytes.": it holds no byte behind it as before it. (LAID: no walk: one application.) -/
theorem Try.Builder_Grow_fresh_cap (B b n : Nat) (w : World) (hB : B ≤ b) (hbk : w.heap[b]? = some (.cells #[.pointer none, .slice none 0 0] 163 (0, 0))) (hBw : B ≤ w.heap.size) (hn : n ≤ 281474976710656) :
    Calls Try.prog 105 #[.pointer (some ⟨b, 0, none⟩), .int .i64 n] w fun e w' => e = .returned (.tuple #[]) ∧ (Lib.BuilderAt 163 5 B b (.pointer (some ⟨b, 0, none⟩)) [] w' ∧ Below B w w') ∧ ∃ p cap, w'.cell? ⟨b, 1, none⟩ = some (.slice p 0 cap) ∧ n ≤ cap := Any.Builder_Grow_fresh_cap Try.lays165 Try.Builder_Extra_165 B b n w hB hbk hBw hn
def Try.lays129_ren : Go.Shelf.Ren := ⟨fun | 129 => 89 | n => n, fun | 53 => 87 | 3 => 3 | 4 => 4 | 46 => 190 | 5 => 5 | 9 => 9 | n => n, fun | n => n⟩
theorem Try.lays129 : Go.Proofs.Lays.n129 Try.prog Try.lays129_ren := {
  mixed := by kernel_rfl
  f129 := Try.func89.trans (congrArg some (by kernel_rfl))
  t3 := Try.underlying3
  a3 := Try.isAgg3
  z3 := Try.sizeOf3
  v3 := Try.zeroValue3
  t4 := Try.underlying4
  a4 := Try.isAgg4
  z4 := Try.sizeOf4
  v4 := Try.zeroValue4
  t5 := Try.underlying5
  a5 := Try.isAgg5
  z5 := Try.sizeOf5
  v5 := Try.zeroValue5
  t9 := Try.underlying9
  a9 := Try.isAgg9
  z9 := Try.sizeOf9
  v9 := Try.zeroValue9
  t46 := Try.underlying190
  a46 := Try.isAgg190
  z46 := Try.sizeOf190
  v46 := Try.zeroValue190
  t53 := Try.underlying87
  a53 := Try.isAgg87
  z53 := Try.sizeOf87
  v53 := Try.zeroValue87 }
/-- bits.Len64: "Len64 returns the minimum number of bits required to represent x; the result is 0 for x == 0.": IT RETURNS 'Lib.bitLen x'; the world is as it was. ('h0', 'h1': x is a uint64.) (LAID: no walk: one application.) -/
theorem Try.bits_Len64 (x : Int) (w : World) (h0 : 0 ≤ x) (h1 : x ≤ 18446744073709551615) :
    Calls Try.prog 89 #[.int .u64 x] w fun e w' => e = .returned (.int .i64 (Lib.bitLen x.toNat)) ∧ w' = w := Any.bits_Len64 Try.lays129 x w h0 h1
def Try.lays217_ren : Go.Shelf.Ren := ⟨fun | 217 => 166 | 266 => 175 | n => n, fun | 9 => 9 | 5 => 5 | 3 => 3 | n => n, fun | n => n⟩
theorem Try.lays217 : Go.Proofs.Lays.n217 Try.prog Try.lays217_ren := {
  mixed := by kernel_rfl
  f217 := Try.func166.trans (congrArg some (by kernel_rfl))
  f266 := Try.func175.trans (congrArg some (by kernel_rfl))
  t3 := Try.underlying3
  a3 := Try.isAgg3
  z3 := Try.sizeOf3
  v3 := Try.zeroValue3
  t5 := Try.underlying5
  a5 := Try.isAgg5
  z5 := Try.sizeOf5
  v5 := Try.zeroValue5
  t9 := Try.underlying9
  a9 := Try.isAgg9
  z9 := Try.sizeOf9
  v9 := Try.zeroValue9 }
open Go.RowKit Go.Lib in
/-- internal/stringslite.IndexByte (what strings.IndexByte calls): IT RETURNS 'Lib.indexByte s c'; the world is as it was. (LAID: no walk: one application.) -/
theorem Try.stringslite_IndexByte (s : ByteArray) (c : Int) (w : World) :
    Calls Try.prog 166 #[.string s, .int .u8 c] w fun e w' => e = .returned (.int .i64 (Lib.indexByte s.data.toList c.toNat.toUInt8)) ∧ w' = w := Any.stringslite_IndexByte Try.lays217 s c w
def Try.lays224_ren : Go.Shelf.Ren := ⟨fun | 224 => 168 | n => n, fun | 3 => 3 | n => n, fun | n => n⟩
theorem Try.lays224 : Go.Proofs.Lays.n224 Try.prog Try.lays224_ren := {
  mixed := by kernel_rfl
  f224 := Try.func168.trans (congrArg some (by kernel_rfl))
  t3 := Try.underlying3
  a3 := Try.isAgg3
  z3 := Try.sizeOf3
  v3 := Try.zeroValue3 }
open Go.RowKit Go.Lib in
/-- internal/bytealg.Cutover: "Cutover reports the number of failures of IndexByte we should tolerate before switching over to Index. n is the number of bytes processed so far.": on amd64: (n + 16) / 8. (LAID: no walk: one application.) -/
theorem Try.bytealg_Cutover (n : Int) (h0 : 0 ≤ n) (h1 : n < 4611686018427387904) (w : World) :
    Calls Try.prog 168 #[.int .i64 n] w fun e w' => e = .returned (.int .i64 ((n + 16) / 8)) ∧ w' = w := Any.bytealg_Cutover Try.lays224 n h0 h1 w
def Try.lays314_ren : Go.Shelf.Ren := ⟨fun | 314 => 176 | n => n, fun | 9 => 9 | 51 => 224 | 3 => 3 | 4 => 4 | 5 => 5 | 46 => 190 | n => n, fun | n => n⟩
theorem Try.lays314 : Go.Proofs.Lays.n314 Try.prog Try.lays314_ren := {
  mixed := by kernel_rfl
  f314 := Try.func176.trans (congrArg some (by kernel_rfl))
  t3 := Try.underlying3
  a3 := Try.isAgg3
  z3 := Try.sizeOf3
  v3 := Try.zeroValue3
  t4 := Try.underlying4
  a4 := Try.isAgg4
  z4 := Try.sizeOf4
  v4 := Try.zeroValue4
  t5 := Try.underlying5
  a5 := Try.isAgg5
  z5 := Try.sizeOf5
  v5 := Try.zeroValue5
  t9 := Try.underlying9
  a9 := Try.isAgg9
  z9 := Try.sizeOf9
  v9 := Try.zeroValue9
  t46 := Try.underlying190
  a46 := Try.isAgg190
  z46 := Try.sizeOf190
  v46 := Try.zeroValue190
  t51 := Try.underlying224
  a51 := Try.isAgg224
  z51 := Try.sizeOf224
  v51 := Try.zeroValue224 }
open Go.RowKit Go.Lib in
/-- hashStr: "returns the hash and the appropriate multiplicative factor for use in Rabin-Karp algorithm": THE HASH OF ALL OF sep, AND 16777619 ^ len(sep), both in uint32. (LAID: no walk: one application.) -/
theorem Try.bytealg_hashStr (sep : ByteArray) (hs : sep.size < 4294967281) (w : World) :
    Calls Try.prog 176 #[.string sep] w fun e w' => e = .returned (.tuple #[.int .u32 (RK.H sep.data.toList % 4294967296), .int .u32 (16777619 ^ sep.size % 4294967296)]) ∧ w' = w := Any.bytealg_hashStr Try.lays314 sep hs w
def Try.lays267_ren : Go.Shelf.Ren := ⟨fun | 267 => 169 | 314 => 176 | n => n, fun | 9 => 9 | 3 => 3 | 146 => 225 | 51 => 224 | 4 => 4 | 5 => 5 | 46 => 190 | n => n, fun | n => n⟩
theorem Try.lays267 : Go.Proofs.Lays.n267 Try.prog Try.lays267_ren := {
  mixed := by kernel_rfl
  f267 := Try.func169.trans (congrArg some (by kernel_rfl))
  f314 := Try.func176.trans (congrArg some (by kernel_rfl))
  t3 := Try.underlying3
  a3 := Try.isAgg3
  z3 := Try.sizeOf3
  v3 := Try.zeroValue3
  t4 := Try.underlying4
  a4 := Try.isAgg4
  z4 := Try.sizeOf4
  v4 := Try.zeroValue4
  t5 := Try.underlying5
  a5 := Try.isAgg5
  z5 := Try.sizeOf5
  v5 := Try.zeroValue5
  t9 := Try.underlying9
  a9 := Try.isAgg9
  z9 := Try.sizeOf9
  v9 := Try.zeroValue9
  t46 := Try.underlying190
  a46 := Try.isAgg190
  z46 := Try.sizeOf190
  v46 := Try.zeroValue190
  t51 := Try.underlying224
  a51 := Try.isAgg224
  z51 := Try.sizeOf224
  v51 := Try.zeroValue224
  t146 := Try.underlying225
  a146 := Try.isAgg225
  z146 := Try.sizeOf225
  v146 := Try.zeroValue225 }
open Go.RowKit Go.Lib in
theorem Try.bytealg_IndexRabinKarp (s sep : ByteArray) (h1 : 1 ≤ sep.size) (h2 : sep.size ≤ s.size) (hs : s.size < 4294967281) (w : World) :
    Calls Try.prog 169 #[.string s, .string sep] w fun e w' => e = .returned (.int .i64 (Lib.index s.data.toList sep.data.toList)) ∧ w' = w := Any.bytealg_IndexRabinKarp Try.lays267 s sep h1 h2 hs w
def Try.lays219_ren : Go.Shelf.Ren := ⟨fun | 219 => 147 | 217 => 166 | 225 => 167 | 224 => 168 | 267 => 169 | 266 => 175 | 314 => 176 | n => n, fun | 9 => 9 | 3 => 3 | 4 => 4 | 5 => 5 | 46 => 190 | 146 => 225 | 51 => 224 | n => n, fun | 1 => 0 | n => n⟩
theorem Try.lays219 : Go.Proofs.Lays.n219 Try.prog Try.lays219_ren := {
  mixed := by kernel_rfl
  f217 := Try.func166.trans (congrArg some (by kernel_rfl))
  f219 := Try.func147.trans (congrArg some (by kernel_rfl))
  f224 := Try.func168.trans (congrArg some (by kernel_rfl))
  f225 := Try.func167.trans (congrArg some (by kernel_rfl))
  f266 := Try.func175.trans (congrArg some (by kernel_rfl))
  f267 := Try.func169.trans (congrArg some (by kernel_rfl))
  f314 := Try.func176.trans (congrArg some (by kernel_rfl))
  t3 := Try.underlying3
  a3 := Try.isAgg3
  z3 := Try.sizeOf3
  v3 := Try.zeroValue3
  t4 := Try.underlying4
  a4 := Try.isAgg4
  z4 := Try.sizeOf4
  v4 := Try.zeroValue4
  t5 := Try.underlying5
  a5 := Try.isAgg5
  z5 := Try.sizeOf5
  v5 := Try.zeroValue5
  t9 := Try.underlying9
  a9 := Try.isAgg9
  z9 := Try.sizeOf9
  v9 := Try.zeroValue9
  t46 := Try.underlying190
  a46 := Try.isAgg190
  z46 := Try.sizeOf190
  v46 := Try.zeroValue190
  t51 := Try.underlying224
  a51 := Try.isAgg224
  z51 := Try.sizeOf224
  v51 := Try.zeroValue224
  t146 := Try.underlying225
  a146 := Try.isAgg225
  z146 := Try.sizeOf225
  v146 := Try.zeroValue225
  g1 := by kernel_rfl }
open Go.RowKit Go.Lib in
/-- internal/stringslite.Index (what strings.Index calls) AT A substr OF ONE BYTE c: IT RETURNS 'Lib.indexByte s c'; the world is as it was. (LAID: no walk: one application.) -/
theorem Try.stringslite_Index_one (s : ByteArray) (c : UInt8) (w : World) :
    Calls Try.prog 147 #[.string s, .string ⟨#[c]⟩] w fun e w' => e = .returned (.int .i64 (Lib.indexByte s.data.toList c)) ∧ w' = w := Any.stringslite_Index_one Try.lays219 s c w
open Go.RowKit Go.Lib in
/-- internal/stringslite.Index (what strings.Index calls) AT A substr OF WHATEVER LENGTH: IT RETURNS 'Lib.index s substr'; the world is as it was. 'm': what internal/bytealg.MaxLen holds: whatever. (LAID: no walk: one application.) -/
theorem Try.stringslite_Index (s sub : ByteArray) (m : Int) (w : World) (hs : s.size < 4294967281) (hm : w.cell? ⟨0, 0, none⟩ = some (.int .i64 m)) :
    Calls Try.prog 147 #[.string s, .string sub] w fun e w' => e = .returned (.int .i64 (Lib.index s.data.toList sub.data.toList)) ∧ w' = w := Any.stringslite_Index Try.lays219 s sub m w hs hm
def Try.lays220_ren : Go.Shelf.Ren := ⟨fun | 220 => 108 | 219 => 147 | 217 => 166 | 225 => 167 | 224 => 168 | 267 => 169 | 266 => 175 | 314 => 176 | n => n, fun | 9 => 9 | 4 => 4 | 3 => 3 | 5 => 5 | 46 => 190 | 146 => 225 | 51 => 224 | n => n, fun | 1 => 0 | n => n⟩
theorem Try.lays220 : Go.Proofs.Lays.n220 Try.prog Try.lays220_ren := {
  mixed := by kernel_rfl
  f217 := Try.func166.trans (congrArg some (by kernel_rfl))
  f219 := Try.func147.trans (congrArg some (by kernel_rfl))
  f220 := Try.func108.trans (congrArg some (by kernel_rfl))
  f224 := Try.func168.trans (congrArg some (by kernel_rfl))
  f225 := Try.func167.trans (congrArg some (by kernel_rfl))
  f266 := Try.func175.trans (congrArg some (by kernel_rfl))
  f267 := Try.func169.trans (congrArg some (by kernel_rfl))
  f314 := Try.func176.trans (congrArg some (by kernel_rfl))
  t3 := Try.underlying3
  a3 := Try.isAgg3
  z3 := Try.sizeOf3
  v3 := Try.zeroValue3
  t4 := Try.underlying4
  a4 := Try.isAgg4
  z4 := Try.sizeOf4
  v4 := Try.zeroValue4
  t5 := Try.underlying5
  a5 := Try.isAgg5
  z5 := Try.sizeOf5
  v5 := Try.zeroValue5
  t9 := Try.underlying9
  a9 := Try.isAgg9
  z9 := Try.sizeOf9
  v9 := Try.zeroValue9
  t46 := Try.underlying190
  a46 := Try.isAgg190
  z46 := Try.sizeOf190
  v46 := Try.zeroValue190
  t51 := Try.underlying224
  a51 := Try.isAgg224
  z51 := Try.sizeOf224
  v51 := Try.zeroValue224
  t146 := Try.underlying225
  a146 := Try.isAgg225
  z146 := Try.sizeOf225
  v146 := Try.zeroValue225
  g1 := by kernel_rfl }
open Go.RowKit Go.Lib in
/-- internal/stringslite.Cut (what strings.Cut calls): IT RETURNS 'Lib.cut s sep'; the world is as it was but for the count of draws. (LAID: no walk: one application.) -/
theorem Try.stringslite_Cut (s sep : ByteArray) (m : Int) (w : World) (hs : s.size < 4294967281) (hm : w.cell? ⟨0, 0, none⟩ = some (.int .i64 m)) :
    Calls Try.prog 108 #[.string s, .string sep] w fun e w' => e = .returned (.tuple #[.string ⟨(Lib.cut s.data.toList sep.data.toList).1.toArray⟩, .string ⟨(Lib.cut s.data.toList sep.data.toList).2.1.toArray⟩, .bool (Lib.cut s.data.toList sep.data.toList).2.2]) ∧ ∃ n, w' = w.drewN n := Any.stringslite_Cut Try.lays220 s sep m w hs hm
def Try.lays145_ren : Go.Shelf.Ren := ⟨fun | 145 => 55 | 220 => 108 | 219 => 147 | 217 => 166 | 225 => 167 | 224 => 168 | 267 => 169 | 266 => 175 | 314 => 176 | n => n, fun | 9 => 9 | 4 => 4 | 59 => 98 | 3 => 3 | 5 => 5 | 46 => 190 | 146 => 225 | 51 => 224 | n => n, fun | 1 => 0 | n => n⟩
theorem Try.lays145 : Go.Proofs.Lays.n145 Try.prog Try.lays145_ren := {
  mixed := by kernel_rfl
  f145 := Try.func55.trans (congrArg some (by kernel_rfl))
  f217 := Try.func166.trans (congrArg some (by kernel_rfl))
  f219 := Try.func147.trans (congrArg some (by kernel_rfl))
  f220 := Try.func108.trans (congrArg some (by kernel_rfl))
  f224 := Try.func168.trans (congrArg some (by kernel_rfl))
  f225 := Try.func167.trans (congrArg some (by kernel_rfl))
  f266 := Try.func175.trans (congrArg some (by kernel_rfl))
  f267 := Try.func169.trans (congrArg some (by kernel_rfl))
  f314 := Try.func176.trans (congrArg some (by kernel_rfl))
  t3 := Try.underlying3
  a3 := Try.isAgg3
  z3 := Try.sizeOf3
  v3 := Try.zeroValue3
  t4 := Try.underlying4
  a4 := Try.isAgg4
  z4 := Try.sizeOf4
  v4 := Try.zeroValue4
  t5 := Try.underlying5
  a5 := Try.isAgg5
  z5 := Try.sizeOf5
  v5 := Try.zeroValue5
  t9 := Try.underlying9
  a9 := Try.isAgg9
  z9 := Try.sizeOf9
  v9 := Try.zeroValue9
  t46 := Try.underlying190
  a46 := Try.isAgg190
  z46 := Try.sizeOf190
  v46 := Try.zeroValue190
  t51 := Try.underlying224
  a51 := Try.isAgg224
  z51 := Try.sizeOf224
  v51 := Try.zeroValue224
  t59 := Try.underlying98
  a59 := Try.isAgg98
  z59 := Try.sizeOf98
  v59 := Try.zeroValue98
  t146 := Try.underlying225
  a146 := Try.isAgg225
  z146 := Try.sizeOf225
  v146 := Try.zeroValue225
  g1 := by kernel_rfl }
open Go.RowKit Go.Lib in
/-- strings.Cut: "Cut slices s around the first instance of sep, returning the text before and after sep. The found result reports whether sep appears in s. If sep does not appear in s, cut returns s, "", false.": IT RETURNS 'Lib.cut s sep'; the world is as it was but for the count of draws. (LAID: no walk: one application.) -/
theorem Try.strings_Cut (s sep : ByteArray) (m : Int) (w : World) (hs : s.size < 4294967281) (hm : w.cell? ⟨0, 0, none⟩ = some (.int .i64 m)) :
    Calls Try.prog 55 #[.string s, .string sep] w fun e w' => e = .returned (.tuple #[.string ⟨(Lib.cut s.data.toList sep.data.toList).1.toArray⟩, .string ⟨(Lib.cut s.data.toList sep.data.toList).2.1.toArray⟩, .bool (Lib.cut s.data.toList sep.data.toList).2.2]) ∧ ∃ n, w' = w.drewN n := Any.strings_Cut Try.lays145 s sep m w hs hm
def Try.laysM219_ren : Go.Shelf.Ren := ⟨fun | 219 => 147 | 217 => 166 | 225 => 167 | 224 => 168 | 267 => 169 | 266 => 175 | 314 => 176 | n => n, fun | 9 => 9 | 3 => 3 | 4 => 4 | 5 => 5 | 46 => 190 | 146 => 225 | 51 => 224 | n => n, fun | 1 => 0 | n => n⟩
theorem Try.laysM219 : Go.Proofs.LaysM.n219 Try.prog Try.laysM219_ren := {
  mixed := by kernel_rfl
  f217 := Try.func166.trans (congrArg some (by kernel_rfl))
  f219 := Try.func147.trans (congrArg some (by kernel_rfl))
  f224 := Try.func168.trans (congrArg some (by kernel_rfl))
  f225 := Try.func167.trans (congrArg some (by kernel_rfl))
  f266 := Try.func175.trans (congrArg some (by kernel_rfl))
  f267 := Try.func169.trans (congrArg some (by kernel_rfl))
  f314 := Try.func176.trans (congrArg some (by kernel_rfl))
  t3 := Try.underlying3
  a3 := Try.isAgg3
  z3 := Try.sizeOf3
  v3 := Try.zeroValue3
  t4 := Try.underlying4
  a4 := Try.isAgg4
  z4 := Try.sizeOf4
  v4 := Try.zeroValue4
  t5 := Try.underlying5
  a5 := Try.isAgg5
  z5 := Try.sizeOf5
  v5 := Try.zeroValue5
  t9 := Try.underlying9
  a9 := Try.isAgg9
  z9 := Try.sizeOf9
  v9 := Try.zeroValue9
  t46 := Try.underlying190
  a46 := Try.isAgg190
  z46 := Try.sizeOf190
  v46 := Try.zeroValue190
  t51 := Try.underlying224
  a51 := Try.isAgg224
  z51 := Try.sizeOf224
  v51 := Try.zeroValue224
  t146 := Try.underlying225
  a146 := Try.isAgg225
  z146 := Try.sizeOf225
  v146 := Try.zeroValue225
  g1 := by kernel_rfl
  i3 := by kernel_rfl
  i4 := by kernel_rfl
  i5 := by kernel_rfl
  i9 := by kernel_rfl
  i46 := by kernel_rfl
  i51 := by kernel_rfl
  i146 := by kernel_rfl
  m1 := by kernel_rfl
  s1_3 := fun w h => Go.Proofs.cell_of_shapedOpen_int (zero := #[.int .i64 0]) (t := 3) h (of_decide_eq_true (by kernel_rfl)) (by kernel_rfl) rfl (by kernel_rfl) (by kernel_rfl) Try.underlying3 }
open Go.RowKit Go.Lib in
theorem Try.stringslite_Index_shaped (s sub : ByteArray) (w : World) (h : w.ShapedOpen Try.prog) (hs : s.size < 4294967281) :
    Calls Try.prog 147 #[.string s, .string sub] w fun e w' => e = .returned (.int .i64 (Lib.index s.data.toList sub.data.toList)) ∧ w' = w := Any.stringslite_Index_shaped Try.laysM219 s sub w h hs
def Try.laysM220_ren : Go.Shelf.Ren := ⟨fun | 220 => 108 | 219 => 147 | 217 => 166 | 225 => 167 | 224 => 168 | 267 => 169 | 266 => 175 | 314 => 176 | n => n, fun | 9 => 9 | 4 => 4 | 3 => 3 | 5 => 5 | 46 => 190 | 146 => 225 | 51 => 224 | n => n, fun | 1 => 0 | n => n⟩
theorem Try.laysM220 : Go.Proofs.LaysM.n220 Try.prog Try.laysM220_ren := {
  mixed := by kernel_rfl
  f217 := Try.func166.trans (congrArg some (by kernel_rfl))
  f219 := Try.func147.trans (congrArg some (by kernel_rfl))
  f220 := Try.func108.trans (congrArg some (by kernel_rfl))
  f224 := Try.func168.trans (congrArg some (by kernel_rfl))
  f225 := Try.func167.trans (congrArg some (by kernel_rfl))
  f266 := Try.func175.trans (congrArg some (by kernel_rfl))
  f267 := Try.func169.trans (congrArg some (by kernel_rfl))
  f314 := Try.func176.trans (congrArg some (by kernel_rfl))
  t3 := Try.underlying3
  a3 := Try.isAgg3
  z3 := Try.sizeOf3
  v3 := Try.zeroValue3
  t4 := Try.underlying4
  a4 := Try.isAgg4
  z4 := Try.sizeOf4
  v4 := Try.zeroValue4
  t5 := Try.underlying5
  a5 := Try.isAgg5
  z5 := Try.sizeOf5
  v5 := Try.zeroValue5
  t9 := Try.underlying9
  a9 := Try.isAgg9
  z9 := Try.sizeOf9
  v9 := Try.zeroValue9
  t46 := Try.underlying190
  a46 := Try.isAgg190
  z46 := Try.sizeOf190
  v46 := Try.zeroValue190
  t51 := Try.underlying224
  a51 := Try.isAgg224
  z51 := Try.sizeOf224
  v51 := Try.zeroValue224
  t146 := Try.underlying225
  a146 := Try.isAgg225
  z146 := Try.sizeOf225
  v146 := Try.zeroValue225
  g1 := by kernel_rfl
  i3 := by kernel_rfl
  i4 := by kernel_rfl
  i5 := by kernel_rfl
  i9 := by kernel_rfl
  i46 := by kernel_rfl
  i51 := by kernel_rfl
  i146 := by kernel_rfl
  m1 := by kernel_rfl
  s1_3 := fun w h => Go.Proofs.cell_of_shapedOpen_int (zero := #[.int .i64 0]) (t := 3) h (of_decide_eq_true (by kernel_rfl)) (by kernel_rfl) rfl (by kernel_rfl) (by kernel_rfl) Try.underlying3 }
open Go.RowKit Go.Lib in
theorem Try.stringslite_Cut_shaped (s sep : ByteArray) (w : World) (h : w.ShapedOpen Try.prog) (hs : s.size < 4294967281) :
    Calls Try.prog 108 #[.string s, .string sep] w fun e w' => e = .returned (.tuple #[.string ⟨(Lib.cut s.data.toList sep.data.toList).1.toArray⟩, .string ⟨(Lib.cut s.data.toList sep.data.toList).2.1.toArray⟩, .bool (Lib.cut s.data.toList sep.data.toList).2.2]) ∧ ∃ n, w' = w.drewN n := Any.stringslite_Cut_shaped Try.laysM220 s sep w h hs
def Try.laysM145_ren : Go.Shelf.Ren := ⟨fun | 145 => 55 | 220 => 108 | 219 => 147 | 217 => 166 | 225 => 167 | 224 => 168 | 267 => 169 | 266 => 175 | 314 => 176 | n => n, fun | 9 => 9 | 4 => 4 | 59 => 98 | 3 => 3 | 5 => 5 | 46 => 190 | 146 => 225 | 51 => 224 | n => n, fun | 1 => 0 | n => n⟩
theorem Try.laysM145 : Go.Proofs.LaysM.n145 Try.prog Try.laysM145_ren := {
  mixed := by kernel_rfl
  f145 := Try.func55.trans (congrArg some (by kernel_rfl))
  f217 := Try.func166.trans (congrArg some (by kernel_rfl))
  f219 := Try.func147.trans (congrArg some (by kernel_rfl))
  f220 := Try.func108.trans (congrArg some (by kernel_rfl))
  f224 := Try.func168.trans (congrArg some (by kernel_rfl))
  f225 := Try.func167.trans (congrArg some (by kernel_rfl))
  f266 := Try.func175.trans (congrArg some (by kernel_rfl))
  f267 := Try.func169.trans (congrArg some (by kernel_rfl))
  f314 := Try.func176.trans (congrArg some (by kernel_rfl))
  t3 := Try.underlying3
  a3 := Try.isAgg3
  z3 := Try.sizeOf3
  v3 := Try.zeroValue3
  t4 := Try.underlying4
  a4 := Try.isAgg4
  z4 := Try.sizeOf4
  v4 := Try.zeroValue4
  t5 := Try.underlying5
  a5 := Try.isAgg5
  z5 := Try.sizeOf5
  v5 := Try.zeroValue5
  t9 := Try.underlying9
  a9 := Try.isAgg9
  z9 := Try.sizeOf9
  v9 := Try.zeroValue9
  t46 := Try.underlying190
  a46 := Try.isAgg190
  z46 := Try.sizeOf190
  v46 := Try.zeroValue190
  t51 := Try.underlying224
  a51 := Try.isAgg224
  z51 := Try.sizeOf224
  v51 := Try.zeroValue224
  t59 := Try.underlying98
  a59 := Try.isAgg98
  z59 := Try.sizeOf98
  v59 := Try.zeroValue98
  t146 := Try.underlying225
  a146 := Try.isAgg225
  z146 := Try.sizeOf225
  v146 := Try.zeroValue225
  g1 := by kernel_rfl
  i3 := by kernel_rfl
  i4 := by kernel_rfl
  i5 := by kernel_rfl
  i9 := by kernel_rfl
  i46 := by kernel_rfl
  i51 := by kernel_rfl
  i59 := by kernel_rfl
  i146 := by kernel_rfl
  m1 := by kernel_rfl
  s1_3 := fun w h => Go.Proofs.cell_of_shapedOpen_int (zero := #[.int .i64 0]) (t := 3) h (of_decide_eq_true (by kernel_rfl)) (by kernel_rfl) rfl (by kernel_rfl) (by kernel_rfl) Try.underlying3 }
open Go.RowKit Go.Lib in
theorem Try.strings_Cut_shaped (s sep : ByteArray) (w : World) (h : w.ShapedOpen Try.prog) (hs : s.size < 4294967281) :
    Calls Try.prog 55 #[.string s, .string sep] w fun e w' => e = .returned (.tuple #[.string ⟨(Lib.cut s.data.toList sep.data.toList).1.toArray⟩, .string ⟨(Lib.cut s.data.toList sep.data.toList).2.1.toArray⟩, .bool (Lib.cut s.data.toList sep.data.toList).2.2]) ∧ ∃ n, w' = w.drewN n := Any.strings_Cut_shaped Try.laysM145 s sep w h hs
def Try.lays206_ren : Go.Shelf.Ren := ⟨fun | 206 => 163 | n => n, fun | 9 => 9 | 4 => 4 | 3 => 3 | n => n, fun | n => n⟩
theorem Try.lays206 : Go.Proofs.Lays.n206 Try.prog Try.lays206_ren := {
  mixed := by kernel_rfl
  f206 := Try.func163.trans (congrArg some (by kernel_rfl))
  t3 := Try.underlying3
  a3 := Try.isAgg3
  z3 := Try.sizeOf3
  v3 := Try.zeroValue3
  t4 := Try.underlying4
  a4 := Try.isAgg4
  z4 := Try.sizeOf4
  v4 := Try.zeroValue4
  t9 := Try.underlying9
  a9 := Try.isAgg9
  z9 := Try.sizeOf9
  v9 := Try.zeroValue9 }
open Go.RowKit Go.Lib in
/-- internal/stringslite.HasPrefix (what strings.HasPrefix calls). (LAID: no walk: one application.) -/
theorem Try.stringslite_HasPrefix (s p : ByteArray) (w : World) :
    Calls Try.prog 163 #[.string s, .string p] w fun e w' => e = .returned (.bool (Lib.hasPrefix s.data.toList p.data.toList)) ∧ w' = w := Any.stringslite_HasPrefix Try.lays206 s p w
def Try.lays264_ren : Go.Shelf.Ren := ⟨fun | 264 => 158 | n => n, fun | 53 => 87 | 46 => 190 | n => n, fun | n => n⟩
theorem Try.lays264 : Go.Proofs.Lays.n264 Try.prog Try.lays264_ren := {
  mixed := by kernel_rfl
  f264 := Try.func158.trans (congrArg some (by kernel_rfl))
  t46 := Try.underlying190
  a46 := Try.isAgg190
  z46 := Try.sizeOf190
  v46 := Try.zeroValue190
  t53 := Try.underlying87
  a53 := Try.isAgg87
  z53 := Try.sizeOf87
  v53 := Try.zeroValue87 }
open Go.RowKit Go.Lib in
theorem Try.bits_Mul64 (x y : Nat) (hx : x < 18446744073709551616) (hy : y < 18446744073709551616) (w : World) :
    Calls Try.prog 158 #[.int .u64 x, .int .u64 y] w fun e w' => e = .returned (.tuple #[.int .u64 ((x * y / 18446744073709551616 : Nat) : Int), .int .u64 ((x * y % 18446744073709551616 : Nat) : Int)]) ∧ w' = w := Any.bits_Mul64 Try.lays264 x y hx hy w
def Try.laysNm237_ren : Go.Shelf.Ren := ⟨fun | 37 => 148 | n => n, fun | 3 => 3 | 4 => 4 | n => n, fun | n => n⟩
theorem Try.laysNm237 : Go.Proofs.Lays2.n37 Try.prog Try.laysNm237_ren := {
  mixed := by kernel_rfl
  f37 := Try.func148.trans (congrArg some (by kernel_rfl))
  t3 := Try.underlying3
  a3 := Try.isAgg3
  z3 := Try.sizeOf3
  v3 := Try.zeroValue3
  t4 := Try.underlying4
  a4 := Try.isAgg4
  z4 := Try.sizeOf4
  v4 := Try.zeroValue4 }
open Go.RowKit Go.Lib in
/-- cmp.isNaN[int]: 'x != x': false. (LAID: no walk: one application.) -/
theorem Try.cmp_isNaN_int2 (x : Int) (w : World) :
    Calls Try.prog 148 #[.int .i64 x] w fun e w' => e = .returned (.bool false) ∧ w' = w := Any.cmp_isNaN_int2 Try.laysNm237 x w
end Go.Proofs

/- Entries of the table: what functions give. -/
set_option linter.unusedSimpArgs false
set_option linter.unusedVariables false
namespace Go.Proofs.Ytpljpbmkklcbkaa
open Go Go.Sky
set_option maxRecDepth 100000
theorem progOk : ProgOk Try.prog := ⟨by kernel_rfl, by kernel_rfl⟩

/-! math/bits.Mul64 -/
def e_math_bits_Mul64 : Entry := fun args => match args with | [.int .u64 false x, .int .u64 false y] => some (.leaf (.tuple [u6 (x*y/18446744073709551616), u6 (x*y%18446744073709551616)])) | _ => none
theorem ok_math_bits_Mul64 : EntryOk Try.prog 158 e_math_bits_Mul64 := by
  refine entry_calls progOk (by kernel_rfl) ?_
  intro args t v h ht φ cs hl
  unfold e_math_bits_Mul64 at h
  split at h
  · cases h
    cases ht
    obtain ⟨rfl, hx, hy⟩ := ints2 hl
    rename_i x y
    obtain ⟨hx0, hx1⟩ := inR_u64.1 hx
    obtain ⟨hy0, hy1⟩ := inR_u64.1 hy
    obtain ⟨X, rfl⟩ := Int.eq_ofNat_of_zero_le hx0
    obtain ⟨Y, rfl⟩ := Int.eq_ofNat_of_zero_le hy0
    refine ⟨_, ?_, fun w => Try.bits_Mul64 X Y (by omega) (by omega) w⟩
    have h1 : X * Y < 18446744073709551616 * 18446744073709551616 := Nat.mul_lt_mul'' (by omega) (by omega)
    have h2 : X * Y / 18446744073709551616 < 18446744073709551616 := Nat.div_lt_of_lt_mul h1
    rw [Int.natCast_ediv, Int.natCast_emod, Int.natCast_mul]
    exact rel_pair (inR_u64.2 ⟨by omega, by omega⟩) (inR_u64.2 ⟨by omega, by omega⟩)
  · cases h
noncomputable def tab_math_bits_Mul64 : List (FuncId × Entry) := (158, e_math_bits_Mul64) :: []
theorem tok_math_bits_Mul64 : TableOk Try.prog (table tab_math_bits_Mul64) := table_cons ok_math_bits_Mul64 table_nil

/-! math/bits.Len64 -/
def e_math_bits_Len64 : Entry := fun args => match args with | [.int .u64 false x] => some (.leaf (i6 (Lib.bitLen x.toNat))) | _ => none
theorem ok_math_bits_Len64 : EntryOk Try.prog 89 e_math_bits_Len64 := by
  refine entry_calls progOk (by kernel_rfl) ?_
  intro args t v h ht φ cs hl
  unfold e_math_bits_Len64 at h
  split at h
  · cases h
    cases ht
    obtain ⟨rfl, hx⟩ := ints1 hl
    rename_i x
    obtain ⟨hx0, hx1⟩ := inR_u64.1 hx
    refine ⟨_, ?_, fun w => Try.bits_Len64 x w hx0 hx1⟩
    exact rel_int (inR_i64.2 (bitLen_r x hx0 hx1))
  · cases h
noncomputable def tab_math_bits_Len64 : List (FuncId × Entry) := (89, e_math_bits_Len64) :: tab_math_bits_Mul64
theorem tok_math_bits_Len64 : TableOk Try.prog (table tab_math_bits_Len64) := table_cons ok_math_bits_Len64 tok_math_bits_Mul64

/-! num.size -/
def e_num_size : Entry := fun args => match args with | [.int .i64 false n] => some (.leaf (u6 (sz n))) | _ => none
theorem ok_num_size : EntryOk Try.prog 159 e_num_size := entry_ok progOk (T := table tab_math_bits_Len64) tok_math_bits_Len64 16 12 noKnown (fun _ _ _ _ => noKnown_ok) (by
  intro args t v h hv
  unfold e_num_size at h
  split at h
  · cases h
    cases hv
    refine ⟨rfl, by kernel_rfl, fun φ cs hl => ?_⟩
    rename_i n
    obtain ⟨h_n, _⟩ : InR .i64 n ∧ True := rngL_of _ _ True hl trivial
    exact (congrArg Tr.run (by kernel_rfl : evV Try.prog (table tab_math_bits_Len64) 16 12 noKnown 159 [.int .i64 false n] = tr_num_size n)).trans (run_num_size n h_n)
  · cases h)
noncomputable def tab_num_size : List (FuncId × Entry) := (159, e_num_size) :: tab_math_bits_Len64
theorem tok_num_size : TableOk Try.prog (table tab_num_size) := table_cons ok_num_size tok_math_bits_Len64

/-! num.Times -/
def e_num_Times : Entry := fun args => match args with | [.int .i64 false a, .int .i64 false b] => some (.leaf (i6 (sat (a * b)))) | _ => none
theorem ok_num_Times : EntryOk Try.prog 140 e_num_Times := entry_ok progOk (T := table tab_num_size) tok_num_size 16 12 noKnown (fun _ _ _ _ => noKnown_ok) (by
  intro args t v h hv
  unfold e_num_Times at h
  split at h
  · cases h
    cases hv
    refine ⟨rfl, by kernel_rfl, fun φ cs hl => ?_⟩
    rename_i a b
    obtain ⟨h_a, h_b, _⟩ : InR .i64 a ∧ InR .i64 b ∧ True := rngL_of _ _ True hl trivial
    exact (congrArg Tr.run (by kernel_rfl : evV Try.prog (table tab_num_size) 16 12 noKnown 140 [.int .i64 false a, .int .i64 false b] = tr_num_Times a b)).trans (run_num_Times a b h_a h_b)
  · cases h)
noncomputable def tab_num_Times : List (FuncId × Entry) := (140, e_num_Times) :: tab_num_size
theorem tok_num_Times : TableOk Try.prog (table tab_num_Times) := table_cons ok_num_Times tok_num_size

/-! num.Plus -/
def e_num_Plus : Entry := fun args => match args with | [.int .i64 false a, .int .i64 false b] => some (.leaf (i6 (sat (a + b)))) | _ => none
theorem ok_num_Plus : EntryOk Try.prog 98 e_num_Plus := entry_ok progOk (T := table tab_num_Times) tok_num_Times 16 12 noKnown (fun _ _ _ _ => noKnown_ok) (by
  intro args t v h hv
  unfold e_num_Plus at h
  split at h
  · cases h
    cases hv
    refine ⟨rfl, by kernel_rfl, fun φ cs hl => ?_⟩
    rename_i a b
    obtain ⟨h_a, h_b, _⟩ : InR .i64 a ∧ InR .i64 b ∧ True := rngL_of _ _ True hl trivial
    exact (congrArg Tr.run (by kernel_rfl : evV Try.prog (table tab_num_Times) 16 12 noKnown 98 [.int .i64 false a, .int .i64 false b] = tr_num_Plus a b)).trans (run_num_Plus a b h_a h_b)
  · cases h)
noncomputable def tab_num_Plus : List (FuncId × Entry) := (98, e_num_Plus) :: tab_num_Times
theorem tok_num_Plus : TableOk Try.prog (table tab_num_Plus) := table_cons ok_num_Plus tok_num_Times

end Go.Proofs.Ytpljpbmkklcbkaa

/- Entries of the table: what functions give. -/
set_option linter.unusedSimpArgs false
set_option linter.unusedVariables false
namespace Go.Proofs.Ytpljpbmkklcbkaa
open Go Go.Sky
set_option maxRecDepth 100000

/-! num.Root -/
def e_num_Root : Entry := fun args => match args with | [.int .u64 false n] => some (.leaf (i6 (isq n))) | _ => none
noncomputable def O_num_Root_0 : Known := known 0 (piece Try.prog (table tab_num_Plus) noKnown 47 0 24 [2, 3, 4, 12, 13, 14, 15, 16, 17, 18, 19, 20, 21, 22, 23] [0, 3] g_num_Root_0) noKnown
theorem O_num_Root_0_ok : ∀ fn c, Try.prog.funcs[47]? = some fn → fn.body = some c → KnownOk Try.prog O_num_Root_0 (blocksOf c) :=
  known_ok (by kernel_rfl) (piece_wp progOk tok_num_Plus (known_in (by kernel_rfl) (fun _ _ _ _ => noKnown_ok)) (piece_num_Root_0 (by kernel_rfl) (by kernel_rfl) (fun L n r x1 x2 x4 x5 x6 x7 x8 x9 x10 x11 x12 x13 x14 x15 x16 x17 x18 x19 x20 x21 x22 x23 h => by kernel_rfl))) (fun _ _ _ _ => noKnown_ok)
theorem ok_num_Root : EntryOk Try.prog 47 e_num_Root := entry_ok progOk (T := table tab_num_Plus) tok_num_Plus 16 12 O_num_Root_0 O_num_Root_0_ok (by
  intro args t v h hv
  unfold e_num_Root at h
  split at h
  · cases h
    cases hv
    refine ⟨rfl, by kernel_rfl, fun φ cs hl => ?_⟩
    rename_i n
    obtain ⟨h_n, _⟩ : InR .u64 n ∧ True := rngL_of _ _ True hl trivial
    exact (congrArg Tr.run (by kernel_rfl : evV Try.prog (table tab_num_Plus) 16 12 O_num_Root_0 47 [.int .u64 false n] = tr_num_Root n)).trans (run_num_Root n h_n)
  · cases h)
noncomputable def tab_num_Root : List (FuncId × Entry) := (47, e_num_Root) :: tab_num_Plus
theorem tok_num_Root : TableOk Try.prog (table tab_num_Root) := table_cons ok_num_Root tok_num_Plus

/-! skylightref01.Root -/
def e_skylightref01_Root : Entry := fun args => match args with | [.int .u64 false n] => some (.leaf (i6 (isq n))) | _ => none
noncomputable def O_skylightref01_Root_0 : Known := known 0 (piece Try.prog (table tab_num_Root) noKnown 51 0 22 [3, 4, 5, 6, 7, 8, 9, 10, 11, 12, 13, 14, 15, 16, 17, 18, 19] [0, 3, 4] g_skylightref01_Root_0) noKnown
theorem O_skylightref01_Root_0_ok : ∀ fn c, Try.prog.funcs[51]? = some fn → fn.body = some c → KnownOk Try.prog O_skylightref01_Root_0 (blocksOf c) :=
  known_ok (by kernel_rfl) (piece_wp progOk tok_num_Root (known_in (by kernel_rfl) (fun _ _ _ _ => noKnown_ok)) (piece_skylightref01_Root_0 (by kernel_rfl) (by kernel_rfl) (fun L n r i x1 x2 x5 x6 x7 x8 x9 x10 x11 x12 x13 x14 x15 x16 x17 x18 x19 x20 x21 h => by kernel_rfl))) (fun _ _ _ _ => noKnown_ok)
theorem ok_skylightref01_Root : EntryOk Try.prog 51 e_skylightref01_Root := entry_ok progOk (T := table tab_num_Root) tok_num_Root 16 12 O_skylightref01_Root_0 O_skylightref01_Root_0_ok (by
  intro args t v h hv
  unfold e_skylightref01_Root at h
  split at h
  · cases h
    cases hv
    refine ⟨rfl, by kernel_rfl, fun φ cs hl => ?_⟩
    rename_i n
    obtain ⟨h_n, _⟩ : InR .u64 n ∧ True := rngL_of _ _ True hl trivial
    exact (congrArg Tr.run (by kernel_rfl : evV Try.prog (table tab_num_Root) 16 12 O_skylightref01_Root_0 51 [.int .u64 false n] = tr_skylightref01_Root n)).trans (run_skylightref01_Root n h_n)
  · cases h)
noncomputable def tab_skylightref01_Root : List (FuncId × Entry) := (51, e_skylightref01_Root) :: tab_num_Root
theorem tok_skylightref01_Root : TableOk Try.prog (table tab_skylightref01_Root) := table_cons ok_skylightref01_Root tok_num_Root

end Go.Proofs.Ytpljpbmkklcbkaa

/- Entries of the table: what functions give. -/
set_option linter.unusedSimpArgs false
set_option linter.unusedVariables false
namespace Go.Proofs.Ytpljpbmkklcbkaa
open Go Go.Sky
set_option maxRecDepth 100000

/-! math/bits.LeadingZeros64 -/
def e_math_bits_LeadingZeros64 : Entry := fun args => match args with | [.int .u64 false x] => some (.leaf (i6 (64 - (Lib.bitLen x.toNat : Nat)))) | _ => none
theorem ok_math_bits_LeadingZeros64 : EntryOk Try.prog 174 e_math_bits_LeadingZeros64 := by
  refine entry_calls progOk (by kernel_rfl) ?_
  intro args t v h ht φ cs hl
  unfold e_math_bits_LeadingZeros64 at h
  split at h
  · cases h
    cases ht
    obtain ⟨rfl, hx⟩ := ints1 hl
    rename_i x
    obtain ⟨hx0, hx1⟩ := inR_u64.1 hx
    refine ⟨_, ?_, fun w => Try.bits_LeadingZeros64 x w hx0 hx1⟩
    have := Any.bitLen_le64 x hx0 hx1
    exact rel_int (inR_i64.2 (by omega))
  · cases h
noncomputable def tab_math_bits_LeadingZeros64 : List (FuncId × Entry) := (174, e_math_bits_LeadingZeros64) :: tab_skylightref01_Root
theorem tok_math_bits_LeadingZeros64 : TableOk Try.prog (table tab_math_bits_LeadingZeros64) := table_cons ok_math_bits_LeadingZeros64 tok_skylightref01_Root

/-! math/bits.Div64 -/
def e_math_bits_Div64 : Entry := fun args => match args with | [.int .u64 false hi, .int .u64 false lo, .int .u64 false y] => some (.node (decide (hi < y)) (.leaf (.tuple [u6 ((hi * 18446744073709551616 + lo) / y), u6 ((hi * 18446744073709551616 + lo) % y)])) .bad) | _ => none
noncomputable def O_math_bits_Div64_0 : Known := known 0 (piece Try.prog (table tab_math_bits_LeadingZeros64) noKnown 162 0 135 [15, 16, 67, 68, 69, 70, 71, 72, 73, 74, 75, 76, 77, 78, 79, 80, 81, 82, 83, 84, 85] [9, 10, 13, 15, 16] g_math_bits_Div64_0) noKnown
theorem O_math_bits_Div64_0_ok : ∀ fn c, Try.prog.funcs[162]? = some fn → fn.body = some c → KnownOk Try.prog O_math_bits_Div64_0 (blocksOf c) :=
  known_ok (by kernel_rfl) (piece_wp progOk tok_math_bits_LeadingZeros64 (known_in (by kernel_rfl) (fun _ _ _ _ => noKnown_ok)) (piece_math_bits_Div64_0 (by kernel_rfl) (by kernel_rfl) (fun L yn1 yn0 un1 q rh x0 x1 x2 x3 x4 x5 x6 x7 x8 x11 x12 x14 x17 x18 x19 x20 x21 x22 x23 x24 x25 x26 x27 x28 x29 x30 x31 x32 x33 x34 x35 x36 x37 x38 x39 x40 x41 x42 x43 x44 x45 x46 x47 x48 x49 x50 x51 x52 x53 x54 x55 x56 x57 x58 x59 x60 x61 x62 x63 x64 x65 x66 x67 x68 x69 x70 x71 x72 x73 x74 x75 x76 x77 x78 x79 x80 x81 x82 x83 x84 x85 x86 x87 x88 x89 x90 x91 x92 x93 x94 x95 x96 x97 x98 x99 x100 x101 x102 x103 x104 x105 x106 x107 x108 x109 x110 x111 x112 x113 x114 x115 x116 x117 x118 x119 x120 x121 x122 x123 x124 x125 x126 x127 x128 x129 x130 x131 x132 x133 x134 h => by kernel_rfl))) (fun _ _ _ _ => noKnown_ok)
noncomputable def O_math_bits_Div64_2 : Known := known 2 (piece Try.prog (table tab_math_bits_LeadingZeros64) O_math_bits_Div64_0 162 2 135 [16, 18, 102, 103, 104, 105, 106, 107, 108, 109, 110, 111, 112, 113, 114, 115, 116, 117, 118, 119, 120] [9, 10, 14, 18, 16] g_math_bits_Div64_2) O_math_bits_Div64_0
theorem O_math_bits_Div64_2_ok : ∀ fn c, Try.prog.funcs[162]? = some fn → fn.body = some c → KnownOk Try.prog O_math_bits_Div64_2 (blocksOf c) :=
  known_ok (by kernel_rfl) (piece_wp progOk tok_math_bits_LeadingZeros64 (known_in (by kernel_rfl) O_math_bits_Div64_0_ok) (piece_math_bits_Div64_2 (by kernel_rfl) (by kernel_rfl) (fun L yn1 yn0 un1 q rh x0 x1 x2 x3 x4 x5 x6 x7 x8 x11 x12 x13 x15 x17 x19 x20 x21 x22 x23 x24 x25 x26 x27 x28 x29 x30 x31 x32 x33 x34 x35 x36 x37 x38 x39 x40 x41 x42 x43 x44 x45 x46 x47 x48 x49 x50 x51 x52 x53 x54 x55 x56 x57 x58 x59 x60 x61 x62 x63 x64 x65 x66 x67 x68 x69 x70 x71 x72 x73 x74 x75 x76 x77 x78 x79 x80 x81 x82 x83 x84 x85 x86 x87 x88 x89 x90 x91 x92 x93 x94 x95 x96 x97 x98 x99 x100 x101 x102 x103 x104 x105 x106 x107 x108 x109 x110 x111 x112 x113 x114 x115 x116 x117 x118 x119 x120 x121 x122 x123 x124 x125 x126 x127 x128 x129 x130 x131 x132 x133 x134 h => by kernel_rfl))) O_math_bits_Div64_0_ok
theorem ok_math_bits_Div64 : EntryOk Try.prog 162 e_math_bits_Div64 := entry_ok progOk (T := table tab_math_bits_LeadingZeros64) tok_math_bits_LeadingZeros64 16 12 O_math_bits_Div64_2 O_math_bits_Div64_2_ok (by
  intro args t v h hv
  unfold e_math_bits_Div64 at h
  split at h
  · cases h
    simp only [Tr.run] at hv
    split at hv
    rotate_left
    · cases hv
    rename_i hpre0
    have hpre := of_decide_eq_true hpre0
    cases hv
    refine ⟨rfl, by kernel_rfl, fun φ cs hl => ?_⟩
    rename_i hi lo y
    obtain ⟨h_hi, h_lo, h_y, _⟩ : InR .u64 hi ∧ InR .u64 lo ∧ InR .u64 y ∧ True := rngL_of _ _ True hl trivial
    exact (congrArg Tr.run (by kernel_rfl : evV Try.prog (table tab_math_bits_LeadingZeros64) 16 12 O_math_bits_Div64_2 162 [.int .u64 false hi, .int .u64 false lo, .int .u64 false y] = tr_math_bits_Div64 hi lo y)).trans (run_math_bits_Div64 hi lo y h_hi h_lo h_y hpre)
  · cases h)
noncomputable def tab_math_bits_Div64 : List (FuncId × Entry) := (162, e_math_bits_Div64) :: tab_math_bits_LeadingZeros64
theorem tok_math_bits_Div64 : TableOk Try.prog (table tab_math_bits_Div64) := table_cons ok_math_bits_Div64 tok_math_bits_LeadingZeros64

end Go.Proofs.Ytpljpbmkklcbkaa

/- Entries of the table: what functions give. -/
set_option linter.unusedSimpArgs false
set_option linter.unusedVariables false
namespace Go.Proofs.Ytpljpbmkklcbkaa
open Go Go.Sky
set_option maxRecDepth 100000

/-! wide.Mul -/
def e_wide_Mul : Entry := fun args => match args with | [.int .i64 false a, .int .i64 false b] => some (.leaf (w2 (a * b / 18446744073709551616) (a * b % 18446744073709551616))) | _ => none
theorem ok_wide_Mul : EntryOk Try.prog 141 e_wide_Mul := entry_ok progOk (T := table tab_math_bits_Div64) tok_math_bits_Div64 16 12 noKnown (fun _ _ _ _ => noKnown_ok) (by
  intro args t v h hv
  unfold e_wide_Mul at h
  split at h
  · cases h
    cases hv
    refine ⟨rfl, by kernel_rfl, fun φ cs hl => ?_⟩
    rename_i a b
    obtain ⟨h_a, h_b, _⟩ : InR .i64 a ∧ InR .i64 b ∧ True := rngL_of _ _ True hl trivial
    exact (congrArg Tr.run (by kernel_rfl : evV Try.prog (table tab_math_bits_Div64) 16 12 noKnown 141 [.int .i64 false a, .int .i64 false b] = tr_wide_Mul a b)).trans (run_wide_Mul a b h_a h_b)
  · cases h)
noncomputable def tab_wide_Mul : List (FuncId × Entry) := (141, e_wide_Mul) :: tab_math_bits_Div64
theorem tok_wide_Mul : TableOk Try.prog (table tab_wide_Mul) := table_cons ok_wide_Mul tok_math_bits_Div64

/-! wide.Over -/
def e_wide_Over : Entry := fun args => match args with | [.agg [.int .i64 false a_hi, .int .u64 false a_lo], .int .i64 false d] => some (.leaf (.tuple [i6 (ovQ (a_hi * 18446744073709551616 + a_lo) d), bb (ovOk (a_hi * 18446744073709551616 + a_lo) d)])) | _ => none
theorem ok_wide_Over : EntryOk Try.prog 142 e_wide_Over := entry_ok progOk (T := table tab_wide_Mul) tok_wide_Mul 16 12 noKnown (fun _ _ _ _ => noKnown_ok) (by
  intro args t v h hv
  unfold e_wide_Over at h
  split at h
  · cases h
    cases hv
    refine ⟨rfl, by kernel_rfl, fun φ cs hl => ?_⟩
    rename_i a_hi a_lo d
    obtain ⟨h_a_hi, h_a_lo, h_d, _⟩ : InR .i64 a_hi ∧ InR .u64 a_lo ∧ InR .i64 d ∧ True := rngL_of _ _ True hl trivial
    exact (congrArg Tr.run (by kernel_rfl : evV Try.prog (table tab_wide_Mul) 16 12 noKnown 142 [.agg [.int .i64 false a_hi, .int .u64 false a_lo], .int .i64 false d] = tr_wide_Over a_hi a_lo d)).trans (run_wide_Over a_hi a_lo d h_a_hi h_a_lo h_d)
  · cases h)
noncomputable def tab_wide_Over : List (FuncId × Entry) := (142, e_wide_Over) :: tab_wide_Mul
theorem tok_wide_Over : TableOk Try.prog (table tab_wide_Over) := table_cons ok_wide_Over tok_wide_Mul

/-! frac.Right -/
def e_frac_Right : Entry := fun args => match args with | [.agg [.int .i64 false f_n, .int .i64 false f_d]] => some (.leaf (bb (decide (0 < f_d)))) | _ => none
theorem ok_frac_Right : EntryOk Try.prog 62 e_frac_Right := entry_ok progOk (T := table tab_wide_Over) tok_wide_Over 16 12 noKnown (fun _ _ _ _ => noKnown_ok) (by
  intro args t v h hv
  unfold e_frac_Right at h
  split at h
  · cases h
    cases hv
    refine ⟨rfl, by kernel_rfl, fun φ cs hl => ?_⟩
    rename_i f_n f_d
    obtain ⟨h_f_n, h_f_d, _⟩ : InR .i64 f_n ∧ InR .i64 f_d ∧ True := rngL_of _ _ True hl trivial
    exact (congrArg Tr.run (by kernel_rfl : evV Try.prog (table tab_wide_Over) 16 12 noKnown 62 [.agg [.int .i64 false f_n, .int .i64 false f_d]] = tr_frac_Right f_n f_d)).trans (run_frac_Right f_n f_d h_f_n h_f_d)
  · cases h)
noncomputable def tab_frac_Right : List (FuncId × Entry) := (62, e_frac_Right) :: tab_wide_Over
theorem tok_frac_Right : TableOk Try.prog (table tab_frac_Right) := table_cons ok_frac_Right tok_wide_Over

/-! frac.At -/
def e_frac_At : Entry := fun args => match args with | [.int .i64 false v, .agg [.int .i64 false f_n, .int .i64 false f_d]] => some (.leaf (i6 (atF v f_n f_d))) | _ => none
theorem ok_frac_At : EntryOk Try.prog 100 e_frac_At := entry_ok progOk (T := table tab_frac_Right) tok_frac_Right 16 12 noKnown (fun _ _ _ _ => noKnown_ok) (by
  intro args t v h hv
  unfold e_frac_At at h
  split at h
  · cases h
    cases hv
    refine ⟨rfl, by kernel_rfl, fun φ cs hl => ?_⟩
    rename_i v f_n f_d
    obtain ⟨h_v, h_f_n, h_f_d, _⟩ : InR .i64 v ∧ InR .i64 f_n ∧ InR .i64 f_d ∧ True := rngL_of _ _ True hl trivial
    exact (congrArg Tr.run (by kernel_rfl : evV Try.prog (table tab_frac_Right) 16 12 noKnown 100 [.int .i64 false v, .agg [.int .i64 false f_n, .int .i64 false f_d]] = tr_frac_At v f_n f_d)).trans (run_frac_At v f_n f_d h_v h_f_n h_f_d)
  · cases h)
noncomputable def tab_frac_At : List (FuncId × Entry) := (100, e_frac_At) :: tab_frac_Right
theorem tok_frac_At : TableOk Try.prog (table tab_frac_At) := table_cons ok_frac_At tok_frac_Right

end Go.Proofs.Ytpljpbmkklcbkaa

/- Entries of the table: what functions give. -/
set_option linter.unusedSimpArgs false
set_option linter.unusedVariables false
namespace Go.Proofs.Ytpljpbmkklcbkaa
open Go Go.Sky
set_option maxRecDepth 100000

/-! vec.Near -/
def e_vec_Near : Entry := fun args => match args with | [.agg [.int .i64 false v_x, .int .i64 false v_y, .int .i64 false v_z]] => some (.leaf (bb (nearB v_x v_y v_z))) | _ => none
theorem ok_vec_Near : EntryOk Try.prog 73 e_vec_Near := entry_ok progOk (T := table tab_frac_At) tok_frac_At 16 12 noKnown (fun _ _ _ _ => noKnown_ok) (by
  intro args t v h hv
  unfold e_vec_Near at h
  split at h
  · cases h
    cases hv
    refine ⟨rfl, by kernel_rfl, fun φ cs hl => ?_⟩
    rename_i v_x v_y v_z
    obtain ⟨h_v_x, h_v_y, h_v_z, _⟩ : InR .i64 v_x ∧ InR .i64 v_y ∧ InR .i64 v_z ∧ True := rngL_of _ _ True hl trivial
    exact (congrArg Tr.run (by kernel_rfl : evV Try.prog (table tab_frac_At) 16 12 noKnown 73 [.agg [.int .i64 false v_x, .int .i64 false v_y, .int .i64 false v_z]] = tr_vec_Near v_x v_y v_z)).trans (run_vec_Near v_x v_y v_z h_v_x h_v_y h_v_z)
  · cases h)
noncomputable def tab_vec_Near : List (FuncId × Entry) := (73, e_vec_Near) :: tab_frac_At
theorem tok_vec_Near : TableOk Try.prog (table tab_vec_Near) := table_cons ok_vec_Near tok_frac_At

/-! vec.Add -/
def e_vec_Add : Entry := fun args => match args with | [.agg [.int .i64 false a_x, .int .i64 false a_y, .int .i64 false a_z], .agg [.int .i64 false b_x, .int .i64 false b_y, .int .i64 false b_z]] => some (.leaf (v3 (sat (a_x + b_x)) (sat (a_y + b_y)) (sat (a_z + b_z)))) | _ => none
theorem ok_vec_Add : EntryOk Try.prog 49 e_vec_Add := entry_ok progOk (T := table tab_vec_Near) tok_vec_Near 16 12 noKnown (fun _ _ _ _ => noKnown_ok) (by
  intro args t v h hv
  unfold e_vec_Add at h
  split at h
  · cases h
    cases hv
    refine ⟨rfl, by kernel_rfl, fun φ cs hl => ?_⟩
    rename_i a_x a_y a_z b_x b_y b_z
    obtain ⟨h_a_x, h_a_y, h_a_z, h_b_x, h_b_y, h_b_z, _⟩ : InR .i64 a_x ∧ InR .i64 a_y ∧ InR .i64 a_z ∧ InR .i64 b_x ∧ InR .i64 b_y ∧ InR .i64 b_z ∧ True := rngL_of _ _ True hl trivial
    exact (congrArg Tr.run (by kernel_rfl : evV Try.prog (table tab_vec_Near) 16 12 noKnown 49 [.agg [.int .i64 false a_x, .int .i64 false a_y, .int .i64 false a_z], .agg [.int .i64 false b_x, .int .i64 false b_y, .int .i64 false b_z]] = tr_vec_Add a_x a_y a_z b_x b_y b_z)).trans (run_vec_Add a_x a_y a_z b_x b_y b_z h_a_x h_a_y h_a_z h_b_x h_b_y h_b_z)
  · cases h)
noncomputable def tab_vec_Add : List (FuncId × Entry) := (49, e_vec_Add) :: tab_vec_Near
theorem tok_vec_Add : TableOk Try.prog (table tab_vec_Add) := table_cons ok_vec_Add tok_vec_Near

/-! vec.Sub -/
def e_vec_Sub : Entry := fun args => match args with | [.agg [.int .i64 false a_x, .int .i64 false a_y, .int .i64 false a_z], .agg [.int .i64 false b_x, .int .i64 false b_y, .int .i64 false b_z]] => some (.leaf (v3 (sat (a_x + sat (b_x * -1))) (sat (a_y + sat (b_y * -1))) (sat (a_z + sat (b_z * -1))))) | _ => none
theorem ok_vec_Sub : EntryOk Try.prog 129 e_vec_Sub := entry_ok progOk (T := table tab_vec_Add) tok_vec_Add 16 12 noKnown (fun _ _ _ _ => noKnown_ok) (by
  intro args t v h hv
  unfold e_vec_Sub at h
  split at h
  · cases h
    cases hv
    refine ⟨rfl, by kernel_rfl, fun φ cs hl => ?_⟩
    rename_i a_x a_y a_z b_x b_y b_z
    obtain ⟨h_a_x, h_a_y, h_a_z, h_b_x, h_b_y, h_b_z, _⟩ : InR .i64 a_x ∧ InR .i64 a_y ∧ InR .i64 a_z ∧ InR .i64 b_x ∧ InR .i64 b_y ∧ InR .i64 b_z ∧ True := rngL_of _ _ True hl trivial
    exact (congrArg Tr.run (by kernel_rfl : evV Try.prog (table tab_vec_Add) 16 12 noKnown 129 [.agg [.int .i64 false a_x, .int .i64 false a_y, .int .i64 false a_z], .agg [.int .i64 false b_x, .int .i64 false b_y, .int .i64 false b_z]] = tr_vec_Sub a_x a_y a_z b_x b_y b_z)).trans (run_vec_Sub a_x a_y a_z b_x b_y b_z h_a_x h_a_y h_a_z h_b_x h_b_y h_b_z)
  · cases h)
noncomputable def tab_vec_Sub : List (FuncId × Entry) := (129, e_vec_Sub) :: tab_vec_Add
theorem tok_vec_Sub : TableOk Try.prog (table tab_vec_Sub) := table_cons ok_vec_Sub tok_vec_Add

/-! vec.Dot -/
def e_vec_Dot : Entry := fun args => match args with | [.agg [.int .i64 false a_x, .int .i64 false a_y, .int .i64 false a_z], .agg [.int .i64 false b_x, .int .i64 false b_y, .int .i64 false b_z]] => some (.leaf (i6 (dotN a_x a_y a_z b_x b_y b_z))) | _ => none
theorem ok_vec_Dot : EntryOk Try.prog 88 e_vec_Dot := entry_ok progOk (T := table tab_vec_Sub) tok_vec_Sub 16 12 noKnown (fun _ _ _ _ => noKnown_ok) (by
  intro args t v h hv
  unfold e_vec_Dot at h
  split at h
  · cases h
    cases hv
    refine ⟨rfl, by kernel_rfl, fun φ cs hl => ?_⟩
    rename_i a_x a_y a_z b_x b_y b_z
    obtain ⟨h_a_x, h_a_y, h_a_z, h_b_x, h_b_y, h_b_z, _⟩ : InR .i64 a_x ∧ InR .i64 a_y ∧ InR .i64 a_z ∧ InR .i64 b_x ∧ InR .i64 b_y ∧ InR .i64 b_z ∧ True := rngL_of _ _ True hl trivial
    exact (congrArg Tr.run (by kernel_rfl : evV Try.prog (table tab_vec_Sub) 16 12 noKnown 88 [.agg [.int .i64 false a_x, .int .i64 false a_y, .int .i64 false a_z], .agg [.int .i64 false b_x, .int .i64 false b_y, .int .i64 false b_z]] = tr_vec_Dot a_x a_y a_z b_x b_y b_z)).trans (run_vec_Dot a_x a_y a_z b_x b_y b_z h_a_x h_a_y h_a_z h_b_x h_b_y h_b_z)
  · cases h)
noncomputable def tab_vec_Dot : List (FuncId × Entry) := (88, e_vec_Dot) :: tab_vec_Sub
theorem tok_vec_Dot : TableOk Try.prog (table tab_vec_Dot) := table_cons ok_vec_Dot tok_vec_Sub

/-! vec.Cross -/
def e_vec_Cross : Entry := fun args => match args with | [.agg [.int .i64 false a_x, .int .i64 false a_y, .int .i64 false a_z], .agg [.int .i64 false b_x, .int .i64 false b_y, .int .i64 false b_z]] => some (.leaf (v3 (crN a_y a_z b_y b_z a_x b_x) (crN a_z a_x b_z b_x a_y b_y) (crN a_x a_y b_x b_y a_z b_z))) | _ => none
theorem ok_vec_Cross : EntryOk Try.prog 152 e_vec_Cross := entry_ok progOk (T := table tab_vec_Dot) tok_vec_Dot 16 12 noKnown (fun _ _ _ _ => noKnown_ok) (by
  intro args t v h hv
  unfold e_vec_Cross at h
  split at h
  · cases h
    cases hv
    refine ⟨rfl, by kernel_rfl, fun φ cs hl => ?_⟩
    rename_i a_x a_y a_z b_x b_y b_z
    obtain ⟨h_a_x, h_a_y, h_a_z, h_b_x, h_b_y, h_b_z, _⟩ : InR .i64 a_x ∧ InR .i64 a_y ∧ InR .i64 a_z ∧ InR .i64 b_x ∧ InR .i64 b_y ∧ InR .i64 b_z ∧ True := rngL_of _ _ True hl trivial
    exact (congrArg Tr.run (by kernel_rfl : evV Try.prog (table tab_vec_Dot) 16 12 noKnown 152 [.agg [.int .i64 false a_x, .int .i64 false a_y, .int .i64 false a_z], .agg [.int .i64 false b_x, .int .i64 false b_y, .int .i64 false b_z]] = tr_vec_Cross a_x a_y a_z b_x b_y b_z)).trans (run_vec_Cross a_x a_y a_z b_x b_y b_z h_a_x h_a_y h_a_z h_b_x h_b_y h_b_z)
  · cases h)
noncomputable def tab_vec_Cross : List (FuncId × Entry) := (152, e_vec_Cross) :: tab_vec_Dot
theorem tok_vec_Cross : TableOk Try.prog (table tab_vec_Cross) := table_cons ok_vec_Cross tok_vec_Dot

/-! vec.Volume -/
def e_vec_Volume : Entry := fun args => match args with | [.agg [.int .i64 false a_x, .int .i64 false a_y, .int .i64 false a_z], .agg [.int .i64 false b_x, .int .i64 false b_y, .int .i64 false b_z], .agg [.int .i64 false c_x, .int .i64 false c_y, .int .i64 false c_z]] => some (.leaf (i6 (volN a_x a_y a_z b_x b_y b_z c_x c_y c_z))) | _ => none
theorem ok_vec_Volume : EntryOk Try.prog 201 e_vec_Volume := entry_ok progOk (T := table tab_vec_Cross) tok_vec_Cross 16 12 noKnown (fun _ _ _ _ => noKnown_ok) (by
  intro args t v h hv
  unfold e_vec_Volume at h
  split at h
  · cases h
    cases hv
    refine ⟨rfl, by kernel_rfl, fun φ cs hl => ?_⟩
    rename_i a_x a_y a_z b_x b_y b_z c_x c_y c_z
    obtain ⟨h_a_x, h_a_y, h_a_z, h_b_x, h_b_y, h_b_z, h_c_x, h_c_y, h_c_z, _⟩ : InR .i64 a_x ∧ InR .i64 a_y ∧ InR .i64 a_z ∧ InR .i64 b_x ∧ InR .i64 b_y ∧ InR .i64 b_z ∧ InR .i64 c_x ∧ InR .i64 c_y ∧ InR .i64 c_z ∧ True := rngL_of _ _ True hl trivial
    exact (congrArg Tr.run (by kernel_rfl : evV Try.prog (table tab_vec_Cross) 16 12 noKnown 201 [.agg [.int .i64 false a_x, .int .i64 false a_y, .int .i64 false a_z], .agg [.int .i64 false b_x, .int .i64 false b_y, .int .i64 false b_z], .agg [.int .i64 false c_x, .int .i64 false c_y, .int .i64 false c_z]] = tr_vec_Volume a_x a_y a_z b_x b_y b_z c_x c_y c_z)).trans (run_vec_Volume a_x a_y a_z b_x b_y b_z c_x c_y c_z h_a_x h_a_y h_a_z h_b_x h_b_y h_b_z h_c_x h_c_y h_c_z)
  · cases h)
noncomputable def tab_vec_Volume : List (FuncId × Entry) := (201, e_vec_Volume) :: tab_vec_Cross
theorem tok_vec_Volume : TableOk Try.prog (table tab_vec_Volume) := table_cons ok_vec_Volume tok_vec_Cross

/-! skylightref06.Near -/
def e_skylightref06_Near : Entry := fun args => match args with | [.agg [.int .i64 false v_x, .int .i64 false v_y, .int .i64 false v_z]] => some (.leaf (bb (nearB v_x v_y v_z))) | _ => none
theorem ok_skylightref06_Near : EntryOk Try.prog 28 e_skylightref06_Near := entry_ok progOk (T := table tab_vec_Volume) tok_vec_Volume 16 12 noKnown (fun _ _ _ _ => noKnown_ok) (by
  intro args t v h hv
  unfold e_skylightref06_Near at h
  split at h
  · cases h
    cases hv
    refine ⟨rfl, by kernel_rfl, fun φ cs hl => ?_⟩
    rename_i v_x v_y v_z
    obtain ⟨h_v_x, h_v_y, h_v_z, _⟩ : InR .i64 v_x ∧ InR .i64 v_y ∧ InR .i64 v_z ∧ True := rngL_of _ _ True hl trivial
    exact (congrArg Tr.run (by kernel_rfl : evV Try.prog (table tab_vec_Volume) 16 12 noKnown 28 [.agg [.int .i64 false v_x, .int .i64 false v_y, .int .i64 false v_z]] = tr_skylightref06_Near v_x v_y v_z)).trans (run_skylightref06_Near v_x v_y v_z h_v_x h_v_y h_v_z)
  · cases h)
noncomputable def tab_skylightref06_Near : List (FuncId × Entry) := (28, e_skylightref06_Near) :: tab_vec_Volume
theorem tok_skylightref06_Near : TableOk Try.prog (table tab_skylightref06_Near) := table_cons ok_skylightref06_Near tok_vec_Volume

end Go.Proofs.Ytpljpbmkklcbkaa

/- Entries of the table: what functions give. -/
set_option linter.unusedSimpArgs false
set_option linter.unusedVariables false
namespace Go.Proofs.Ytpljpbmkklcbkaa
open Go Go.Sky
set_option maxRecDepth 100000

/-! (vec.triple).most -/
def e_vec_triple_most : Entry := fun args => match args with | [.agg [.int .i64 false v_x, .int .i64 false v_y, .int .i64 false v_z]] => some (.leaf (i6 (mostI v_x v_y v_z))) | _ => none
theorem ok_vec_triple_most : EntryOk Try.prog 91 e_vec_triple_most := entry_ok progOk (T := table tab_skylightref06_Near) tok_skylightref06_Near 16 12 noKnown (fun _ _ _ _ => noKnown_ok) (by
  intro args t v h hv
  unfold e_vec_triple_most at h
  split at h
  · cases h
    cases hv
    refine ⟨rfl, by kernel_rfl, fun φ cs hl => ?_⟩
    rename_i v_x v_y v_z
    obtain ⟨h_v_x, h_v_y, h_v_z, _⟩ : InR .i64 v_x ∧ InR .i64 v_y ∧ InR .i64 v_z ∧ True := rngL_of _ _ True hl trivial
    exact (congrArg Tr.run (by kernel_rfl : evV Try.prog (table tab_skylightref06_Near) 16 12 noKnown 91 [.agg [.int .i64 false v_x, .int .i64 false v_y, .int .i64 false v_z]] = tr_vec_triple_most v_x v_y v_z)).trans (run_vec_triple_most v_x v_y v_z h_v_x h_v_y h_v_z)
  · cases h)
noncomputable def tab_vec_triple_most : List (FuncId × Entry) := (91, e_vec_triple_most) :: tab_skylightref06_Near
theorem tok_vec_triple_most : TableOk Try.prog (table tab_vec_triple_most) := table_cons ok_vec_triple_most tok_skylightref06_Near

/-! vec.Len -/
def e_vec_Len : Entry := fun args => match args with | [.agg [.int .i64 false v_x, .int .i64 false v_y, .int .i64 false v_z]] => some (.leaf (i6 (isq (dotN v_x v_y v_z v_x v_y v_z)))) | _ => none
theorem ok_vec_Len : EntryOk Try.prog 95 e_vec_Len := entry_ok progOk (T := table tab_vec_triple_most) tok_vec_triple_most 16 12 noKnown (fun _ _ _ _ => noKnown_ok) (by
  intro args t v h hv
  unfold e_vec_Len at h
  split at h
  · cases h
    cases hv
    refine ⟨rfl, by kernel_rfl, fun φ cs hl => ?_⟩
    rename_i v_x v_y v_z
    obtain ⟨h_v_x, h_v_y, h_v_z, _⟩ : InR .i64 v_x ∧ InR .i64 v_y ∧ InR .i64 v_z ∧ True := rngL_of _ _ True hl trivial
    exact (congrArg Tr.run (by kernel_rfl : evV Try.prog (table tab_vec_triple_most) 16 12 noKnown 95 [.agg [.int .i64 false v_x, .int .i64 false v_y, .int .i64 false v_z]] = tr_vec_Len v_x v_y v_z)).trans (run_vec_Len v_x v_y v_z h_v_x h_v_y h_v_z)
  · cases h)
noncomputable def tab_vec_Len : List (FuncId × Entry) := (95, e_vec_Len) :: tab_vec_triple_most
theorem tok_vec_Len : TableOk Try.prog (table tab_vec_Len) := table_cons ok_vec_Len tok_vec_triple_most

/-! vec.Unit -/
def e_vec_Unit : Entry := fun args => match args with | [.agg [.int .i64 false v_x, .int .i64 false v_y, .int .i64 false v_z]] => some (.leaf (.tuple [v3 (unitC v_x v_y v_z v_x) (unitC v_x v_y v_z v_y) (unitC v_x v_y v_z v_z), bb (okU v_x v_y v_z)])) | _ => none
noncomputable def O_vec_Unit_0 : Known := known 0 (piece Try.prog (table tab_vec_Len) noKnown 48 0 36 [5, 18, 19, 20, 21, 22, 23] [4, 5] g_vec_Unit_0) noKnown
theorem O_vec_Unit_0_ok : ∀ fn c, Try.prog.funcs[48]? = some fn → fn.body = some c → KnownOk Try.prog O_vec_Unit_0 (blocksOf c) :=
  known_ok (by kernel_rfl) (piece_wp progOk tok_vec_Len (known_in (by kernel_rfl) (fun _ _ _ _ => noKnown_ok)) (piece_vec_Unit_0 (by kernel_rfl) (by kernel_rfl) (fun L m p_x p_y p_z q_x q_y q_z t_x t_y t_z x0 x1 x2 x3 x6 x7 x8 x9 x10 x11 x12 x13 x14 x15 x16 x17 x18 x19 x20 x21 x22 x23 x24 x25 x26 x27 x28 x29 x30 x31 x32 x33 x34 x35 => by kernel_rfl))) (fun _ _ _ _ => noKnown_ok)
noncomputable def O_vec_Unit_2 : Known := known 2 (piece Try.prog (table tab_vec_Len) O_vec_Unit_0 48 2 36 [24, 25, 26, 27, 28] [4] g_vec_Unit_2) O_vec_Unit_0
theorem O_vec_Unit_2_ok : ∀ fn c, Try.prog.funcs[48]? = some fn → fn.body = some c → KnownOk Try.prog O_vec_Unit_2 (blocksOf c) :=
  known_ok (by kernel_rfl) (piece_wp progOk tok_vec_Len (known_in (by kernel_rfl) O_vec_Unit_0_ok) (piece_vec_Unit_2 (by kernel_rfl) (by kernel_rfl) (fun L p_x p_y p_z q_x q_y q_z t_x t_y t_z x0 x1 x2 x3 x5 x6 x7 x8 x9 x10 x11 x12 x13 x14 x15 x16 x17 x18 x19 x20 x21 x22 x23 x24 x25 x26 x27 x28 x29 x30 x31 x32 x33 x34 x35 => by kernel_rfl))) O_vec_Unit_0_ok
theorem ok_vec_Unit : EntryOk Try.prog 48 e_vec_Unit := entry_ok progOk (T := table tab_vec_Len) tok_vec_Len 16 12 O_vec_Unit_2 O_vec_Unit_2_ok (by
  intro args t v h hv
  unfold e_vec_Unit at h
  split at h
  · cases h
    cases hv
    refine ⟨rfl, by kernel_rfl, fun φ cs hl => ?_⟩
    rename_i v_x v_y v_z
    obtain ⟨h_v_x, h_v_y, h_v_z, _⟩ : InR .i64 v_x ∧ InR .i64 v_y ∧ InR .i64 v_z ∧ True := rngL_of _ _ True hl trivial
    exact (congrArg Tr.run (by kernel_rfl : evV Try.prog (table tab_vec_Len) 16 12 O_vec_Unit_2 48 [.agg [.int .i64 false v_x, .int .i64 false v_y, .int .i64 false v_z]] = tr_vec_Unit v_x v_y v_z)).trans (run_vec_Unit v_x v_y v_z h_v_x h_v_y h_v_z)
  · cases h)
noncomputable def tab_vec_Unit : List (FuncId × Entry) := (48, e_vec_Unit) :: tab_vec_Len
theorem tok_vec_Unit : TableOk Try.prog (table tab_vec_Unit) := table_cons ok_vec_Unit tok_vec_Len

end Go.Proofs.Ytpljpbmkklcbkaa

/- Entries of the table: what functions give. -/
set_option linter.unusedSimpArgs false
set_option linter.unusedVariables false
namespace Go.Proofs.Ytpljpbmkklcbkaa
open Go Go.Sky
set_option maxRecDepth 100000

/-! skylightref01.Plus -/
def e_skylightref01_Plus : Entry := fun args => match args with | [.int .i64 false a, .int .i64 false b] => some (.leaf (i6 (sat (a + b)))) | _ => none
theorem ok_skylightref01_Plus : EntryOk Try.prog 179 e_skylightref01_Plus := entry_ok progOk (T := table tab_vec_Unit) tok_vec_Unit 16 12 noKnown (fun _ _ _ _ => noKnown_ok) (by
  intro args t v h hv
  unfold e_skylightref01_Plus at h
  split at h
  · cases h
    cases hv
    refine ⟨rfl, by kernel_rfl, fun φ cs hl => ?_⟩
    rename_i a b
    obtain ⟨h_a, h_b, _⟩ : InR .i64 a ∧ InR .i64 b ∧ True := rngL_of _ _ True hl trivial
    exact (congrArg Tr.run (by kernel_rfl : evV Try.prog (table tab_vec_Unit) 16 12 noKnown 179 [.int .i64 false a, .int .i64 false b] = tr_skylightref01_Plus a b)).trans (run_skylightref01_Plus a b h_a h_b)
  · cases h)
noncomputable def tab_skylightref01_Plus : List (FuncId × Entry) := (179, e_skylightref01_Plus) :: tab_vec_Unit
theorem tok_skylightref01_Plus : TableOk Try.prog (table tab_skylightref01_Plus) := table_cons ok_skylightref01_Plus tok_vec_Unit

/-! skylightref01.Size -/
def e_skylightref01_Size : Entry := fun args => match args with | [.int .i64 false n] => some (.leaf (u6 (sz n))) | _ => none
theorem ok_skylightref01_Size : EntryOk Try.prog 181 e_skylightref01_Size := entry_ok progOk (T := table tab_skylightref01_Plus) tok_skylightref01_Plus 16 12 noKnown (fun _ _ _ _ => noKnown_ok) (by
  intro args t v h hv
  unfold e_skylightref01_Size at h
  split at h
  · cases h
    cases hv
    refine ⟨rfl, by kernel_rfl, fun φ cs hl => ?_⟩
    rename_i n
    obtain ⟨h_n, _⟩ : InR .i64 n ∧ True := rngL_of _ _ True hl trivial
    exact (congrArg Tr.run (by kernel_rfl : evV Try.prog (table tab_skylightref01_Plus) 16 12 noKnown 181 [.int .i64 false n] = tr_skylightref01_Size n)).trans (run_skylightref01_Size n h_n)
  · cases h)
noncomputable def tab_skylightref01_Size : List (FuncId × Entry) := (181, e_skylightref01_Size) :: tab_skylightref01_Plus
theorem tok_skylightref01_Size : TableOk Try.prog (table tab_skylightref01_Size) := table_cons ok_skylightref01_Size tok_skylightref01_Plus

/-! skylightref01.Mul -/
def e_skylightref01_Mul : Entry := fun args => match args with | [.int .u64 false a, .int .u64 false b] => some (.leaf (.tuple [u6 (a*b/18446744073709551616), u6 (a*b%18446744073709551616)])) | _ => none
theorem ok_skylightref01_Mul : EntryOk Try.prog 180 e_skylightref01_Mul := entry_ok progOk (T := table tab_skylightref01_Size) tok_skylightref01_Size 16 12 noKnown (fun _ _ _ _ => noKnown_ok) (by
  intro args t v h hv
  unfold e_skylightref01_Mul at h
  split at h
  · cases h
    cases hv
    refine ⟨rfl, by kernel_rfl, fun φ cs hl => ?_⟩
    rename_i a b
    obtain ⟨h_a, h_b, _⟩ : InR .u64 a ∧ InR .u64 b ∧ True := rngL_of _ _ True hl trivial
    exact (congrArg Tr.run (by kernel_rfl : evV Try.prog (table tab_skylightref01_Size) 16 12 noKnown 180 [.int .u64 false a, .int .u64 false b] = tr_skylightref01_Mul a b)).trans (run_skylightref01_Mul a b h_a h_b)
  · cases h)
noncomputable def tab_skylightref01_Mul : List (FuncId × Entry) := (180, e_skylightref01_Mul) :: tab_skylightref01_Size
theorem tok_skylightref01_Mul : TableOk Try.prog (table tab_skylightref01_Mul) := table_cons ok_skylightref01_Mul tok_skylightref01_Size

/-! skylightref01.Times -/
def e_skylightref01_Times : Entry := fun args => match args with | [.int .i64 false a, .int .i64 false b] => some (.leaf (i6 (sat (a * b)))) | _ => none
theorem ok_skylightref01_Times : EntryOk Try.prog 172 e_skylightref01_Times := entry_ok progOk (T := table tab_skylightref01_Mul) tok_skylightref01_Mul 16 12 noKnown (fun _ _ _ _ => noKnown_ok) (by
  intro args t v h hv
  unfold e_skylightref01_Times at h
  split at h
  · cases h
    cases hv
    refine ⟨rfl, by kernel_rfl, fun φ cs hl => ?_⟩
    rename_i a b
    obtain ⟨h_a, h_b, _⟩ : InR .i64 a ∧ InR .i64 b ∧ True := rngL_of _ _ True hl trivial
    exact (congrArg Tr.run (by kernel_rfl : evV Try.prog (table tab_skylightref01_Mul) 16 12 noKnown 172 [.int .i64 false a, .int .i64 false b] = tr_skylightref01_Times a b)).trans (run_skylightref01_Times a b h_a h_b)
  · cases h)
noncomputable def tab_skylightref01_Times : List (FuncId × Entry) := (172, e_skylightref01_Times) :: tab_skylightref01_Mul
theorem tok_skylightref01_Times : TableOk Try.prog (table tab_skylightref01_Times) := table_cons ok_skylightref01_Times tok_skylightref01_Mul

/-! skylightref01.Div -/
def e_skylightref01_Div : Entry := fun args => match args with | [.int .i64 false a, .int .i64 false b] => some (.leaf (i6 (if 1 ≤ b then a / b else 0))) | _ => none
theorem ok_skylightref01_Div : EntryOk Try.prog 82 e_skylightref01_Div := entry_ok progOk (T := table tab_skylightref01_Times) tok_skylightref01_Times 16 12 noKnown (fun _ _ _ _ => noKnown_ok) (by
  intro args t v h hv
  unfold e_skylightref01_Div at h
  split at h
  · cases h
    cases hv
    refine ⟨rfl, by kernel_rfl, fun φ cs hl => ?_⟩
    rename_i a b
    obtain ⟨h_a, h_b, _⟩ : InR .i64 a ∧ InR .i64 b ∧ True := rngL_of _ _ True hl trivial
    exact (congrArg Tr.run (by kernel_rfl : evV Try.prog (table tab_skylightref01_Times) 16 12 noKnown 82 [.int .i64 false a, .int .i64 false b] = tr_skylightref01_Div a b)).trans (run_skylightref01_Div a b h_a h_b)
  · cases h)
noncomputable def tab_skylightref01_Div : List (FuncId × Entry) := (82, e_skylightref01_Div) :: tab_skylightref01_Times
theorem tok_skylightref01_Div : TableOk Try.prog (table tab_skylightref01_Div) := table_cons ok_skylightref01_Div tok_skylightref01_Times

/-! skylightref03.Right -/
def e_skylightref03_Right : Entry := fun args => match args with | [.agg [.int .i64 false f_n, .int .i64 false f_d]] => some (.leaf (bb (decide (f_d ≥ 1)))) | _ => none
theorem ok_skylightref03_Right : EntryOk Try.prog 64 e_skylightref03_Right := entry_ok progOk (T := table tab_skylightref01_Div) tok_skylightref01_Div 16 12 noKnown (fun _ _ _ _ => noKnown_ok) (by
  intro args t v h hv
  unfold e_skylightref03_Right at h
  split at h
  · cases h
    cases hv
    refine ⟨rfl, by kernel_rfl, fun φ cs hl => ?_⟩
    rename_i f_n f_d
    obtain ⟨h_f_n, h_f_d, _⟩ : InR .i64 f_n ∧ InR .i64 f_d ∧ True := rngL_of _ _ True hl trivial
    exact (congrArg Tr.run (by kernel_rfl : evV Try.prog (table tab_skylightref01_Div) 16 12 noKnown 64 [.agg [.int .i64 false f_n, .int .i64 false f_d]] = tr_skylightref03_Right f_n f_d)).trans (run_skylightref03_Right f_n f_d h_f_n h_f_d)
  · cases h)
noncomputable def tab_skylightref03_Right : List (FuncId × Entry) := (64, e_skylightref03_Right) :: tab_skylightref01_Div
theorem tok_skylightref03_Right : TableOk Try.prog (table tab_skylightref03_Right) := table_cons ok_skylightref03_Right tok_skylightref01_Div

/-! skylightref06.Add -/
def e_skylightref06_Add : Entry := fun args => match args with | [.agg [.int .i64 false a_x, .int .i64 false a_y, .int .i64 false a_z], .agg [.int .i64 false b_x, .int .i64 false b_y, .int .i64 false b_z]] => some (.leaf (v3 (sat (a_x + b_x)) (sat (a_y + b_y)) (sat (a_z + b_z)))) | _ => none
theorem ok_skylightref06_Add : EntryOk Try.prog 171 e_skylightref06_Add := entry_ok progOk (T := table tab_skylightref03_Right) tok_skylightref03_Right 16 12 noKnown (fun _ _ _ _ => noKnown_ok) (by
  intro args t v h hv
  unfold e_skylightref06_Add at h
  split at h
  · cases h
    cases hv
    refine ⟨rfl, by kernel_rfl, fun φ cs hl => ?_⟩
    rename_i a_x a_y a_z b_x b_y b_z
    obtain ⟨h_a_x, h_a_y, h_a_z, h_b_x, h_b_y, h_b_z, _⟩ : InR .i64 a_x ∧ InR .i64 a_y ∧ InR .i64 a_z ∧ InR .i64 b_x ∧ InR .i64 b_y ∧ InR .i64 b_z ∧ True := rngL_of _ _ True hl trivial
    exact (congrArg Tr.run (by kernel_rfl : evV Try.prog (table tab_skylightref03_Right) 16 12 noKnown 171 [.agg [.int .i64 false a_x, .int .i64 false a_y, .int .i64 false a_z], .agg [.int .i64 false b_x, .int .i64 false b_y, .int .i64 false b_z]] = tr_skylightref06_Add a_x a_y a_z b_x b_y b_z)).trans (run_skylightref06_Add a_x a_y a_z b_x b_y b_z h_a_x h_a_y h_a_z h_b_x h_b_y h_b_z)
  · cases h)
noncomputable def tab_skylightref06_Add : List (FuncId × Entry) := (171, e_skylightref06_Add) :: tab_skylightref03_Right
theorem tok_skylightref06_Add : TableOk Try.prog (table tab_skylightref06_Add) := table_cons ok_skylightref06_Add tok_skylightref03_Right

/-! skylightref06.Sub -/
def e_skylightref06_Sub : Entry := fun args => match args with | [.agg [.int .i64 false a_x, .int .i64 false a_y, .int .i64 false a_z], .agg [.int .i64 false b_x, .int .i64 false b_y, .int .i64 false b_z]] => some (.leaf (v3 (sat (a_x + sat (b_x * -1))) (sat (a_y + sat (b_y * -1))) (sat (a_z + sat (b_z * -1))))) | _ => none
theorem ok_skylightref06_Sub : EntryOk Try.prog 151 e_skylightref06_Sub := entry_ok progOk (T := table tab_skylightref06_Add) tok_skylightref06_Add 16 12 noKnown (fun _ _ _ _ => noKnown_ok) (by
  intro args t v h hv
  unfold e_skylightref06_Sub at h
  split at h
  · cases h
    cases hv
    refine ⟨rfl, by kernel_rfl, fun φ cs hl => ?_⟩
    rename_i a_x a_y a_z b_x b_y b_z
    obtain ⟨h_a_x, h_a_y, h_a_z, h_b_x, h_b_y, h_b_z, _⟩ : InR .i64 a_x ∧ InR .i64 a_y ∧ InR .i64 a_z ∧ InR .i64 b_x ∧ InR .i64 b_y ∧ InR .i64 b_z ∧ True := rngL_of _ _ True hl trivial
    exact (congrArg Tr.run (by kernel_rfl : evV Try.prog (table tab_skylightref06_Add) 16 12 noKnown 151 [.agg [.int .i64 false a_x, .int .i64 false a_y, .int .i64 false a_z], .agg [.int .i64 false b_x, .int .i64 false b_y, .int .i64 false b_z]] = tr_skylightref06_Sub a_x a_y a_z b_x b_y b_z)).trans (run_skylightref06_Sub a_x a_y a_z b_x b_y b_z h_a_x h_a_y h_a_z h_b_x h_b_y h_b_z)
  · cases h)
noncomputable def tab_skylightref06_Sub : List (FuncId × Entry) := (151, e_skylightref06_Sub) :: tab_skylightref06_Add
theorem tok_skylightref06_Sub : TableOk Try.prog (table tab_skylightref06_Sub) := table_cons ok_skylightref06_Sub tok_skylightref06_Add

/-! skylightref06.Dot -/
def e_skylightref06_Dot : Entry := fun args => match args with | [.agg [.int .i64 false a_x, .int .i64 false a_y, .int .i64 false a_z], .agg [.int .i64 false b_x, .int .i64 false b_y, .int .i64 false b_z]] => some (.leaf (i6 (dotN a_x a_y a_z b_x b_y b_z))) | _ => none
theorem ok_skylightref06_Dot : EntryOk Try.prog 12 e_skylightref06_Dot := entry_ok progOk (T := table tab_skylightref06_Sub) tok_skylightref06_Sub 16 12 noKnown (fun _ _ _ _ => noKnown_ok) (by
  intro args t v h hv
  unfold e_skylightref06_Dot at h
  split at h
  · cases h
    cases hv
    refine ⟨rfl, by kernel_rfl, fun φ cs hl => ?_⟩
    rename_i a_x a_y a_z b_x b_y b_z
    obtain ⟨h_a_x, h_a_y, h_a_z, h_b_x, h_b_y, h_b_z, _⟩ : InR .i64 a_x ∧ InR .i64 a_y ∧ InR .i64 a_z ∧ InR .i64 b_x ∧ InR .i64 b_y ∧ InR .i64 b_z ∧ True := rngL_of _ _ True hl trivial
    exact (congrArg Tr.run (by kernel_rfl : evV Try.prog (table tab_skylightref06_Sub) 16 12 noKnown 12 [.agg [.int .i64 false a_x, .int .i64 false a_y, .int .i64 false a_z], .agg [.int .i64 false b_x, .int .i64 false b_y, .int .i64 false b_z]] = tr_skylightref06_Dot a_x a_y a_z b_x b_y b_z)).trans (run_skylightref06_Dot a_x a_y a_z b_x b_y b_z h_a_x h_a_y h_a_z h_b_x h_b_y h_b_z)
  · cases h)
noncomputable def tab_skylightref06_Dot : List (FuncId × Entry) := (12, e_skylightref06_Dot) :: tab_skylightref06_Sub
theorem tok_skylightref06_Dot : TableOk Try.prog (table tab_skylightref06_Dot) := table_cons ok_skylightref06_Dot tok_skylightref06_Sub

/-! skylightref06.Cross -/
def e_skylightref06_Cross : Entry := fun args => match args with | [.agg [.int .i64 false a_x, .int .i64 false a_y, .int .i64 false a_z], .agg [.int .i64 false b_x, .int .i64 false b_y, .int .i64 false b_z]] => some (.leaf (v3 (crN a_y a_z b_y b_z a_x b_x) (crN a_z a_x b_z b_x a_y b_y) (crN a_x a_y b_x b_y a_z b_z))) | _ => none
theorem ok_skylightref06_Cross : EntryOk Try.prog 150 e_skylightref06_Cross := entry_ok progOk (T := table tab_skylightref06_Dot) tok_skylightref06_Dot 16 12 noKnown (fun _ _ _ _ => noKnown_ok) (by
  intro args t v h hv
  unfold e_skylightref06_Cross at h
  split at h
  · cases h
    cases hv
    refine ⟨rfl, by kernel_rfl, fun φ cs hl => ?_⟩
    rename_i a_x a_y a_z b_x b_y b_z
    obtain ⟨h_a_x, h_a_y, h_a_z, h_b_x, h_b_y, h_b_z, _⟩ : InR .i64 a_x ∧ InR .i64 a_y ∧ InR .i64 a_z ∧ InR .i64 b_x ∧ InR .i64 b_y ∧ InR .i64 b_z ∧ True := rngL_of _ _ True hl trivial
    exact (congrArg Tr.run (by kernel_rfl : evV Try.prog (table tab_skylightref06_Dot) 16 12 noKnown 150 [.agg [.int .i64 false a_x, .int .i64 false a_y, .int .i64 false a_z], .agg [.int .i64 false b_x, .int .i64 false b_y, .int .i64 false b_z]] = tr_skylightref06_Cross a_x a_y a_z b_x b_y b_z)).trans (run_skylightref06_Cross a_x a_y a_z b_x b_y b_z h_a_x h_a_y h_a_z h_b_x h_b_y h_b_z)
  · cases h)
noncomputable def tab_skylightref06_Cross : List (FuncId × Entry) := (150, e_skylightref06_Cross) :: tab_skylightref06_Dot
theorem tok_skylightref06_Cross : TableOk Try.prog (table tab_skylightref06_Cross) := table_cons ok_skylightref06_Cross tok_skylightref06_Dot

/-! skylightref06.Len -/
def e_skylightref06_Len : Entry := fun args => match args with | [.agg [.int .i64 false v_x, .int .i64 false v_y, .int .i64 false v_z]] => some (.leaf (i6 (isq (dotN v_x v_y v_z v_x v_y v_z)))) | _ => none
theorem ok_skylightref06_Len : EntryOk Try.prog 13 e_skylightref06_Len := entry_ok progOk (T := table tab_skylightref06_Cross) tok_skylightref06_Cross 16 12 noKnown (fun _ _ _ _ => noKnown_ok) (by
  intro args t v h hv
  unfold e_skylightref06_Len at h
  split at h
  · cases h
    cases hv
    refine ⟨rfl, by kernel_rfl, fun φ cs hl => ?_⟩
    rename_i v_x v_y v_z
    obtain ⟨h_v_x, h_v_y, h_v_z, _⟩ : InR .i64 v_x ∧ InR .i64 v_y ∧ InR .i64 v_z ∧ True := rngL_of _ _ True hl trivial
    exact (congrArg Tr.run (by kernel_rfl : evV Try.prog (table tab_skylightref06_Cross) 16 12 noKnown 13 [.agg [.int .i64 false v_x, .int .i64 false v_y, .int .i64 false v_z]] = tr_skylightref06_Len v_x v_y v_z)).trans (run_skylightref06_Len v_x v_y v_z h_v_x h_v_y h_v_z)
  · cases h)
noncomputable def tab_skylightref06_Len : List (FuncId × Entry) := (13, e_skylightref06_Len) :: tab_skylightref06_Cross
theorem tok_skylightref06_Len : TableOk Try.prog (table tab_skylightref06_Len) := table_cons ok_skylightref06_Len tok_skylightref06_Cross

/-! skylightref06.toward -/
def e_skylightref06_toward : Entry := fun args => match args with | [.int .i64 false a, .int .i64 false b] => some (.leaf (i6 (towS a b))) | _ => none
theorem ok_skylightref06_toward : EntryOk Try.prog 41 e_skylightref06_toward := entry_ok progOk (T := table tab_skylightref06_Len) tok_skylightref06_Len 16 12 noKnown (fun _ _ _ _ => noKnown_ok) (by
  intro args t v h hv
  unfold e_skylightref06_toward at h
  split at h
  · cases h
    cases hv
    refine ⟨rfl, by kernel_rfl, fun φ cs hl => ?_⟩
    rename_i a b
    obtain ⟨h_a, h_b, _⟩ : InR .i64 a ∧ InR .i64 b ∧ True := rngL_of _ _ True hl trivial
    exact (congrArg Tr.run (by kernel_rfl : evV Try.prog (table tab_skylightref06_Len) 16 12 noKnown 41 [.int .i64 false a, .int .i64 false b] = tr_skylightref06_toward a b)).trans (run_skylightref06_toward a b h_a h_b)
  · cases h)
noncomputable def tab_skylightref06_toward : List (FuncId × Entry) := (41, e_skylightref06_toward) :: tab_skylightref06_Len
theorem tok_skylightref06_toward : TableOk Try.prog (table tab_skylightref06_toward) := table_cons ok_skylightref06_toward tok_skylightref06_Len

/-! vec.Scale -/
def e_vec_Scale : Entry := fun args => match args with | [.agg [.int .i64 false v_x, .int .i64 false v_y, .int .i64 false v_z], .agg [.int .i64 false f_n, .int .i64 false f_d]] => some (.leaf (v3 (atF v_x f_n f_d) (atF v_y f_n f_d) (atF v_z f_n f_d))) | _ => none
theorem ok_vec_Scale : EntryOk Try.prog 50 e_vec_Scale := entry_ok progOk (T := table tab_skylightref06_toward) tok_skylightref06_toward 16 12 noKnown (fun _ _ _ _ => noKnown_ok) (by
  intro args t v h hv
  unfold e_vec_Scale at h
  split at h
  · cases h
    cases hv
    refine ⟨rfl, by kernel_rfl, fun φ cs hl => ?_⟩
    rename_i v_x v_y v_z f_n f_d
    obtain ⟨h_v_x, h_v_y, h_v_z, h_f_n, h_f_d, _⟩ : InR .i64 v_x ∧ InR .i64 v_y ∧ InR .i64 v_z ∧ InR .i64 f_n ∧ InR .i64 f_d ∧ True := rngL_of _ _ True hl trivial
    exact (congrArg Tr.run (by kernel_rfl : evV Try.prog (table tab_skylightref06_toward) 16 12 noKnown 50 [.agg [.int .i64 false v_x, .int .i64 false v_y, .int .i64 false v_z], .agg [.int .i64 false f_n, .int .i64 false f_d]] = tr_vec_Scale v_x v_y v_z f_n f_d)).trans (run_vec_Scale v_x v_y v_z f_n f_d h_v_x h_v_y h_v_z h_f_n h_f_d)
  · cases h)
noncomputable def tab_vec_Scale : List (FuncId × Entry) := (50, e_vec_Scale) :: tab_skylightref06_toward
theorem tok_vec_Scale : TableOk Try.prog (table tab_vec_Scale) := table_cons ok_vec_Scale tok_skylightref06_toward

end Go.Proofs.Ytpljpbmkklcbkaa

/- Entries of the table: what functions give. -/
set_option linter.unusedSimpArgs false
set_option linter.unusedVariables false
namespace Go.Proofs.Ytpljpbmkklcbkaa
open Go Go.Sky
set_option maxRecDepth 100000

end Go.Proofs.Ytpljpbmkklcbkaa

/- Entries of the table: what functions give. -/
set_option linter.unusedSimpArgs false
set_option linter.unusedVariables false
namespace Go.Proofs.Ytpljpbmkklcbkaa
open Go Go.Sky
set_option maxRecDepth 100000

/-! skylightref06.within -/
def e_skylightref06_within : Entry := fun args => match args with | [.agg [.int .i64 false v_x, .int .i64 false v_y, .int .i64 false v_z], .int .i64 false n] => some (.node (decide (-9223372036854775808 < n)) (.leaf (bb (decide ((-n ≤ v_x ∧ v_x ≤ n) ∧ (-n ≤ v_y ∧ v_y ≤ n) ∧ (-n ≤ v_z ∧ v_z ≤ n))))) .bad) | _ => none
theorem ok_skylightref06_within : EntryOk Try.prog 39 e_skylightref06_within := entry_ok progOk (T := table tab_vec_Scale) tok_vec_Scale 16 12 noKnown (fun _ _ _ _ => noKnown_ok) (by
  intro args t v h hv
  unfold e_skylightref06_within at h
  split at h
  · cases h
    simp only [Tr.run] at hv
    split at hv
    rotate_left
    · cases hv
    rename_i hpre0
    have hpre := of_decide_eq_true hpre0
    cases hv
    refine ⟨rfl, by kernel_rfl, fun φ cs hl => ?_⟩
    rename_i v_x v_y v_z n
    obtain ⟨h_v_x, h_v_y, h_v_z, h_n, _⟩ : InR .i64 v_x ∧ InR .i64 v_y ∧ InR .i64 v_z ∧ InR .i64 n ∧ True := rngL_of _ _ True hl trivial
    exact (congrArg Tr.run (by kernel_rfl : evV Try.prog (table tab_vec_Scale) 16 12 noKnown 39 [.agg [.int .i64 false v_x, .int .i64 false v_y, .int .i64 false v_z], .int .i64 false n] = tr_skylightref06_within v_x v_y v_z n)).trans (run_skylightref06_within v_x v_y v_z n h_v_x h_v_y h_v_z h_n hpre)
  · cases h)
noncomputable def tab_skylightref06_within : List (FuncId × Entry) := (39, e_skylightref06_within) :: tab_vec_Scale
theorem tok_skylightref06_within : TableOk Try.prog (table tab_skylightref06_within) := table_cons ok_skylightref06_within tok_vec_Scale

end Go.Proofs.Ytpljpbmkklcbkaa

/- Entries of the table: what functions give. -/
set_option linter.unusedSimpArgs false
set_option linter.unusedVariables false
namespace Go.Proofs.Ytpljpbmkklcbkaa
open Go Go.Sky
set_option maxRecDepth 100000

/-! skylightref06.Even -/
def e_skylightref06_Even : Entry := fun args => match args with | [.agg [.int .i64 false v_x, .int .i64 false v_y, .int .i64 false v_z]] => some (.node (decide (1 ≤ mostI v_x v_y v_z ∧ mostI v_x v_y v_z ≤ 4611686018427387904)) (.leaf (v3 (nrm v_x v_y v_z v_x) (nrm v_x v_y v_z v_y) (nrm v_x v_y v_z v_z))) .bad) | _ => none
noncomputable def O_skylightref06_Even_0 : Known := known 0 (piece Try.prog (table tab_skylightref06_within) noKnown 40 0 29 [3, 4, 5, 6, 7, 8, 9, 10, 11, 12, 13, 14] [1] g_skylightref06_Even_0) noKnown
theorem O_skylightref06_Even_0_ok : ∀ fn c, Try.prog.funcs[40]? = some fn → fn.body = some c → KnownOk Try.prog O_skylightref06_Even_0 (blocksOf c) :=
  known_ok (by kernel_rfl) (piece_wp progOk tok_skylightref06_within (known_in (by kernel_rfl) (fun _ _ _ _ => noKnown_ok)) (piece_skylightref06_Even_0 (by kernel_rfl) (by kernel_rfl) (fun L t_x t_y t_z q_x q_y q_z x0 x2 x3 x4 x5 x6 x7 x8 x9 x10 x11 x12 x13 x14 x15 x16 x17 x18 x19 x20 x21 x22 x23 x24 x25 x26 x27 x28 => by kernel_rfl))) (fun _ _ _ _ => noKnown_ok)
noncomputable def O_skylightref06_Even_2 : Known := known 2 (piece Try.prog (table tab_skylightref06_within) O_skylightref06_Even_0 40 2 29 [15, 16, 17, 18, 19, 20, 21, 22, 23, 24, 25, 26, 27] [1] g_skylightref06_Even_2) O_skylightref06_Even_0
theorem O_skylightref06_Even_2_ok : ∀ fn c, Try.prog.funcs[40]? = some fn → fn.body = some c → KnownOk Try.prog O_skylightref06_Even_2 (blocksOf c) :=
  known_ok (by kernel_rfl) (piece_wp progOk tok_skylightref06_within (known_in (by kernel_rfl) O_skylightref06_Even_0_ok) (piece_skylightref06_Even_2 (by kernel_rfl) (by kernel_rfl) (fun L t_x t_y t_z q_x q_y q_z x0 x2 x3 x4 x5 x6 x7 x8 x9 x10 x11 x12 x13 x14 x15 x16 x17 x18 x19 x20 x21 x22 x23 x24 x25 x26 x27 x28 => by kernel_rfl))) O_skylightref06_Even_0_ok
theorem ok_skylightref06_Even : EntryOk Try.prog 40 e_skylightref06_Even := entry_ok progOk (T := table tab_skylightref06_within) tok_skylightref06_within 16 12 O_skylightref06_Even_2 O_skylightref06_Even_2_ok (by
  intro args t v h hv
  unfold e_skylightref06_Even at h
  split at h
  · cases h
    simp only [Tr.run] at hv
    split at hv
    rotate_left
    · cases hv
    rename_i hpre0
    have hpre := of_decide_eq_true hpre0
    cases hv
    refine ⟨rfl, by kernel_rfl, fun φ cs hl => ?_⟩
    rename_i v_x v_y v_z
    obtain ⟨h_v_x, h_v_y, h_v_z, _⟩ : InR .i64 v_x ∧ InR .i64 v_y ∧ InR .i64 v_z ∧ True := rngL_of _ _ True hl trivial
    exact (congrArg Tr.run (by kernel_rfl : evV Try.prog (table tab_skylightref06_within) 16 12 O_skylightref06_Even_2 40 [.agg [.int .i64 false v_x, .int .i64 false v_y, .int .i64 false v_z]] = tr_skylightref06_Even v_x v_y v_z)).trans (run_skylightref06_Even v_x v_y v_z h_v_x h_v_y h_v_z hpre)
  · cases h)
noncomputable def tab_skylightref06_Even : List (FuncId × Entry) := (40, e_skylightref06_Even) :: tab_skylightref06_within
theorem tok_skylightref06_Even : TableOk Try.prog (table tab_skylightref06_Even) := table_cons ok_skylightref06_Even tok_skylightref06_within

/-! skylightref06.Unit -/
def e_skylightref06_Unit : Entry := fun args => match args with | [.agg [.int .i64 false v_x, .int .i64 false v_y, .int .i64 false v_z]] => some (.leaf (.tuple [v3 (unitC v_x v_y v_z v_x) (unitC v_x v_y v_z v_y) (unitC v_x v_y v_z v_z), bb (okU v_x v_y v_z)])) | _ => none
theorem ok_skylightref06_Unit : EntryOk Try.prog 8 e_skylightref06_Unit := entry_ok progOk (T := table tab_skylightref06_Even) tok_skylightref06_Even 16 12 noKnown (fun _ _ _ _ => noKnown_ok) (by
  intro args t v h hv
  unfold e_skylightref06_Unit at h
  split at h
  · cases h
    cases hv
    refine ⟨rfl, by kernel_rfl, fun φ cs hl => ?_⟩
    rename_i v_x v_y v_z
    obtain ⟨h_v_x, h_v_y, h_v_z, _⟩ : InR .i64 v_x ∧ InR .i64 v_y ∧ InR .i64 v_z ∧ True := rngL_of _ _ True hl trivial
    exact (congrArg Tr.run (by kernel_rfl : evV Try.prog (table tab_skylightref06_Even) 16 12 noKnown 8 [.agg [.int .i64 false v_x, .int .i64 false v_y, .int .i64 false v_z]] = tr_skylightref06_Unit v_x v_y v_z)).trans (run_skylightref06_Unit v_x v_y v_z h_v_x h_v_y h_v_z)
  · cases h)
noncomputable def tab_skylightref06_Unit : List (FuncId × Entry) := (8, e_skylightref06_Unit) :: tab_skylightref06_Even
theorem tok_skylightref06_Unit : TableOk Try.prog (table tab_skylightref06_Unit) := table_cons ok_skylightref06_Unit tok_skylightref06_Even

end Go.Proofs.Ytpljpbmkklcbkaa

/- Entries of the table: what functions give. -/
set_option linter.unusedSimpArgs false
set_option linter.unusedVariables false
namespace Go.Proofs.Ytpljpbmkklcbkaa
open Go Go.Sky
set_option maxRecDepth 100000

/-! num.Div -/
def e_num_Div : Entry := fun args => match args with | [.int .i64 false a, .int .i64 false b] => some (.leaf (i6 (dv a b))) | _ => none
theorem ok_num_Div : EntryOk Try.prog 87 e_num_Div := entry_ok progOk (T := table tab_skylightref06_Unit) tok_skylightref06_Unit 16 12 noKnown (fun _ _ _ _ => noKnown_ok) (by
  intro args t v h hv
  unfold e_num_Div at h
  split at h
  · cases h
    cases hv
    refine ⟨rfl, by kernel_rfl, fun φ cs hl => ?_⟩
    rename_i a b
    obtain ⟨h_a, h_b, _⟩ : InR .i64 a ∧ InR .i64 b ∧ True := rngL_of _ _ True hl trivial
    exact (congrArg Tr.run (by kernel_rfl : evV Try.prog (table tab_skylightref06_Unit) 16 12 noKnown 87 [.int .i64 false a, .int .i64 false b] = tr_num_Div a b)).trans (run_num_Div a b h_a h_b)
  · cases h)
noncomputable def tab_num_Div : List (FuncId × Entry) := (87, e_num_Div) :: tab_skylightref06_Unit
theorem tok_num_Div : TableOk Try.prog (table tab_num_Div) := table_cons ok_num_Div tok_skylightref06_Unit

/-! num.Hold -/
def e_num_Hold : Entry := fun args => match args with | [.int .i64 false n, .int .i64 false low, .int .i64 false high] => some (.leaf (i6 (hold n low high))) | _ => none
theorem ok_num_Hold : EntryOk Try.prog 86 e_num_Hold := entry_ok progOk (T := table tab_num_Div) tok_num_Div 16 12 noKnown (fun _ _ _ _ => noKnown_ok) (by
  intro args t v h hv
  unfold e_num_Hold at h
  split at h
  · cases h
    cases hv
    refine ⟨rfl, by kernel_rfl, fun φ cs hl => ?_⟩
    rename_i n low high
    obtain ⟨h_n, h_low, h_high, _⟩ : InR .i64 n ∧ InR .i64 low ∧ InR .i64 high ∧ True := rngL_of _ _ True hl trivial
    exact (congrArg Tr.run (by kernel_rfl : evV Try.prog (table tab_num_Div) 16 12 noKnown 86 [.int .i64 false n, .int .i64 false low, .int .i64 false high] = tr_num_Hold n low high)).trans (run_num_Hold n low high h_n h_low h_high)
  · cases h)
noncomputable def tab_num_Hold : List (FuncId × Entry) := (86, e_num_Hold) :: tab_num_Div
theorem tok_num_Hold : TableOk Try.prog (table tab_num_Hold) := table_cons ok_num_Hold tok_num_Div

/-! basis.Facing -/
def e_basis_Facing : Entry := fun args => match args with | [.agg [.int .i64 false n_x, .int .i64 false n_y, .int .i64 false n_z], .agg [.int .i64 false d_x, .int .i64 false d_y, .int .i64 false d_z]] => some (.leaf (v3 (facC n_x n_x n_y n_z d_x d_y d_z) (facC n_y n_x n_y n_z d_x d_y d_z) (facC n_z n_x n_y n_z d_x d_y d_z))) | _ => none
theorem ok_basis_Facing : EntryOk Try.prog 85 e_basis_Facing := entry_ok progOk (T := table tab_num_Hold) tok_num_Hold 16 12 noKnown (fun _ _ _ _ => noKnown_ok) (by
  intro args t v h hv
  unfold e_basis_Facing at h
  split at h
  · cases h
    cases hv
    refine ⟨rfl, by kernel_rfl, fun φ cs hl => ?_⟩
    rename_i n_x n_y n_z d_x d_y d_z
    obtain ⟨h_n_x, h_n_y, h_n_z, h_d_x, h_d_y, h_d_z, _⟩ : InR .i64 n_x ∧ InR .i64 n_y ∧ InR .i64 n_z ∧ InR .i64 d_x ∧ InR .i64 d_y ∧ InR .i64 d_z ∧ True := rngL_of _ _ True hl trivial
    exact (congrArg Tr.run (by kernel_rfl : evV Try.prog (table tab_num_Hold) 16 12 noKnown 85 [.agg [.int .i64 false n_x, .int .i64 false n_y, .int .i64 false n_z], .agg [.int .i64 false d_x, .int .i64 false d_y, .int .i64 false d_z]] = tr_basis_Facing n_x n_y n_z d_x d_y d_z)).trans (run_basis_Facing n_x n_y n_z d_x d_y d_z h_n_x h_n_y h_n_z h_d_x h_d_y h_d_z)
  · cases h)
noncomputable def tab_basis_Facing : List (FuncId × Entry) := (85, e_basis_Facing) :: tab_num_Hold
theorem tok_basis_Facing : TableOk Try.prog (table tab_basis_Facing) := table_cons ok_basis_Facing tok_num_Hold

/-! skylightref07.Facing -/
def e_skylightref07_Facing : Entry := fun args => match args with | [.agg [.int .i64 false n_x, .int .i64 false n_y, .int .i64 false n_z], .agg [.int .i64 false d_x, .int .i64 false d_y, .int .i64 false d_z]] => some (.leaf (v3 (facC n_x n_x n_y n_z d_x d_y d_z) (facC n_y n_x n_y n_z d_x d_y d_z) (facC n_z n_x n_y n_z d_x d_y d_z))) | _ => none
theorem ok_skylightref07_Facing : EntryOk Try.prog 10 e_skylightref07_Facing := entry_ok progOk (T := table tab_basis_Facing) tok_basis_Facing 16 12 noKnown (fun _ _ _ _ => noKnown_ok) (by
  intro args t v h hv
  unfold e_skylightref07_Facing at h
  split at h
  · cases h
    cases hv
    refine ⟨rfl, by kernel_rfl, fun φ cs hl => ?_⟩
    rename_i n_x n_y n_z d_x d_y d_z
    obtain ⟨h_n_x, h_n_y, h_n_z, h_d_x, h_d_y, h_d_z, _⟩ : InR .i64 n_x ∧ InR .i64 n_y ∧ InR .i64 n_z ∧ InR .i64 d_x ∧ InR .i64 d_y ∧ InR .i64 d_z ∧ True := rngL_of _ _ True hl trivial
    exact (congrArg Tr.run (by kernel_rfl : evV Try.prog (table tab_basis_Facing) 16 12 noKnown 10 [.agg [.int .i64 false n_x, .int .i64 false n_y, .int .i64 false n_z], .agg [.int .i64 false d_x, .int .i64 false d_y, .int .i64 false d_z]] = tr_skylightref07_Facing n_x n_y n_z d_x d_y d_z)).trans (run_skylightref07_Facing n_x n_y n_z d_x d_y d_z h_n_x h_n_y h_n_z h_d_x h_d_y h_d_z)
  · cases h)
noncomputable def tab_skylightref07_Facing : List (FuncId × Entry) := (10, e_skylightref07_Facing) :: tab_basis_Facing
theorem tok_skylightref07_Facing : TableOk Try.prog (table tab_skylightref07_Facing) := table_cons ok_skylightref07_Facing tok_basis_Facing

/-! bend.Back -/
def e_bend_Back : Entry := fun args => match args with | [.int .i64 false c, .int .i64 false n] => some (.leaf (i6 (backN c n))) | _ => none
theorem ok_bend_Back : EntryOk Try.prog 42 e_bend_Back := entry_ok progOk (T := table tab_skylightref07_Facing) tok_skylightref07_Facing 16 12 noKnown (fun _ _ _ _ => noKnown_ok) (by
  intro args t v h hv
  unfold e_bend_Back at h
  split at h
  · cases h
    cases hv
    refine ⟨rfl, by kernel_rfl, fun φ cs hl => ?_⟩
    rename_i c n
    obtain ⟨h_c, h_n, _⟩ : InR .i64 c ∧ InR .i64 n ∧ True := rngL_of _ _ True hl trivial
    exact (congrArg Tr.run (by kernel_rfl : evV Try.prog (table tab_skylightref07_Facing) 16 12 noKnown 42 [.int .i64 false c, .int .i64 false n] = tr_bend_Back c n)).trans (run_bend_Back c n h_c h_n)
  · cases h)
noncomputable def tab_bend_Back : List (FuncId × Entry) := (42, e_bend_Back) :: tab_skylightref07_Facing
theorem tok_bend_Back : TableOk Try.prog (table tab_bend_Back) := table_cons ok_bend_Back tok_skylightref07_Facing

/-! bend.Cos -/
def e_bend_Cos : Entry := fun args => match args with | [.agg [.int .i64 false n_x, .int .i64 false n_y, .int .i64 false n_z], .agg [.int .i64 false d_x, .int .i64 false d_y, .int .i64 false d_z]] => some (.leaf (i6 (cosN n_x n_y n_z d_x d_y d_z))) | _ => none
theorem ok_bend_Cos : EntryOk Try.prog 14 e_bend_Cos := entry_ok progOk (T := table tab_bend_Back) tok_bend_Back 16 12 noKnown (fun _ _ _ _ => noKnown_ok) (by
  intro args t v h hv
  unfold e_bend_Cos at h
  split at h
  · cases h
    cases hv
    refine ⟨rfl, by kernel_rfl, fun φ cs hl => ?_⟩
    rename_i n_x n_y n_z d_x d_y d_z
    obtain ⟨h_n_x, h_n_y, h_n_z, h_d_x, h_d_y, h_d_z, _⟩ : InR .i64 n_x ∧ InR .i64 n_y ∧ InR .i64 n_z ∧ InR .i64 d_x ∧ InR .i64 d_y ∧ InR .i64 d_z ∧ True := rngL_of _ _ True hl trivial
    exact (congrArg Tr.run (by kernel_rfl : evV Try.prog (table tab_bend_Back) 16 12 noKnown 14 [.agg [.int .i64 false n_x, .int .i64 false n_y, .int .i64 false n_z], .agg [.int .i64 false d_x, .int .i64 false d_y, .int .i64 false d_z]] = tr_bend_Cos n_x n_y n_z d_x d_y d_z)).trans (run_bend_Cos n_x n_y n_z d_x d_y d_z h_n_x h_n_y h_n_z h_d_x h_d_y h_d_z)
  · cases h)
noncomputable def tab_bend_Cos : List (FuncId × Entry) := (14, e_bend_Cos) :: tab_bend_Back
theorem tok_bend_Cos : TableOk Try.prog (table tab_bend_Cos) := table_cons ok_bend_Cos tok_bend_Back

/-! bend.Sine -/
def e_bend_Sine : Entry := fun args => match args with | [.int .i64 false c, .int .i64 false a, .int .i64 false b] => some (.leaf (i6 (sineN c a b))) | _ => none
theorem ok_bend_Sine : EntryOk Try.prog 46 e_bend_Sine := entry_ok progOk (T := table tab_bend_Cos) tok_bend_Cos 16 12 noKnown (fun _ _ _ _ => noKnown_ok) (by
  intro args t v h hv
  unfold e_bend_Sine at h
  split at h
  · cases h
    cases hv
    refine ⟨rfl, by kernel_rfl, fun φ cs hl => ?_⟩
    rename_i c a b
    obtain ⟨h_c, h_a, h_b, _⟩ : InR .i64 c ∧ InR .i64 a ∧ InR .i64 b ∧ True := rngL_of _ _ True hl trivial
    exact (congrArg Tr.run (by kernel_rfl : evV Try.prog (table tab_bend_Cos) 16 12 noKnown 46 [.int .i64 false c, .int .i64 false a, .int .i64 false b] = tr_bend_Sine c a b)).trans (run_bend_Sine c a b h_c h_a h_b)
  · cases h)
noncomputable def tab_bend_Sine : List (FuncId × Entry) := (46, e_bend_Sine) :: tab_bend_Cos
theorem tok_bend_Sine : TableOk Try.prog (table tab_bend_Sine) := table_cons ok_bend_Sine tok_bend_Cos

/-! bend.Bend -/
def e_bend_Bend : Entry := fun args => match args with | [.agg [.int .i64 false d_x, .int .i64 false d_y, .int .i64 false d_z], .agg [.int .i64 false n_x, .int .i64 false n_y, .int .i64 false n_z], .int .i64 false a, .int .i64 false b] => some (.leaf (.tuple [v3 (bendU (bndC d_x n_x d_x d_y d_z n_x n_y n_z a b) d_x d_y d_z n_x n_y n_z a b) (bendU (bndC d_y n_y d_x d_y d_z n_x n_y n_z a b) d_x d_y d_z n_x n_y n_z a b) (bendU (bndC d_z n_z d_x d_y d_z n_x n_y n_z a b) d_x d_y d_z n_x n_y n_z a b), bb (bendIs d_x d_y d_z n_x n_y n_z a b)])) | _ => none
theorem ok_bend_Bend : EntryOk Try.prog 11 e_bend_Bend := entry_ok progOk (T := table tab_bend_Sine) tok_bend_Sine 16 12 noKnown (fun _ _ _ _ => noKnown_ok) (by
  intro args t v h hv
  unfold e_bend_Bend at h
  split at h
  · cases h
    cases hv
    refine ⟨rfl, by kernel_rfl, fun φ cs hl => ?_⟩
    rename_i d_x d_y d_z n_x n_y n_z a b
    obtain ⟨h_d_x, h_d_y, h_d_z, h_n_x, h_n_y, h_n_z, h_a, h_b, _⟩ : InR .i64 d_x ∧ InR .i64 d_y ∧ InR .i64 d_z ∧ InR .i64 n_x ∧ InR .i64 n_y ∧ InR .i64 n_z ∧ InR .i64 a ∧ InR .i64 b ∧ True := rngL_of _ _ True hl trivial
    exact (congrArg Tr.run (by kernel_rfl : evV Try.prog (table tab_bend_Sine) 16 12 noKnown 11 [.agg [.int .i64 false d_x, .int .i64 false d_y, .int .i64 false d_z], .agg [.int .i64 false n_x, .int .i64 false n_y, .int .i64 false n_z], .int .i64 false a, .int .i64 false b] = tr_bend_Bend d_x d_y d_z n_x n_y n_z a b)).trans (run_bend_Bend d_x d_y d_z n_x n_y n_z a b h_d_x h_d_y h_d_z h_n_x h_n_y h_n_z h_a h_b)
  · cases h)
noncomputable def tab_bend_Bend : List (FuncId × Entry) := (11, e_bend_Bend) :: tab_bend_Sine
theorem tok_bend_Bend : TableOk Try.prog (table tab_bend_Bend) := table_cons ok_bend_Bend tok_bend_Sine

end Go.Proofs.Ytpljpbmkklcbkaa

/- Entries of the table: what functions give. -/
set_option linter.unusedSimpArgs false
set_option linter.unusedVariables false
namespace Go.Proofs.Ytpljpbmkklcbkaa
open Go Go.Sky
set_option maxRecDepth 100000

/-! skylightlaw24.BendThrough -/
def e_skylightlaw24_BendThrough : Entry := fun args => match args with | [.agg [.int .i64 false v_x, .int .i64 false v_y, .int .i64 false v_z], .agg [.int .i64 false w_x, .int .i64 false w_y, .int .i64 false w_z], .int .u16 false n, .int .u16 false m] => some (.leaf (bb true)) | _ => none
theorem ok_skylightlaw24_BendThrough : EntryOk Try.prog 3 e_skylightlaw24_BendThrough := entry_ok progOk (T := table tab_bend_Bend) tok_bend_Bend 16 12 noKnown (fun _ _ _ _ => noKnown_ok) (by
  intro args t v h hv
  unfold e_skylightlaw24_BendThrough at h
  split at h
  · cases h
    cases hv
    refine ⟨rfl, by kernel_rfl, fun φ cs hl => ?_⟩
    rename_i v_x v_y v_z w_x w_y w_z n m
    obtain ⟨h_v_x, h_v_y, h_v_z, h_w_x, h_w_y, h_w_z, h_n, h_m, _⟩ : InR .i64 v_x ∧ InR .i64 v_y ∧ InR .i64 v_z ∧ InR .i64 w_x ∧ InR .i64 w_y ∧ InR .i64 w_z ∧ InR .u16 n ∧ InR .u16 m ∧ True := rngL_of _ _ True hl trivial
    exact (congrArg Tr.run (by kernel_rfl : evV Try.prog (table tab_bend_Bend) 16 12 noKnown 3 [.agg [.int .i64 false v_x, .int .i64 false v_y, .int .i64 false v_z], .agg [.int .i64 false w_x, .int .i64 false w_y, .int .i64 false w_z], .int .u16 false n, .int .u16 false m] = tr_skylightlaw24_BendThrough v_x v_y v_z w_x w_y w_z n m)).trans (run_skylightlaw24_BendThrough v_x v_y v_z w_x w_y w_z n m h_v_x h_v_y h_v_z h_w_x h_w_y h_w_z h_n h_m)
  · cases h)
noncomputable def tab_skylightlaw24_BendThrough : List (FuncId × Entry) := (3, e_skylightlaw24_BendThrough) :: tab_bend_Bend
theorem tok_skylightlaw24_BendThrough : TableOk Try.prog (table tab_skylightlaw24_BendThrough) := table_cons ok_skylightlaw24_BendThrough tok_bend_Bend

end Go.Proofs.Ytpljpbmkklcbkaa
