/-
  No cell of these rows narrows 'for every input' (looked for: loops, veiled, ifaces, maps, wideKeys, modest, calm, conditions, laid).
  DERIVED. THE GIVEN ROWS OF THIS SEAT. 5 by the template 'for every input the law returns true; each argument reads behind the call as it read before'; 0 by the template 'total and deterministic' (their statements: YtpljpbmkklcbkaaTotals.lean).
  GIVEN WITH THE SEED: the statements are not yours to turn. If you find one false, say at which input.
  Laid BY PROGRAM, IN A SANDBOX (cutbox-rows.mjs): the forced cells as the released guide's own fill.sh prints them over the translation d71ead3b6264e227… (all of the seat's roots in one cut). By AI agents, Wed Nov 11 2026. No macro, syntax, notation, axiom, sorry.
-/
import Derived.Test.YtpljpbmkklcbkaaChecked
import GoSem.Claim
import GoSem.ClaimJoined
import GoSem.ClaimMapViews
import Derived.JoinedTies
import Derived.KernelRfl
namespace Go.Proofs.Ytpljpbmkklcbkaa
/- THE CELL 'sum', in the pinned program and in every row, IS THE sha256 OF THE DUMP (.gsa) THAT YtpljpbmkklcbkaaProg.lean LOADS. Nothing in Lean hashes anything: it is a label: what it is worth is what the hold of that sum in a sandbox is worth. -/
noncomputable def Try.pinned : Pinned := { name := "ytpljpbmkklcbkaa", sum := "d71ead3b6264e2272d1e5faa4ef9b1ab1324fd86d6b424d32b67f93269ffdfd4", checked := Try.checked }
namespace Rows
def none {H : Type} : Left H := { results := [], args := [] }

/-- 'skylightlaw24.BendThrough': WHATEVER THE INPUT: true; the input reads as it did. -/
def bendThroughSpec : ChangeSpec := { name := "bendThrough", fn := fun _ => fun
  | [d1, d2, d3, d4] => { results := [.lit (.bool true)], args := [d1, d2, d3, d4] }
  | _ => none }
def bendThroughRow : OpenClaim := { program := "ytpljpbmkklcbkaa", sum := "d71ead3b6264e2272d1e5faa4ef9b1ab1324fd86d6b424d32b67f93269ffdfd4", func := "skylight/skylightlaw24.BendThrough", spec := "bendThrough", unfollowed := true, recurses := true, named := ["math/bits.divideError", "math/bits.overflowError"], apart := false }
def BendThroughSaid : Prop := bendThroughRow.holds Try.pinned (OpenSpec.ofChange bendThroughSpec)

/-- ITS FALSE NEIGHBOUR: 'it returns false'. Refute it at one input. -/
def bendThroughWrong : ChangeSpec := { name := "bendThrough", fn := fun _ => fun
  | [d1, d2, d3, d4] => { results := [.lit (.bool false)], args := [d1, d2, d3, d4] }
  | _ => none }
def BendThroughWrongFalsely : Prop := bendThroughRow.holds Try.pinned (OpenSpec.ofChange bendThroughWrong)

/-- 'skylightlaw18.WordLines': WHATEVER THE INPUT: true; the input reads as it did. -/
def wordLinesSpec : ChangeSpec := { name := "wordLines", fn := fun _ => fun
  | [d1, d2, d3] => { results := [.lit (.bool true)], args := [d1, d2, d3] }
  | _ => none }
def wordLinesRow : OpenClaim := { program := "ytpljpbmkklcbkaa", sum := "d71ead3b6264e2272d1e5faa4ef9b1ab1324fd86d6b424d32b67f93269ffdfd4", func := "skylight/skylightlaw18.WordLines", spec := "wordLines", inPlace := ["internal/bytealg.IndexByteString", "internal/bytealg.IndexString", "internal/abi.NoEscape", "internal/bytealg.MakeNoZero"], unfollowed := true, recurses := true, named := ["internal/bytealg.MaxLen"], apart := false }
def WordLinesSaid : Prop := wordLinesRow.holds Try.pinned (OpenSpec.ofChange wordLinesSpec)

/-- ITS FALSE NEIGHBOUR: 'it returns false'. Refute it at one input. -/
def wordLinesWrong : ChangeSpec := { name := "wordLines", fn := fun _ => fun
  | [d1, d2, d3] => { results := [.lit (.bool false)], args := [d1, d2, d3] }
  | _ => none }
def WordLinesWrongFalsely : Prop := wordLinesRow.holds Try.pinned (OpenSpec.ofChange wordLinesWrong)

/-- 'skylightlaw14.PlainFirst': WHATEVER THE INPUT: true; the input reads as it did. -/
def plainFirstSpec : ChangeSpec := { name := "plainFirst", fn := fun _ => fun
  | [d1, d2, d3, d4] => { results := [.lit (.bool true)], args := [d1, d2, d3, d4] }
  | _ => none }
def plainFirstRow : OpenClaim := { program := "ytpljpbmkklcbkaa", sum := "d71ead3b6264e2272d1e5faa4ef9b1ab1324fd86d6b424d32b67f93269ffdfd4", func := "skylight/skylightlaw14.PlainFirst", spec := "plainFirst", unfollowed := true, recurses := true, apart := false }
def PlainFirstSaid : Prop := plainFirstRow.holds Try.pinned (OpenSpec.ofChange plainFirstSpec)

/-- ITS FALSE NEIGHBOUR: 'it returns false'. Refute it at one input. -/
def plainFirstWrong : ChangeSpec := { name := "plainFirst", fn := fun _ => fun
  | [d1, d2, d3, d4] => { results := [.lit (.bool false)], args := [d1, d2, d3, d4] }
  | _ => none }
def PlainFirstWrongFalsely : Prop := plainFirstRow.holds Try.pinned (OpenSpec.ofChange plainFirstWrong)

/-- 'skylightlaw13.PrimBox': WHATEVER THE INPUT: true; the input reads as it did. -/
def primBoxSpec : ChangeSpec := { name := "primBox", fn := fun _ => fun
  | [d1, d2] => { results := [.lit (.bool true)], args := [d1, d2] }
  | _ => none }
def primBoxRow : OpenClaim := { program := "ytpljpbmkklcbkaa", sum := "d71ead3b6264e2272d1e5faa4ef9b1ab1324fd86d6b424d32b67f93269ffdfd4", func := "skylight/skylightlaw13.PrimBox", spec := "primBox", unfollowed := true, recurses := true, apart := false }
def PrimBoxSaid : Prop := primBoxRow.holds Try.pinned (OpenSpec.ofChange primBoxSpec)

/-- ITS FALSE NEIGHBOUR: 'it returns false'. Refute it at one input. -/
def primBoxWrong : ChangeSpec := { name := "primBox", fn := fun _ => fun
  | [d1, d2] => { results := [.lit (.bool false)], args := [d1, d2] }
  | _ => none }
def PrimBoxWrongFalsely : Prop := primBoxRow.holds Try.pinned (OpenSpec.ofChange primBoxWrong)

/-- 'skylightlaw25.MatterPower': WHATEVER THE INPUT: true; the input reads as it did. -/
def matterPowerSpec : ChangeSpec := { name := "matterPower", fn := fun _ => fun
  | [d1, d2, d3] => { results := [.lit (.bool true)], args := [d1, d2, d3] }
  | _ => none }
def matterPowerRow : OpenClaim := { program := "ytpljpbmkklcbkaa", sum := "d71ead3b6264e2272d1e5faa4ef9b1ab1324fd86d6b424d32b67f93269ffdfd4", func := "skylight/skylightlaw25.MatterPower", spec := "matterPower", unfollowed := true, recurses := true, named := ["math/bits.divideError", "math/bits.overflowError"], apart := false }
def MatterPowerSaid : Prop := matterPowerRow.holds Try.pinned (OpenSpec.ofChange matterPowerSpec)

/-- ITS FALSE NEIGHBOUR: 'it returns false'. Refute it at one input. -/
def matterPowerWrong : ChangeSpec := { name := "matterPower", fn := fun _ => fun
  | [d1, d2, d3] => { results := [.lit (.bool false)], args := [d1, d2, d3] }
  | _ => none }
def MatterPowerWrongFalsely : Prop := matterPowerRow.holds Try.pinned (OpenSpec.ofChange matterPowerWrong)

/- THE SECOND FORM. 'bulk': how many values and letters a reading holds, each counted each time it is reached (what is shared counts as often as it is met; a slice's spare places count too). A statement '..UptoSaid' is the law's where the arguments, and the package variables that the reading takes, are together of bulk at most 1048576: NARROWER than '..Said'. Prove '..Said' where nothing that the law and all that it calls make is longer than what came in: it says more and counts as full. Else prove '..UptoSaid'. A law counts once. -/
mutual
def uptoBulk {H : Type} : DataW H → Nat
  | .lit (.string bytes) => bytes.length + 1
  | .lit _ => 1
  | .nil => 1
  | .ptr d => uptoBulk d + 1
  | .slice elems spare => uptoBulkAll elems + uptoBulkAll spare + 1
  | .agg parts => uptoBulkAll parts + 1
  | .iface _ d => uptoBulk d + 1
  | .map entries => uptoBulkEntries entries + 1
  | .held _ => 1
def uptoBulkAll {H : Type} : List (DataW H) → Nat
  | [] => 0
  | d :: r => uptoBulk d + uptoBulkAll r
def uptoBulkEntries {H : Type} : List (Lit × DataW H) → Nat
  | [] => 0
  | x :: r => uptoBulkEntry x + uptoBulkEntries r
def uptoBulkEntry {H : Type} : Lit × DataW H → Nat
  | (.string bytes, d) => bytes.length + uptoBulk d + 1
  | (_, d) => uptoBulk d + 1
 end
def uptoSmall : (H : Type) → List (DataW H) → Bool := fun _ ds => decide (uptoBulkAll ds ≤ 1048576)
def OpenSpec.upto (s : _root_.Go.ChangeSpec) : _root_.Go.OpenSpec := { _root_.Go.OpenSpec.ofChange s with cond := some uptoSmall }

/-- 'skylightlaw24.BendThrough', WHERE WHAT IT READS IS OF BULK AT MOST 1048576: true; the input reads as it did. -/
def bendThroughUptoRow : OpenClaim := { program := "ytpljpbmkklcbkaa", sum := "d71ead3b6264e2272d1e5faa4ef9b1ab1324fd86d6b424d32b67f93269ffdfd4", func := "skylight/skylightlaw24.BendThrough", spec := "bendThrough", unfollowed := true, recurses := true, named := ["math/bits.divideError", "math/bits.overflowError"], apart := false, narrowed := true }
def BendThroughUptoSaid : Prop := bendThroughUptoRow.holds Try.pinned (OpenSpec.upto bendThroughSpec)

/-- 'skylightlaw18.WordLines', WHERE WHAT IT READS IS OF BULK AT MOST 1048576: true; the input reads as it did. -/
def wordLinesUptoRow : OpenClaim := { program := "ytpljpbmkklcbkaa", sum := "d71ead3b6264e2272d1e5faa4ef9b1ab1324fd86d6b424d32b67f93269ffdfd4", func := "skylight/skylightlaw18.WordLines", spec := "wordLines", inPlace := ["internal/bytealg.IndexByteString", "internal/bytealg.IndexString", "internal/abi.NoEscape", "internal/bytealg.MakeNoZero"], unfollowed := true, recurses := true, named := ["internal/bytealg.MaxLen"], apart := false, narrowed := true }
def WordLinesUptoSaid : Prop := wordLinesUptoRow.holds Try.pinned (OpenSpec.upto wordLinesSpec)

/-- 'skylightlaw14.PlainFirst', WHERE WHAT IT READS IS OF BULK AT MOST 1048576: true; the input reads as it did. -/
def plainFirstUptoRow : OpenClaim := { program := "ytpljpbmkklcbkaa", sum := "d71ead3b6264e2272d1e5faa4ef9b1ab1324fd86d6b424d32b67f93269ffdfd4", func := "skylight/skylightlaw14.PlainFirst", spec := "plainFirst", unfollowed := true, recurses := true, apart := false, narrowed := true }
def PlainFirstUptoSaid : Prop := plainFirstUptoRow.holds Try.pinned (OpenSpec.upto plainFirstSpec)

/-- 'skylightlaw13.PrimBox', WHERE WHAT IT READS IS OF BULK AT MOST 1048576: true; the input reads as it did. -/
def primBoxUptoRow : OpenClaim := { program := "ytpljpbmkklcbkaa", sum := "d71ead3b6264e2272d1e5faa4ef9b1ab1324fd86d6b424d32b67f93269ffdfd4", func := "skylight/skylightlaw13.PrimBox", spec := "primBox", unfollowed := true, recurses := true, apart := false, narrowed := true }
def PrimBoxUptoSaid : Prop := primBoxUptoRow.holds Try.pinned (OpenSpec.upto primBoxSpec)

/-- 'skylightlaw25.MatterPower', WHERE WHAT IT READS IS OF BULK AT MOST 1048576: true; the input reads as it did. -/
def matterPowerUptoRow : OpenClaim := { program := "ytpljpbmkklcbkaa", sum := "d71ead3b6264e2272d1e5faa4ef9b1ab1324fd86d6b424d32b67f93269ffdfd4", func := "skylight/skylightlaw25.MatterPower", spec := "matterPower", unfollowed := true, recurses := true, named := ["math/bits.divideError", "math/bits.overflowError"], apart := false, narrowed := true }
def MatterPowerUptoSaid : Prop := matterPowerUptoRow.holds Try.pinned (OpenSpec.upto matterPowerSpec)

end Rows
end Go.Proofs.Ytpljpbmkklcbkaa
