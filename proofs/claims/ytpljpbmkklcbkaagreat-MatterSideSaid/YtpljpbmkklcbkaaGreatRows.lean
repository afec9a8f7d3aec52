/-
  No cell of these rows narrows 'for every input' (looked for: loops, veiled, ifaces, maps, wideKeys, modest, calm, conditions, laid).
  DERIVED. THE GIVEN ROWS OF THIS SEAT. 7 by the template 'for every input the law returns true; each argument reads behind the call as it read before'; 0 by the template 'total and deterministic' (their statements: YtpljpbmkklcbkaaGreatTotals.lean).
  GIVEN WITH THE SEED: the statements are not yours to turn. If you find one false, say at which input.
  Laid BY PROGRAM, IN A SANDBOX (cutbox-rows.mjs): the forced cells as the released guide's own fill.sh prints them over the translation abbeadb36fa5f6c3… (all of the seat's roots in one cut). By AI agents, Wed Nov 11 2026. No macro, syntax, notation, axiom, sorry.
-/
import Derived.Test.YtpljpbmkklcbkaaGreatChecked
import GoSem.Claim
import GoSem.ClaimJoined
import GoSem.ClaimMapViews
import Derived.JoinedTies
import Derived.KernelRfl
namespace Go.Proofs.YtpljpbmkklcbkaaGreat
/- THE CELL 'sum', in the pinned program and in every row, IS THE sha256 OF THE DUMP (.gsa) THAT YtpljpbmkklcbkaaGreatProg.lean LOADS. Nothing in Lean hashes anything: it is a label: what it is worth is what the hold of that sum in a sandbox is worth. -/
noncomputable def Tryz.pinned : Pinned := { name := "ytpljpbmkklcbkaagreat", sum := "abbeadb36fa5f6c3b03fabab327f3420c8f08f102cbdcd97ab2a566b1ad43a3f", checked := Tryz.checked }
namespace Rows
def none {H : Type} : Left H := { results := [], args := [] }

/-- 'skylightlaw14.PlainTells': WHATEVER THE INPUT: true; the input reads as it did. -/
def plainTellsSpec : ChangeSpec := { name := "plainTells", fn := fun _ => fun
  | [d1, d2, d3, d4, d5, d6] => { results := [.lit (.bool true)], args := [d1, d2, d3, d4, d5, d6] }
  | _ => none }
def plainTellsRow : OpenClaim := { program := "ytpljpbmkklcbkaagreat", sum := "abbeadb36fa5f6c3b03fabab327f3420c8f08f102cbdcd97ab2a566b1ad43a3f", func := "skylight/skylightlaw14.PlainTells", spec := "plainTells", unfollowed := true, recurses := true, apart := false }
def PlainTellsSaid : Prop := plainTellsRow.holds Tryz.pinned (OpenSpec.ofChange plainTellsSpec)

/-- ITS FALSE NEIGHBOUR: 'it returns false'. Refute it at one input. -/
def plainTellsWrong : ChangeSpec := { name := "plainTells", fn := fun _ => fun
  | [d1, d2, d3, d4, d5, d6] => { results := [.lit (.bool false)], args := [d1, d2, d3, d4, d5, d6] }
  | _ => none }
def PlainTellsWrongFalsely : Prop := plainTellsRow.holds Tryz.pinned (OpenSpec.ofChange plainTellsWrong)

/-- 'skylightlaw26.LampTells': WHATEVER THE INPUT: true; the input reads as it did. -/
def lampTellsSpec : ChangeSpec := { name := "lampTells", fn := fun _ => fun
  | [d1, d2, d3, d4, d5, d6, d7, d8] => { results := [.lit (.bool true)], args := [d1, d2, d3, d4, d5, d6, d7, d8] }
  | _ => none }
def lampTellsRow : OpenClaim := { program := "ytpljpbmkklcbkaagreat", sum := "abbeadb36fa5f6c3b03fabab327f3420c8f08f102cbdcd97ab2a566b1ad43a3f", func := "skylight/skylightlaw26.LampTells", spec := "lampTells", unfollowed := true, recurses := true, named := ["math/bits.divideError", "math/bits.overflowError"], apart := false }
def LampTellsSaid : Prop := lampTellsRow.holds Tryz.pinned (OpenSpec.ofChange lampTellsSpec)

/-- ITS FALSE NEIGHBOUR: 'it returns false'. Refute it at one input. -/
def lampTellsWrong : ChangeSpec := { name := "lampTells", fn := fun _ => fun
  | [d1, d2, d3, d4, d5, d6, d7, d8] => { results := [.lit (.bool false)], args := [d1, d2, d3, d4, d5, d6, d7, d8] }
  | _ => none }
def LampTellsWrongFalsely : Prop := lampTellsRow.holds Tryz.pinned (OpenSpec.ofChange lampTellsWrong)

/-- 'skylightlaw26.LampPick': WHATEVER THE INPUT: true; the input reads as it did. -/
def lampPickSpec : ChangeSpec := { name := "lampPick", fn := fun _ => fun
  | [d1, d2, d3] => { results := [.lit (.bool true)], args := [d1, d2, d3] }
  | _ => none }
def lampPickRow : OpenClaim := { program := "ytpljpbmkklcbkaagreat", sum := "abbeadb36fa5f6c3b03fabab327f3420c8f08f102cbdcd97ab2a566b1ad43a3f", func := "skylight/skylightlaw26.LampPick", spec := "lampPick", unfollowed := true, recurses := true, named := ["math/bits.divideError", "math/bits.overflowError"], apart := false }
def LampPickSaid : Prop := lampPickRow.holds Tryz.pinned (OpenSpec.ofChange lampPickSpec)

/-- ITS FALSE NEIGHBOUR: 'it returns false'. Refute it at one input. -/
def lampPickWrong : ChangeSpec := { name := "lampPick", fn := fun _ => fun
  | [d1, d2, d3] => { results := [.lit (.bool false)], args := [d1, d2, d3] }
  | _ => none }
def LampPickWrongFalsely : Prop := lampPickRow.holds Tryz.pinned (OpenSpec.ofChange lampPickWrong)

/-- 'skylightlaw26.LampSends': WHATEVER THE INPUT: true; the input reads as it did. -/
def lampSendsSpec : ChangeSpec := { name := "lampSends", fn := fun _ => fun
  | [d1, d2, d3, d4, d5, d6] => { results := [.lit (.bool true)], args := [d1, d2, d3, d4, d5, d6] }
  | _ => none }
def lampSendsRow : OpenClaim := { program := "ytpljpbmkklcbkaagreat", sum := "abbeadb36fa5f6c3b03fabab327f3420c8f08f102cbdcd97ab2a566b1ad43a3f", func := "skylight/skylightlaw26.LampSends", spec := "lampSends", unfollowed := true, recurses := true, named := ["math/bits.divideError", "math/bits.overflowError"], apart := false }
def LampSendsSaid : Prop := lampSendsRow.holds Tryz.pinned (OpenSpec.ofChange lampSendsSpec)

/-- ITS FALSE NEIGHBOUR: 'it returns false'. Refute it at one input. -/
def lampSendsWrong : ChangeSpec := { name := "lampSends", fn := fun _ => fun
  | [d1, d2, d3, d4, d5, d6] => { results := [.lit (.bool false)], args := [d1, d2, d3, d4, d5, d6] }
  | _ => none }
def LampSendsWrongFalsely : Prop := lampSendsRow.holds Tryz.pinned (OpenSpec.ofChange lampSendsWrong)

/-- 'skylightlaw25.MatterTells': WHATEVER THE INPUT: true; the input reads as it did. -/
def matterTellsSpec : ChangeSpec := { name := "matterTells", fn := fun _ => fun
  | [d1, d2, d3, d4, d5, d6, d7] => { results := [.lit (.bool true)], args := [d1, d2, d3, d4, d5, d6, d7] }
  | _ => none }
def matterTellsRow : OpenClaim := { program := "ytpljpbmkklcbkaagreat", sum := "abbeadb36fa5f6c3b03fabab327f3420c8f08f102cbdcd97ab2a566b1ad43a3f", func := "skylight/skylightlaw25.MatterTells", spec := "matterTells", unfollowed := true, recurses := true, named := ["math/bits.divideError", "math/bits.overflowError"], apart := false }
def MatterTellsSaid : Prop := matterTellsRow.holds Tryz.pinned (OpenSpec.ofChange matterTellsSpec)

/-- ITS FALSE NEIGHBOUR: 'it returns false'. Refute it at one input. -/
def matterTellsWrong : ChangeSpec := { name := "matterTells", fn := fun _ => fun
  | [d1, d2, d3, d4, d5, d6, d7] => { results := [.lit (.bool false)], args := [d1, d2, d3, d4, d5, d6, d7] }
  | _ => none }
def MatterTellsWrongFalsely : Prop := matterTellsRow.holds Tryz.pinned (OpenSpec.ofChange matterTellsWrong)

/-- 'skylightlaw25.MatterLess': WHATEVER THE INPUT: true; the input reads as it did. -/
def matterLessSpec : ChangeSpec := { name := "matterLess", fn := fun _ => fun
  | [d1, d2, d3, d4] => { results := [.lit (.bool true)], args := [d1, d2, d3, d4] }
  | _ => none }
def matterLessRow : OpenClaim := { program := "ytpljpbmkklcbkaagreat", sum := "abbeadb36fa5f6c3b03fabab327f3420c8f08f102cbdcd97ab2a566b1ad43a3f", func := "skylight/skylightlaw25.MatterLess", spec := "matterLess", unfollowed := true, recurses := true, named := ["math/bits.divideError", "math/bits.overflowError"], apart := false }
def MatterLessSaid : Prop := matterLessRow.holds Tryz.pinned (OpenSpec.ofChange matterLessSpec)

/-- ITS FALSE NEIGHBOUR: 'it returns false'. Refute it at one input. -/
def matterLessWrong : ChangeSpec := { name := "matterLess", fn := fun _ => fun
  | [d1, d2, d3, d4] => { results := [.lit (.bool false)], args := [d1, d2, d3, d4] }
  | _ => none }
def MatterLessWrongFalsely : Prop := matterLessRow.holds Tryz.pinned (OpenSpec.ofChange matterLessWrong)

/-- 'skylightlaw25.MatterSide': WHATEVER THE INPUT: true; the input reads as it did. -/
def matterSideSpec : ChangeSpec := { name := "matterSide", fn := fun _ => fun
  | [d1, d2, d3, d4, d5, d6] => { results := [.lit (.bool true)], args := [d1, d2, d3, d4, d5, d6] }
  | _ => none }
def matterSideRow : OpenClaim := { program := "ytpljpbmkklcbkaagreat", sum := "abbeadb36fa5f6c3b03fabab327f3420c8f08f102cbdcd97ab2a566b1ad43a3f", func := "skylight/skylightlaw25.MatterSide", spec := "matterSide", unfollowed := true, recurses := true, named := ["math/bits.divideError", "math/bits.overflowError"], apart := false }
def MatterSideSaid : Prop := matterSideRow.holds Tryz.pinned (OpenSpec.ofChange matterSideSpec)

/-- ITS FALSE NEIGHBOUR: 'it returns false'. Refute it at one input. -/
def matterSideWrong : ChangeSpec := { name := "matterSide", fn := fun _ => fun
  | [d1, d2, d3, d4, d5, d6] => { results := [.lit (.bool false)], args := [d1, d2, d3, d4, d5, d6] }
  | _ => none }
def MatterSideWrongFalsely : Prop := matterSideRow.holds Tryz.pinned (OpenSpec.ofChange matterSideWrong)

/- THE SECOND FORM. 'bulk': how many values and letters a reading holds, each counted each time it is reached (what is shared counts as often as it is met; a slice's spare places count too). A statement '..UptoSaid' is the law's where the arguments, and the package variables that the reading takes, are together of bulk at most 1048576: NARROWER than '..Said'. Prove '..Said' where nothing that the law and all that it calls make is longer than what came in: it says more and counts as full. Else prove '..UptoSaid'. A law counts once. -/
mutual
def uptoBulk {H : Type} : DataW H → Nat
  | .lit (.string bytes) => bytes.length + 1
  | .lit _ => 1
  | .nil => 1
  | .ptr d => uptoBulk d + 1
  | .slice elems spare => uptoBulkAll elems + uptoBulkAll spare + 1
  | .agg parts => uptoBulkAll parts + 1
  | .iface _ d => uptoBulk d + 1
  | .map entries => uptoBulkEntries entries + 1
  | .held _ => 1
def uptoBulkAll {H : Type} : List (DataW H) → Nat
  | [] => 0
  | d :: r => uptoBulk d + uptoBulkAll r
def uptoBulkEntries {H : Type} : List (Lit × DataW H) → Nat
  | [] => 0
  | x :: r => uptoBulkEntry x + uptoBulkEntries r
def uptoBulkEntry {H : Type} : Lit × DataW H → Nat
  | (.string bytes, d) => bytes.length + uptoBulk d + 1
  | (_, d) => uptoBulk d + 1
 end
def uptoSmall : (H : Type) → List (DataW H) → Bool := fun _ ds => decide (uptoBulkAll ds ≤ 1048576)
def OpenSpec.upto (s : _root_.Go.ChangeSpec) : _root_.Go.OpenSpec := { _root_.Go.OpenSpec.ofChange s with cond := some uptoSmall }

/-- 'skylightlaw14.PlainTells', WHERE WHAT IT READS IS OF BULK AT MOST 1048576: true; the input reads as it did. -/
def plainTellsUptoRow : OpenClaim := { program := "ytpljpbmkklcbkaagreat", sum := "abbeadb36fa5f6c3b03fabab327f3420c8f08f102cbdcd97ab2a566b1ad43a3f", func := "skylight/skylightlaw14.PlainTells", spec := "plainTells", unfollowed := true, recurses := true, apart := false, narrowed := true }
def PlainTellsUptoSaid : Prop := plainTellsUptoRow.holds Tryz.pinned (OpenSpec.upto plainTellsSpec)

/-- 'skylightlaw26.LampTells', WHERE WHAT IT READS IS OF BULK AT MOST 1048576: true; the input reads as it did. -/
def lampTellsUptoRow : OpenClaim := { program := "ytpljpbmkklcbkaagreat", sum := "abbeadb36fa5f6c3b03fabab327f3420c8f08f102cbdcd97ab2a566b1ad43a3f", func := "skylight/skylightlaw26.LampTells", spec := "lampTells", unfollowed := true, recurses := true, named := ["math/bits.divideError", "math/bits.overflowError"], apart := false, narrowed := true }
def LampTellsUptoSaid : Prop := lampTellsUptoRow.holds Tryz.pinned (OpenSpec.upto lampTellsSpec)

/-- 'skylightlaw26.LampPick', WHERE WHAT IT READS IS OF BULK AT MOST 1048576: true; the input reads as it did. -/
def lampPickUptoRow : OpenClaim := { program := "ytpljpbmkklcbkaagreat", sum := "abbeadb36fa5f6c3b03fabab327f3420c8f08f102cbdcd97ab2a566b1ad43a3f", func := "skylight/skylightlaw26.LampPick", spec := "lampPick", unfollowed := true, recurses := true, named := ["math/bits.divideError", "math/bits.overflowError"], apart := false, narrowed := true }
def LampPickUptoSaid : Prop := lampPickUptoRow.holds Tryz.pinned (OpenSpec.upto lampPickSpec)

/-- 'skylightlaw26.LampSends', WHERE WHAT IT READS IS OF BULK AT MOST 1048576: true; the input reads as it did. -/
def lampSendsUptoRow : OpenClaim := { program := "ytpljpbmkklcbkaagreat", sum := "abbeadb36fa5f6c3b03fabab327f3420c8f08f102cbdcd97ab2a566b1ad43a3f", func := "skylight/skylightlaw26.LampSends", spec := "lampSends", unfollowed := true, recurses := true, named := ["math/bits.divideError", "math/bits.overflowError"], apart := false, narrowed := true }
def LampSendsUptoSaid : Prop := lampSendsUptoRow.holds Tryz.pinned (OpenSpec.upto lampSendsSpec)

/-- 'skylightlaw25.MatterTells', WHERE WHAT IT READS IS OF BULK AT MOST 1048576: true; the input reads as it did. -/
def matterTellsUptoRow : OpenClaim := { program := "ytpljpbmkklcbkaagreat", sum := "abbeadb36fa5f6c3b03fabab327f3420c8f08f102cbdcd97ab2a566b1ad43a3f", func := "skylight/skylightlaw25.MatterTells", spec := "matterTells", unfollowed := true, recurses := true, named := ["math/bits.divideError", "math/bits.overflowError"], apart := false, narrowed := true }
def MatterTellsUptoSaid : Prop := matterTellsUptoRow.holds Tryz.pinned (OpenSpec.upto matterTellsSpec)

/-- 'skylightlaw25.MatterLess', WHERE WHAT IT READS IS OF BULK AT MOST 1048576: true; the input reads as it did. -/
def matterLessUptoRow : OpenClaim := { program := "ytpljpbmkklcbkaagreat", sum := "abbeadb36fa5f6c3b03fabab327f3420c8f08f102cbdcd97ab2a566b1ad43a3f", func := "skylight/skylightlaw25.MatterLess", spec := "matterLess", unfollowed := true, recurses := true, named := ["math/bits.divideError", "math/bits.overflowError"], apart := false, narrowed := true }
def MatterLessUptoSaid : Prop := matterLessUptoRow.holds Tryz.pinned (OpenSpec.upto matterLessSpec)

/-- 'skylightlaw25.MatterSide', WHERE WHAT IT READS IS OF BULK AT MOST 1048576: true; the input reads as it did. -/
def matterSideUptoRow : OpenClaim := { program := "ytpljpbmkklcbkaagreat", sum := "abbeadb36fa5f6c3b03fabab327f3420c8f08f102cbdcd97ab2a566b1ad43a3f", func := "skylight/skylightlaw25.MatterSide", spec := "matterSide", unfollowed := true, recurses := true, named := ["math/bits.divideError", "math/bits.overflowError"], apart := false, narrowed := true }
def MatterSideUptoSaid : Prop := matterSideUptoRow.holds Tryz.pinned (OpenSpec.upto matterSideSpec)

end Rows
end Go.Proofs.YtpljpbmkklcbkaaGreat
