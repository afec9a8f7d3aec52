/-
  No cell of these rows narrows 'for every input' (looked for: loops, veiled, ifaces, maps, wideKeys, modest, calm, conditions, laid).
  DERIVED. THE GIVEN ROWS OF THIS SEAT. 13 by the template 'for every input the law returns true; each argument reads behind the call as it read before'; 0 by the template 'total and deterministic' (their statements: YtfbakgcemnkcpaaTotals.lean).
  GIVEN WITH THE SEED: the statements are not yours to turn. If you find one false, say at which input.
  Laid BY PROGRAM, IN A SANDBOX (cutbox-rows.mjs): the forced cells as the released guide's own fill.sh prints them over the translation 3d621dcef1ceb39f… (all of the seat's roots in one cut). By AI agents, Wed Nov 11 2026. No macro, syntax, notation, axiom, sorry.
-/
import Derived.Test.YtfbakgcemnkcpaaChecked
import GoSem.Claim
import GoSem.ClaimJoined
import GoSem.ClaimMapViews
import Derived.JoinedTies
import Derived.KernelRfl
namespace Go.Proofs.Ytfbakgcemnkcpaa
/- THE CELL 'sum', in the pinned program and in every row, IS THE sha256 OF THE DUMP (.gsa) THAT YtfbakgcemnkcpaaProg.lean LOADS. Nothing in Lean hashes anything: it is a label: what it is worth is what the hold of that sum in a sandbox is worth. -/
noncomputable def Try.pinned : Pinned := { name := "ytfbakgcemnkcpaa", sum := "3d621dcef1ceb39f408b6eb4e1e82b646eaea33182697c1764c7bb358f56f724", checked := Try.checked }
namespace Rows
def none {H : Type} : Left H := { results := [], args := [] }

/-- 'skylightlaw39.BoundTells': WHATEVER THE INPUT: true; the input reads as it did. -/
def boundTellsSpec : ChangeSpec := { name := "boundTells", fn := fun _ => fun
  | [d1, d2, d3, d4, d5, d6, d7] => { results := [.lit (.bool true)], args := [d1, d2, d3, d4, d5, d6, d7] }
  | _ => none }
def boundTellsRow : OpenClaim := { program := "ytfbakgcemnkcpaa", sum := "3d621dcef1ceb39f408b6eb4e1e82b646eaea33182697c1764c7bb358f56f724", func := "skylight/skylightlaw39.BoundTells", spec := "boundTells", apart := false }
def BoundTellsSaid : Prop := boundTellsRow.holds Try.pinned (OpenSpec.ofChange boundTellsSpec)

/-- ITS FALSE NEIGHBOUR: 'it returns false'. Refute it at one input. -/
def boundTellsWrong : ChangeSpec := { name := "boundTells", fn := fun _ => fun
  | [d1, d2, d3, d4, d5, d6, d7] => { results := [.lit (.bool false)], args := [d1, d2, d3, d4, d5, d6, d7] }
  | _ => none }
def BoundTellsWrongFalsely : Prop := boundTellsRow.holds Try.pinned (OpenSpec.ofChange boundTellsWrong)

/-- 'skylightlaw06.VecUnit': WHATEVER THE INPUT: true; the input reads as it did. -/
def vecUnitSpec : ChangeSpec := { name := "vecUnit", fn := fun _ => fun
  | [d] => { results := [.lit (.bool true)], args := [d] }
  | _ => none }
def vecUnitRow : OpenClaim := { program := "ytfbakgcemnkcpaa", sum := "3d621dcef1ceb39f408b6eb4e1e82b646eaea33182697c1764c7bb358f56f724", func := "skylight/skylightlaw06.VecUnit", spec := "vecUnit", unfollowed := true, recurses := true, named := ["math/bits.divideError", "math/bits.overflowError"], apart := false }
def VecUnitSaid : Prop := vecUnitRow.holds Try.pinned (OpenSpec.ofChange vecUnitSpec)

/-- ITS FALSE NEIGHBOUR: 'it returns false'. Refute it at one input. -/
def vecUnitWrong : ChangeSpec := { name := "vecUnit", fn := fun _ => fun
  | [d] => { results := [.lit (.bool false)], args := [d] }
  | _ => none }
def VecUnitWrongFalsely : Prop := vecUnitRow.holds Try.pinned (OpenSpec.ofChange vecUnitWrong)

/-- 'skylightlaw06.VecTells': WHATEVER THE INPUT: true; the input reads as it did. -/
def vecTellsSpec : ChangeSpec := { name := "vecTells", fn := fun _ => fun
  | [d1, d2, d3, d4] => { results := [.lit (.bool true)], args := [d1, d2, d3, d4] }
  | _ => none }
def vecTellsRow : OpenClaim := { program := "ytfbakgcemnkcpaa", sum := "3d621dcef1ceb39f408b6eb4e1e82b646eaea33182697c1764c7bb358f56f724", func := "skylight/skylightlaw06.VecTells", spec := "vecTells", unfollowed := true, recurses := true, named := ["math/bits.divideError", "math/bits.overflowError"], apart := false }
def VecTellsSaid : Prop := vecTellsRow.holds Try.pinned (OpenSpec.ofChange vecTellsSpec)

/-- ITS FALSE NEIGHBOUR: 'it returns false'. Refute it at one input. -/
def vecTellsWrong : ChangeSpec := { name := "vecTells", fn := fun _ => fun
  | [d1, d2, d3, d4] => { results := [.lit (.bool false)], args := [d1, d2, d3, d4] }
  | _ => none }
def VecTellsWrongFalsely : Prop := vecTellsRow.holds Try.pinned (OpenSpec.ofChange vecTellsWrong)

/-- 'skylightlaw06.VecVolume': WHATEVER THE INPUT: true; the input reads as it did. -/
def vecVolumeSpec : ChangeSpec := { name := "vecVolume", fn := fun _ => fun
  | [d1, d2, d3] => { results := [.lit (.bool true)], args := [d1, d2, d3] }
  | _ => none }
def vecVolumeRow : OpenClaim := { program := "ytfbakgcemnkcpaa", sum := "3d621dcef1ceb39f408b6eb4e1e82b646eaea33182697c1764c7bb358f56f724", func := "skylight/skylightlaw06.VecVolume", spec := "vecVolume", unfollowed := true, recurses := true, named := ["math/bits.divideError", "math/bits.overflowError"], apart := false }
def VecVolumeSaid : Prop := vecVolumeRow.holds Try.pinned (OpenSpec.ofChange vecVolumeSpec)

/-- ITS FALSE NEIGHBOUR: 'it returns false'. Refute it at one input. -/
def vecVolumeWrong : ChangeSpec := { name := "vecVolume", fn := fun _ => fun
  | [d1, d2, d3] => { results := [.lit (.bool false)], args := [d1, d2, d3] }
  | _ => none }
def VecVolumeWrongFalsely : Prop := vecVolumeRow.holds Try.pinned (OpenSpec.ofChange vecVolumeWrong)

/-- 'skylightlaw39.BoundAlone': WHATEVER THE INPUT: true; the input reads as it did. -/
def boundAloneSpec : ChangeSpec := { name := "boundAlone", fn := fun _ => fun
  | [d1, d2, d3, d4, d5, d6, d7] => { results := [.lit (.bool true)], args := [d1, d2, d3, d4, d5, d6, d7] }
  | _ => none }
def boundAloneRow : OpenClaim := { program := "ytfbakgcemnkcpaa", sum := "3d621dcef1ceb39f408b6eb4e1e82b646eaea33182697c1764c7bb358f56f724", func := "skylight/skylightlaw39.BoundAlone", spec := "boundAlone", unfollowed := true, recurses := true, apart := false }
def BoundAloneSaid : Prop := boundAloneRow.holds Try.pinned (OpenSpec.ofChange boundAloneSpec)

/-- ITS FALSE NEIGHBOUR: 'it returns false'. Refute it at one input. -/
def boundAloneWrong : ChangeSpec := { name := "boundAlone", fn := fun _ => fun
  | [d1, d2, d3, d4, d5, d6, d7] => { results := [.lit (.bool false)], args := [d1, d2, d3, d4, d5, d6, d7] }
  | _ => none }
def BoundAloneWrongFalsely : Prop := boundAloneRow.holds Try.pinned (OpenSpec.ofChange boundAloneWrong)

/-- 'skylightlaw12.BallTells': WHATEVER THE INPUT: true; the input reads as it did. -/
def ballTellsSpec : ChangeSpec := { name := "ballTells", fn := fun _ => fun
  | [d1, d2, d3, d4] => { results := [.lit (.bool true)], args := [d1, d2, d3, d4] }
  | _ => none }
def ballTellsRow : OpenClaim := { program := "ytfbakgcemnkcpaa", sum := "3d621dcef1ceb39f408b6eb4e1e82b646eaea33182697c1764c7bb358f56f724", func := "skylight/skylightlaw12.BallTells", spec := "ballTells", inPlace := ["math/bits.Sub64", "math/bits.Add64"], unfollowed := true, recurses := true, named := ["math/bits.divideError", "math/bits.overflowError"], apart := false }
def BallTellsSaid : Prop := ballTellsRow.holds Try.pinned (OpenSpec.ofChange ballTellsSpec)

/-- ITS FALSE NEIGHBOUR: 'it returns false'. Refute it at one input. -/
def ballTellsWrong : ChangeSpec := { name := "ballTells", fn := fun _ => fun
  | [d1, d2, d3, d4] => { results := [.lit (.bool false)], args := [d1, d2, d3, d4] }
  | _ => none }
def BallTellsWrongFalsely : Prop := ballTellsRow.holds Try.pinned (OpenSpec.ofChange ballTellsWrong)

/-- 'skylightlaw12.BallMet': WHATEVER THE INPUT: true; the input reads as it did. -/
def ballMetSpec : ChangeSpec := { name := "ballMet", fn := fun _ => fun
  | [d1, d2, d3] => { results := [.lit (.bool true)], args := [d1, d2, d3] }
  | _ => none }
def ballMetRow : OpenClaim := { program := "ytfbakgcemnkcpaa", sum := "3d621dcef1ceb39f408b6eb4e1e82b646eaea33182697c1764c7bb358f56f724", func := "skylight/skylightlaw12.BallMet", spec := "ballMet", inPlace := ["math/bits.Sub64", "math/bits.Add64"], unfollowed := true, recurses := true, named := ["math/bits.divideError", "math/bits.overflowError"], apart := false }
def BallMetSaid : Prop := ballMetRow.holds Try.pinned (OpenSpec.ofChange ballMetSpec)

/-- ITS FALSE NEIGHBOUR: 'it returns false'. Refute it at one input. -/
def ballMetWrong : ChangeSpec := { name := "ballMet", fn := fun _ => fun
  | [d1, d2, d3] => { results := [.lit (.bool false)], args := [d1, d2, d3] }
  | _ => none }
def BallMetWrongFalsely : Prop := ballMetRow.holds Try.pinned (OpenSpec.ofChange ballMetWrong)

/-- 'skylightlaw12.BallThrough': WHATEVER THE INPUT: true; the input reads as it did. -/
def ballThroughSpec : ChangeSpec := { name := "ballThrough", fn := fun _ => fun
  | [d1, d2, d3] => { results := [.lit (.bool true)], args := [d1, d2, d3] }
  | _ => none }
def ballThroughRow : OpenClaim := { program := "ytfbakgcemnkcpaa", sum := "3d621dcef1ceb39f408b6eb4e1e82b646eaea33182697c1764c7bb358f56f724", func := "skylight/skylightlaw12.BallThrough", spec := "ballThrough", inPlace := ["math/bits.Sub64", "math/bits.Add64"], unfollowed := true, recurses := true, named := ["math/bits.divideError", "math/bits.overflowError"], apart := false }
def BallThroughSaid : Prop := ballThroughRow.holds Try.pinned (OpenSpec.ofChange ballThroughSpec)

/-- ITS FALSE NEIGHBOUR: 'it returns false'. Refute it at one input. -/
def ballThroughWrong : ChangeSpec := { name := "ballThrough", fn := fun _ => fun
  | [d1, d2, d3] => { results := [.lit (.bool false)], args := [d1, d2, d3] }
  | _ => none }
def BallThroughWrongFalsely : Prop := ballThroughRow.holds Try.pinned (OpenSpec.ofChange ballThroughWrong)

/-- 'skylightlaw11.TriTells': WHATEVER THE INPUT: true; the input reads as it did. -/
def triTellsSpec : ChangeSpec := { name := "triTells", fn := fun _ => fun
  | [d1, d2, d3, d4, d5, d6] => { results := [.lit (.bool true)], args := [d1, d2, d3, d4, d5, d6] }
  | _ => none }
def triTellsRow : OpenClaim := { program := "ytfbakgcemnkcpaa", sum := "3d621dcef1ceb39f408b6eb4e1e82b646eaea33182697c1764c7bb358f56f724", func := "skylight/skylightlaw11.TriTells", spec := "triTells", inPlace := ["math/bits.Add64"], unfollowed := true, recurses := true, named := ["math/bits.divideError", "math/bits.overflowError"], apart := false }
def TriTellsSaid : Prop := triTellsRow.holds Try.pinned (OpenSpec.ofChange triTellsSpec)

/-- ITS FALSE NEIGHBOUR: 'it returns false'. Refute it at one input. -/
def triTellsWrong : ChangeSpec := { name := "triTells", fn := fun _ => fun
  | [d1, d2, d3, d4, d5, d6] => { results := [.lit (.bool false)], args := [d1, d2, d3, d4, d5, d6] }
  | _ => none }
def TriTellsWrongFalsely : Prop := triTellsRow.holds Try.pinned (OpenSpec.ofChange triTellsWrong)

/-- 'skylightlaw11.TriAlike': WHATEVER THE INPUT: true; the input reads as it did. -/
def triAlikeSpec : ChangeSpec := { name := "triAlike", fn := fun _ => fun
  | [d1, d2, d3, d4, d5] => { results := [.lit (.bool true)], args := [d1, d2, d3, d4, d5] }
  | _ => none }
def triAlikeRow : OpenClaim := { program := "ytfbakgcemnkcpaa", sum := "3d621dcef1ceb39f408b6eb4e1e82b646eaea33182697c1764c7bb358f56f724", func := "skylight/skylightlaw11.TriAlike", spec := "triAlike", inPlace := ["math/bits.Add64"], unfollowed := true, recurses := true, named := ["math/bits.divideError", "math/bits.overflowError"], apart := false }
def TriAlikeSaid : Prop := triAlikeRow.holds Try.pinned (OpenSpec.ofChange triAlikeSpec)

/-- ITS FALSE NEIGHBOUR: 'it returns false'. Refute it at one input. -/
def triAlikeWrong : ChangeSpec := { name := "triAlike", fn := fun _ => fun
  | [d1, d2, d3, d4, d5] => { results := [.lit (.bool false)], args := [d1, d2, d3, d4, d5] }
  | _ => none }
def TriAlikeWrongFalsely : Prop := triAlikeRow.holds Try.pinned (OpenSpec.ofChange triAlikeWrong)

/-- 'skylightlaw11.TriMet': WHATEVER THE INPUT: true; the input reads as it did. -/
def triMetSpec : ChangeSpec := { name := "triMet", fn := fun _ => fun
  | [d1, d2, d3, d4, d5, d6, d7] => { results := [.lit (.bool true)], args := [d1, d2, d3, d4, d5, d6, d7] }
  | _ => none }
def triMetRow : OpenClaim := { program := "ytfbakgcemnkcpaa", sum := "3d621dcef1ceb39f408b6eb4e1e82b646eaea33182697c1764c7bb358f56f724", func := "skylight/skylightlaw11.TriMet", spec := "triMet", inPlace := ["math/bits.Add64"], unfollowed := true, recurses := true, named := ["math/bits.divideError", "math/bits.overflowError"], apart := false }
def TriMetSaid : Prop := triMetRow.holds Try.pinned (OpenSpec.ofChange triMetSpec)

/-- ITS FALSE NEIGHBOUR: 'it returns false'. Refute it at one input. -/
def triMetWrong : ChangeSpec := { name := "triMet", fn := fun _ => fun
  | [d1, d2, d3, d4, d5, d6, d7] => { results := [.lit (.bool false)], args := [d1, d2, d3, d4, d5, d6, d7] }
  | _ => none }
def TriMetWrongFalsely : Prop := triMetRow.holds Try.pinned (OpenSpec.ofChange triMetWrong)

/-- 'skylightlaw24.BendTells': WHATEVER THE INPUT: true; the input reads as it did. -/
def bendTellsSpec : ChangeSpec := { name := "bendTells", fn := fun _ => fun
  | [d1, d2, d3, d4, d5] => { results := [.lit (.bool true)], args := [d1, d2, d3, d4, d5] }
  | _ => none }
def bendTellsRow : OpenClaim := { program := "ytfbakgcemnkcpaa", sum := "3d621dcef1ceb39f408b6eb4e1e82b646eaea33182697c1764c7bb358f56f724", func := "skylight/skylightlaw24.BendTells", spec := "bendTells", unfollowed := true, recurses := true, named := ["math/bits.divideError", "math/bits.overflowError"], apart := false }
def BendTellsSaid : Prop := bendTellsRow.holds Try.pinned (OpenSpec.ofChange bendTellsSpec)

/-- ITS FALSE NEIGHBOUR: 'it returns false'. Refute it at one input. -/
def bendTellsWrong : ChangeSpec := { name := "bendTells", fn := fun _ => fun
  | [d1, d2, d3, d4, d5] => { results := [.lit (.bool false)], args := [d1, d2, d3, d4, d5] }
  | _ => none }
def BendTellsWrongFalsely : Prop := bendTellsRow.holds Try.pinned (OpenSpec.ofChange bendTellsWrong)

/-- 'skylightlaw24.BendMore': WHATEVER THE INPUT: true; the input reads as it did. -/
def bendMoreSpec : ChangeSpec := { name := "bendMore", fn := fun _ => fun
  | [d1, d2, d3, d4] => { results := [.lit (.bool true)], args := [d1, d2, d3, d4] }
  | _ => none }
def bendMoreRow : OpenClaim := { program := "ytfbakgcemnkcpaa", sum := "3d621dcef1ceb39f408b6eb4e1e82b646eaea33182697c1764c7bb358f56f724", func := "skylight/skylightlaw24.BendMore", spec := "bendMore", unfollowed := true, recurses := true, named := ["math/bits.divideError", "math/bits.overflowError"], apart := false }
def BendMoreSaid : Prop := bendMoreRow.holds Try.pinned (OpenSpec.ofChange bendMoreSpec)

/-- ITS FALSE NEIGHBOUR: 'it returns false'. Refute it at one input. -/
def bendMoreWrong : ChangeSpec := { name := "bendMore", fn := fun _ => fun
  | [d1, d2, d3, d4] => { results := [.lit (.bool false)], args := [d1, d2, d3, d4] }
  | _ => none }
def BendMoreWrongFalsely : Prop := bendMoreRow.holds Try.pinned (OpenSpec.ofChange bendMoreWrong)

/- THE SECOND FORM. 'bulk': how many values and letters a reading holds, each counted each time it is reached (what is shared counts as often as it is met; a slice's spare places count too). A statement '..UptoSaid' is the law's where the arguments, and the package variables that the reading takes, are together of bulk at most 1048576: NARROWER than '..Said'. Prove '..Said' where nothing that the law and all that it calls make is longer than what came in: it says more and counts as full. Else prove '..UptoSaid'. A law counts once. -/
mutual
def uptoBulk {H : Type} : DataW H → Nat
  | .lit (.string bytes) => bytes.length + 1
  | .lit _ => 1
  | .nil => 1
  | .ptr d => uptoBulk d + 1
  | .slice elems spare => uptoBulkAll elems + uptoBulkAll spare + 1
  | .agg parts => uptoBulkAll parts + 1
  | .iface _ d => uptoBulk d + 1
  | .map entries => uptoBulkEntries entries + 1
  | .held _ => 1
def uptoBulkAll {H : Type} : List (DataW H) → Nat
  | [] => 0
  | d :: r => uptoBulk d + uptoBulkAll r
def uptoBulkEntries {H : Type} : List (Lit × DataW H) → Nat
  | [] => 0
  | x :: r => uptoBulkEntry x + uptoBulkEntries r
def uptoBulkEntry {H : Type} : Lit × DataW H → Nat
  | (.string bytes, d) => bytes.length + uptoBulk d + 1
  | (_, d) => uptoBulk d + 1
 end
def uptoSmall : (H : Type) → List (DataW H) → Bool := fun _ ds => decide (uptoBulkAll ds ≤ 1048576)
def OpenSpec.upto (s : _root_.Go.ChangeSpec) : _root_.Go.OpenSpec := { _root_.Go.OpenSpec.ofChange s with cond := some uptoSmall }

/-- 'skylightlaw39.BoundTells', WHERE WHAT IT READS IS OF BULK AT MOST 1048576: true; the input reads as it did. -/
def boundTellsUptoRow : OpenClaim := { program := "ytfbakgcemnkcpaa", sum := "3d621dcef1ceb39f408b6eb4e1e82b646eaea33182697c1764c7bb358f56f724", func := "skylight/skylightlaw39.BoundTells", spec := "boundTells", apart := false, narrowed := true }
def BoundTellsUptoSaid : Prop := boundTellsUptoRow.holds Try.pinned (OpenSpec.upto boundTellsSpec)

/-- 'skylightlaw06.VecUnit', WHERE WHAT IT READS IS OF BULK AT MOST 1048576: true; the input reads as it did. -/
def vecUnitUptoRow : OpenClaim := { program := "ytfbakgcemnkcpaa", sum := "3d621dcef1ceb39f408b6eb4e1e82b646eaea33182697c1764c7bb358f56f724", func := "skylight/skylightlaw06.VecUnit", spec := "vecUnit", unfollowed := true, recurses := true, named := ["math/bits.divideError", "math/bits.overflowError"], apart := false, narrowed := true }
def VecUnitUptoSaid : Prop := vecUnitUptoRow.holds Try.pinned (OpenSpec.upto vecUnitSpec)

/-- 'skylightlaw06.VecTells', WHERE WHAT IT READS IS OF BULK AT MOST 1048576: true; the input reads as it did. -/
def vecTellsUptoRow : OpenClaim := { program := "ytfbakgcemnkcpaa", sum := "3d621dcef1ceb39f408b6eb4e1e82b646eaea33182697c1764c7bb358f56f724", func := "skylight/skylightlaw06.VecTells", spec := "vecTells", unfollowed := true, recurses := true, named := ["math/bits.divideError", "math/bits.overflowError"], apart := false, narrowed := true }
def VecTellsUptoSaid : Prop := vecTellsUptoRow.holds Try.pinned (OpenSpec.upto vecTellsSpec)

/-- 'skylightlaw06.VecVolume', WHERE WHAT IT READS IS OF BULK AT MOST 1048576: true; the input reads as it did. -/
def vecVolumeUptoRow : OpenClaim := { program := "ytfbakgcemnkcpaa", sum := "3d621dcef1ceb39f408b6eb4e1e82b646eaea33182697c1764c7bb358f56f724", func := "skylight/skylightlaw06.VecVolume", spec := "vecVolume", unfollowed := true, recurses := true, named := ["math/bits.divideError", "math/bits.overflowError"], apart := false, narrowed := true }
def VecVolumeUptoSaid : Prop := vecVolumeUptoRow.holds Try.pinned (OpenSpec.upto vecVolumeSpec)

/-- 'skylightlaw39.BoundAlone', WHERE WHAT IT READS IS OF BULK AT MOST 1048576: true; the input reads as it did. -/
def boundAloneUptoRow : OpenClaim := { program := "ytfbakgcemnkcpaa", sum := "3d621dcef1ceb39f408b6eb4e1e82b646eaea33182697c1764c7bb358f56f724", func := "skylight/skylightlaw39.BoundAlone", spec := "boundAlone", unfollowed := true, recurses := true, apart := false, narrowed := true }
def BoundAloneUptoSaid : Prop := boundAloneUptoRow.holds Try.pinned (OpenSpec.upto boundAloneSpec)

/-- 'skylightlaw12.BallTells', WHERE WHAT IT READS IS OF BULK AT MOST 1048576: true; the input reads as it did. -/
def ballTellsUptoRow : OpenClaim := { program := "ytfbakgcemnkcpaa", sum := "3d621dcef1ceb39f408b6eb4e1e82b646eaea33182697c1764c7bb358f56f724", func := "skylight/skylightlaw12.BallTells", spec := "ballTells", inPlace := ["math/bits.Sub64", "math/bits.Add64"], unfollowed := true, recurses := true, named := ["math/bits.divideError", "math/bits.overflowError"], apart := false, narrowed := true }
def BallTellsUptoSaid : Prop := ballTellsUptoRow.holds Try.pinned (OpenSpec.upto ballTellsSpec)

/-- 'skylightlaw12.BallMet', WHERE WHAT IT READS IS OF BULK AT MOST 1048576: true; the input reads as it did. -/
def ballMetUptoRow : OpenClaim := { program := "ytfbakgcemnkcpaa", sum := "3d621dcef1ceb39f408b6eb4e1e82b646eaea33182697c1764c7bb358f56f724", func := "skylight/skylightlaw12.BallMet", spec := "ballMet", inPlace := ["math/bits.Sub64", "math/bits.Add64"], unfollowed := true, recurses := true, named := ["math/bits.divideError", "math/bits.overflowError"], apart := false, narrowed := true }
def BallMetUptoSaid : Prop := ballMetUptoRow.holds Try.pinned (OpenSpec.upto ballMetSpec)

/-- 'skylightlaw12.BallThrough', WHERE WHAT IT READS IS OF BULK AT MOST 1048576: true; the input reads as it did. -/
def ballThroughUptoRow : OpenClaim := { program := "ytfbakgcemnkcpaa", sum := "3d621dcef1ceb39f408b6eb4e1e82b646eaea33182697c1764c7bb358f56f724", func := "skylight/skylightlaw12.BallThrough", spec := "ballThrough", inPlace := ["math/bits.Sub64", "math/bits.Add64"], unfollowed := true, recurses := true, named := ["math/bits.divideError", "math/bits.overflowError"], apart := false, narrowed := true }
def BallThroughUptoSaid : Prop := ballThroughUptoRow.holds Try.pinned (OpenSpec.upto ballThroughSpec)

/-- 'skylightlaw11.TriTells', WHERE WHAT IT READS IS OF BULK AT MOST 1048576: true; the input reads as it did. -/
def triTellsUptoRow : OpenClaim := { program := "ytfbakgcemnkcpaa", sum := "3d621dcef1ceb39f408b6eb4e1e82b646eaea33182697c1764c7bb358f56f724", func := "skylight/skylightlaw11.TriTells", spec := "triTells", inPlace := ["math/bits.Add64"], unfollowed := true, recurses := true, named := ["math/bits.divideError", "math/bits.overflowError"], apart := false, narrowed := true }
def TriTellsUptoSaid : Prop := triTellsUptoRow.holds Try.pinned (OpenSpec.upto triTellsSpec)

/-- 'skylightlaw11.TriAlike', WHERE WHAT IT READS IS OF BULK AT MOST 1048576: true; the input reads as it did. -/
def triAlikeUptoRow : OpenClaim := { program := "ytfbakgcemnkcpaa", sum := "3d621dcef1ceb39f408b6eb4e1e82b646eaea33182697c1764c7bb358f56f724", func := "skylight/skylightlaw11.TriAlike", spec := "triAlike", inPlace := ["math/bits.Add64"], unfollowed := true, recurses := true, named := ["math/bits.divideError", "math/bits.overflowError"], apart := false, narrowed := true }
def TriAlikeUptoSaid : Prop := triAlikeUptoRow.holds Try.pinned (OpenSpec.upto triAlikeSpec)

/-- 'skylightlaw11.TriMet', WHERE WHAT IT READS IS OF BULK AT MOST 1048576: true; the input reads as it did. -/
def triMetUptoRow : OpenClaim := { program := "ytfbakgcemnkcpaa", sum := "3d621dcef1ceb39f408b6eb4e1e82b646eaea33182697c1764c7bb358f56f724", func := "skylight/skylightlaw11.TriMet", spec := "triMet", inPlace := ["math/bits.Add64"], unfollowed := true, recurses := true, named := ["math/bits.divideError", "math/bits.overflowError"], apart := false, narrowed := true }
def TriMetUptoSaid : Prop := triMetUptoRow.holds Try.pinned (OpenSpec.upto triMetSpec)

/-- 'skylightlaw24.BendTells', WHERE WHAT IT READS IS OF BULK AT MOST 1048576: true; the input reads as it did. -/
def bendTellsUptoRow : OpenClaim := { program := "ytfbakgcemnkcpaa", sum := "3d621dcef1ceb39f408b6eb4e1e82b646eaea33182697c1764c7bb358f56f724", func := "skylight/skylightlaw24.BendTells", spec := "bendTells", unfollowed := true, recurses := true, named := ["math/bits.divideError", "math/bits.overflowError"], apart := false, narrowed := true }
def BendTellsUptoSaid : Prop := bendTellsUptoRow.holds Try.pinned (OpenSpec.upto bendTellsSpec)

/-- 'skylightlaw24.BendMore', WHERE WHAT IT READS IS OF BULK AT MOST 1048576: true; the input reads as it did. -/
def bendMoreUptoRow : OpenClaim := { program := "ytfbakgcemnkcpaa", sum := "3d621dcef1ceb39f408b6eb4e1e82b646eaea33182697c1764c7bb358f56f724", func := "skylight/skylightlaw24.BendMore", spec := "bendMore", unfollowed := true, recurses := true, named := ["math/bits.divideError", "math/bits.overflowError"], apart := false, narrowed := true }
def BendMoreUptoSaid : Prop := bendMoreUptoRow.holds Try.pinned (OpenSpec.upto bendMoreSpec)

end Rows
end Go.Proofs.Ytfbakgcemnkcpaa
