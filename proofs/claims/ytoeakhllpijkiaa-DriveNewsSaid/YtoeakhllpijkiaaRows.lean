/-
  No cell of these rows narrows 'for every input' (looked for: loops, veiled, ifaces, maps, wideKeys, modest, calm, conditions, laid).
  DERIVED. THE GIVEN ROWS OF THIS SEAT. 7 by the template 'for every input the law returns true; each argument reads behind the call as it read before'; 0 by the template 'total and deterministic' (their statements: YtoeakhllpijkiaaTotals.lean).
  GIVEN WITH THE SEED: the statements are not yours to turn. If you find one false, say at which input.
  Laid BY PROGRAM, IN A SANDBOX (cutbox-rows.mjs): the forced cells as the released guide's own fill.sh prints them over the translation 6b635575c839d0b4… (all of the seat's roots in one cut). By AI agents, Wed Nov 11 2026. No macro, syntax, notation, axiom, sorry.
-/
import Derived.Test.YtoeakhllpijkiaaChecked
import GoSem.Claim
import GoSem.ClaimJoined
import GoSem.ClaimMapViews
import Derived.JoinedTies
import Derived.KernelRfl
namespace Go.Proofs.Ytoeakhllpijkiaa
/- THE CELL 'sum', in the pinned program and in every row, IS THE sha256 OF THE DUMP (.gsa) THAT YtoeakhllpijkiaaProg.lean LOADS. Nothing in Lean hashes anything: it is a label: what it is worth is what the hold of that sum in a sandbox is worth. -/
noncomputable def Try.pinned : Pinned := { name := "ytoeakhllpijkiaa", sum := "6b635575c839d0b4d4655a09a7cc3cd36a89c93020637f7d4d1fc2ef7fe7a6e2", checked := Try.checked }
namespace Rows
def none {H : Type} : Left H := { results := [], args := [] }

/-- 'emulatorlaw15.DriveNews': WHATEVER THE INPUT: true; the input reads as it did. -/
def driveNewsSpec : ChangeSpec := { name := "driveNews", fn := fun _ => fun
  | [d] => { results := [.lit (.bool true)], args := [d] }
  | _ => none }
def driveNewsRow : OpenClaim := { program := "ytoeakhllpijkiaa", sum := "6b635575c839d0b4d4655a09a7cc3cd36a89c93020637f7d4d1fc2ef7fe7a6e2", func := "emulator/emulatorlaw15.DriveNews", spec := "driveNews", inPlace := ["internal/abi.NoEscape", "internal/bytealg.MakeNoZero", "slices.overlaps[int]"], apart := false }
def DriveNewsSaid : Prop := driveNewsRow.holds Try.pinned (OpenSpec.ofChange driveNewsSpec)

/-- ITS FALSE NEIGHBOUR: 'it returns false'. Refute it at one input. -/
def driveNewsWrong : ChangeSpec := { name := "driveNews", fn := fun _ => fun
  | [d] => { results := [.lit (.bool false)], args := [d] }
  | _ => none }
def DriveNewsWrongFalsely : Prop := driveNewsRow.holds Try.pinned (OpenSpec.ofChange driveNewsWrong)

/-- 'emulatorlaw15.DriveAccesses': WHATEVER THE INPUT: true; the input reads as it did. -/
def driveAccessesSpec : ChangeSpec := { name := "driveAccesses", fn := fun _ => fun
  | [d1, d2, d3] => { results := [.lit (.bool true)], args := [d1, d2, d3] }
  | _ => none }
def driveAccessesRow : OpenClaim := { program := "ytoeakhllpijkiaa", sum := "6b635575c839d0b4d4655a09a7cc3cd36a89c93020637f7d4d1fc2ef7fe7a6e2", func := "emulator/emulatorlaw15.DriveAccesses", spec := "driveAccesses", inPlace := ["internal/abi.NoEscape", "internal/bytealg.MakeNoZero", "slices.overlaps[int]"], apart := false }
def DriveAccessesSaid : Prop := driveAccessesRow.holds Try.pinned (OpenSpec.ofChange driveAccessesSpec)

/-- ITS FALSE NEIGHBOUR: 'it returns false'. Refute it at one input. -/
def driveAccessesWrong : ChangeSpec := { name := "driveAccesses", fn := fun _ => fun
  | [d1, d2, d3] => { results := [.lit (.bool false)], args := [d1, d2, d3] }
  | _ => none }
def DriveAccessesWrongFalsely : Prop := driveAccessesRow.holds Try.pinned (OpenSpec.ofChange driveAccessesWrong)

/-- 'emulatorlaw15.DriveApplies': WHATEVER THE INPUT: true; the input reads as it did. -/
def driveAppliesSpec : ChangeSpec := { name := "driveApplies", fn := fun _ => fun
  | [d1, d2, d3] => { results := [.lit (.bool true)], args := [d1, d2, d3] }
  | _ => none }
def driveAppliesRow : OpenClaim := { program := "ytoeakhllpijkiaa", sum := "6b635575c839d0b4d4655a09a7cc3cd36a89c93020637f7d4d1fc2ef7fe7a6e2", func := "emulator/emulatorlaw15.DriveApplies", spec := "driveApplies", inPlace := ["internal/abi.NoEscape", "internal/bytealg.MakeNoZero", "slices.overlaps[int]"], apart := false }
def DriveAppliesSaid : Prop := driveAppliesRow.holds Try.pinned (OpenSpec.ofChange driveAppliesSpec)

/-- ITS FALSE NEIGHBOUR: 'it returns false'. Refute it at one input. -/
def driveAppliesWrong : ChangeSpec := { name := "driveApplies", fn := fun _ => fun
  | [d1, d2, d3] => { results := [.lit (.bool false)], args := [d1, d2, d3] }
  | _ => none }
def DriveAppliesWrongFalsely : Prop := driveAppliesRow.holds Try.pinned (OpenSpec.ofChange driveAppliesWrong)

/-- 'emulatorlaw15.DriveDiffs': WHATEVER THE INPUT: true; the input reads as it did. -/
def driveDiffsSpec : ChangeSpec := { name := "driveDiffs", fn := fun _ => fun
  | [d1, d2] => { results := [.lit (.bool true)], args := [d1, d2] }
  | _ => none }
def driveDiffsRow : OpenClaim := { program := "ytoeakhllpijkiaa", sum := "6b635575c839d0b4d4655a09a7cc3cd36a89c93020637f7d4d1fc2ef7fe7a6e2", func := "emulator/emulatorlaw15.DriveDiffs", spec := "driveDiffs", inPlace := ["internal/abi.NoEscape", "internal/bytealg.MakeNoZero", "slices.overlaps[int]"], apart := false }
def DriveDiffsSaid : Prop := driveDiffsRow.holds Try.pinned (OpenSpec.ofChange driveDiffsSpec)

/-- ITS FALSE NEIGHBOUR: 'it returns false'. Refute it at one input. -/
def driveDiffsWrong : ChangeSpec := { name := "driveDiffs", fn := fun _ => fun
  | [d1, d2] => { results := [.lit (.bool false)], args := [d1, d2] }
  | _ => none }
def DriveDiffsWrongFalsely : Prop := driveDiffsRow.holds Try.pinned (OpenSpec.ofChange driveDiffsWrong)

/-- 'emulatorlaw15.DriveRights': WHATEVER THE INPUT: true; the input reads as it did. -/
def driveRightsSpec : ChangeSpec := { name := "driveRights", fn := fun _ => fun
  | [d] => { results := [.lit (.bool true)], args := [d] }
  | _ => none }
def driveRightsRow : OpenClaim := { program := "ytoeakhllpijkiaa", sum := "6b635575c839d0b4d4655a09a7cc3cd36a89c93020637f7d4d1fc2ef7fe7a6e2", func := "emulator/emulatorlaw15.DriveRights", spec := "driveRights", inPlace := ["internal/abi.NoEscape", "internal/bytealg.MakeNoZero", "slices.overlaps[int]"], apart := false }
def DriveRightsSaid : Prop := driveRightsRow.holds Try.pinned (OpenSpec.ofChange driveRightsSpec)

/-- ITS FALSE NEIGHBOUR: 'it returns false'. Refute it at one input. -/
def driveRightsWrong : ChangeSpec := { name := "driveRights", fn := fun _ => fun
  | [d] => { results := [.lit (.bool false)], args := [d] }
  | _ => none }
def DriveRightsWrongFalsely : Prop := driveRightsRow.holds Try.pinned (OpenSpec.ofChange driveRightsWrong)

/-- 'emulatorlaw15.DriveBack': WHATEVER THE INPUT: true; the input reads as it did. -/
def driveBackSpec : ChangeSpec := { name := "driveBack", fn := fun _ => fun
  | [d1, d2, d3] => { results := [.lit (.bool true)], args := [d1, d2, d3] }
  | _ => none }
def driveBackRow : OpenClaim := { program := "ytoeakhllpijkiaa", sum := "6b635575c839d0b4d4655a09a7cc3cd36a89c93020637f7d4d1fc2ef7fe7a6e2", func := "emulator/emulatorlaw15.DriveBack", spec := "driveBack", inPlace := ["internal/abi.NoEscape", "internal/bytealg.MakeNoZero", "slices.overlaps[int]"], apart := false }
def DriveBackSaid : Prop := driveBackRow.holds Try.pinned (OpenSpec.ofChange driveBackSpec)

/-- ITS FALSE NEIGHBOUR: 'it returns false'. Refute it at one input. -/
def driveBackWrong : ChangeSpec := { name := "driveBack", fn := fun _ => fun
  | [d1, d2, d3] => { results := [.lit (.bool false)], args := [d1, d2, d3] }
  | _ => none }
def DriveBackWrongFalsely : Prop := driveBackRow.holds Try.pinned (OpenSpec.ofChange driveBackWrong)

/-- 'emulatorlaw15.DriveSplits': WHATEVER THE INPUT: true; the input reads as it did. -/
def driveSplitsSpec : ChangeSpec := { name := "driveSplits", fn := fun _ => fun
  | [d1, d2, d3] => { results := [.lit (.bool true)], args := [d1, d2, d3] }
  | _ => none }
def driveSplitsRow : OpenClaim := { program := "ytoeakhllpijkiaa", sum := "6b635575c839d0b4d4655a09a7cc3cd36a89c93020637f7d4d1fc2ef7fe7a6e2", func := "emulator/emulatorlaw15.DriveSplits", spec := "driveSplits", inPlace := ["internal/abi.NoEscape", "internal/bytealg.MakeNoZero", "slices.overlaps[int]"], apart := false }
def DriveSplitsSaid : Prop := driveSplitsRow.holds Try.pinned (OpenSpec.ofChange driveSplitsSpec)

/-- ITS FALSE NEIGHBOUR: 'it returns false'. Refute it at one input. -/
def driveSplitsWrong : ChangeSpec := { name := "driveSplits", fn := fun _ => fun
  | [d1, d2, d3] => { results := [.lit (.bool false)], args := [d1, d2, d3] }
  | _ => none }
def DriveSplitsWrongFalsely : Prop := driveSplitsRow.holds Try.pinned (OpenSpec.ofChange driveSplitsWrong)

/- THE SECOND FORM. 'bulk': how many values and letters a reading holds, each counted each time it is reached (what is shared counts as often as it is met; a slice's spare places count too). A statement '..UptoSaid' is the law's where the arguments, and the package variables that the reading takes, are together of bulk at most 1048576: NARROWER than '..Said'. Prove '..Said' where nothing that the law and all that it calls make is longer than what came in: it says more and counts as full. Else prove '..UptoSaid'. A law counts once. -/
mutual
def uptoBulk {H : Type} : DataW H → Nat
  | .lit (.string bytes) => bytes.length + 1
  | .lit _ => 1
  | .nil => 1
  | .ptr d => uptoBulk d + 1
  | .slice elems spare => uptoBulkAll elems + uptoBulkAll spare + 1
  | .agg parts => uptoBulkAll parts + 1
  | .iface _ d => uptoBulk d + 1
  | .map entries => uptoBulkEntries entries + 1
  | .held _ => 1
def uptoBulkAll {H : Type} : List (DataW H) → Nat
  | [] => 0
  | d :: r => uptoBulk d + uptoBulkAll r
def uptoBulkEntries {H : Type} : List (Lit × DataW H) → Nat
  | [] => 0
  | x :: r => uptoBulkEntry x + uptoBulkEntries r
def uptoBulkEntry {H : Type} : Lit × DataW H → Nat
  | (.string bytes, d) => bytes.length + uptoBulk d + 1
  | (_, d) => uptoBulk d + 1
 end
def uptoSmall : (H : Type) → List (DataW H) → Bool := fun _ ds => decide (uptoBulkAll ds ≤ 1048576)
def OpenSpec.upto (s : _root_.Go.ChangeSpec) : _root_.Go.OpenSpec := { _root_.Go.OpenSpec.ofChange s with cond := some uptoSmall }

/-- 'emulatorlaw15.DriveNews', WHERE WHAT IT READS IS OF BULK AT MOST 1048576: true; the input reads as it did. -/
def driveNewsUptoRow : OpenClaim := { program := "ytoeakhllpijkiaa", sum := "6b635575c839d0b4d4655a09a7cc3cd36a89c93020637f7d4d1fc2ef7fe7a6e2", func := "emulator/emulatorlaw15.DriveNews", spec := "driveNews", inPlace := ["internal/abi.NoEscape", "internal/bytealg.MakeNoZero", "slices.overlaps[int]"], apart := false, narrowed := true }
def DriveNewsUptoSaid : Prop := driveNewsUptoRow.holds Try.pinned (OpenSpec.upto driveNewsSpec)

/-- 'emulatorlaw15.DriveAccesses', WHERE WHAT IT READS IS OF BULK AT MOST 1048576: true; the input reads as it did. -/
def driveAccessesUptoRow : OpenClaim := { program := "ytoeakhllpijkiaa", sum := "6b635575c839d0b4d4655a09a7cc3cd36a89c93020637f7d4d1fc2ef7fe7a6e2", func := "emulator/emulatorlaw15.DriveAccesses", spec := "driveAccesses", inPlace := ["internal/abi.NoEscape", "internal/bytealg.MakeNoZero", "slices.overlaps[int]"], apart := false, narrowed := true }
def DriveAccessesUptoSaid : Prop := driveAccessesUptoRow.holds Try.pinned (OpenSpec.upto driveAccessesSpec)

/-- 'emulatorlaw15.DriveApplies', WHERE WHAT IT READS IS OF BULK AT MOST 1048576: true; the input reads as it did. -/
def driveAppliesUptoRow : OpenClaim := { program := "ytoeakhllpijkiaa", sum := "6b635575c839d0b4d4655a09a7cc3cd36a89c93020637f7d4d1fc2ef7fe7a6e2", func := "emulator/emulatorlaw15.DriveApplies", spec := "driveApplies", inPlace := ["internal/abi.NoEscape", "internal/bytealg.MakeNoZero", "slices.overlaps[int]"], apart := false, narrowed := true }
def DriveAppliesUptoSaid : Prop := driveAppliesUptoRow.holds Try.pinned (OpenSpec.upto driveAppliesSpec)

/-- 'emulatorlaw15.DriveDiffs', WHERE WHAT IT READS IS OF BULK AT MOST 1048576: true; the input reads as it did. -/
def driveDiffsUptoRow : OpenClaim := { program := "ytoeakhllpijkiaa", sum := "6b635575c839d0b4d4655a09a7cc3cd36a89c93020637f7d4d1fc2ef7fe7a6e2", func := "emulator/emulatorlaw15.DriveDiffs", spec := "driveDiffs", inPlace := ["internal/abi.NoEscape", "internal/bytealg.MakeNoZero", "slices.overlaps[int]"], apart := false, narrowed := true }
def DriveDiffsUptoSaid : Prop := driveDiffsUptoRow.holds Try.pinned (OpenSpec.upto driveDiffsSpec)

/-- 'emulatorlaw15.DriveRights', WHERE WHAT IT READS IS OF BULK AT MOST 1048576: true; the input reads as it did. -/
def driveRightsUptoRow : OpenClaim := { program := "ytoeakhllpijkiaa", sum := "6b635575c839d0b4d4655a09a7cc3cd36a89c93020637f7d4d1fc2ef7fe7a6e2", func := "emulator/emulatorlaw15.DriveRights", spec := "driveRights", inPlace := ["internal/abi.NoEscape", "internal/bytealg.MakeNoZero", "slices.overlaps[int]"], apart := false, narrowed := true }
def DriveRightsUptoSaid : Prop := driveRightsUptoRow.holds Try.pinned (OpenSpec.upto driveRightsSpec)

/-- 'emulatorlaw15.DriveBack', WHERE WHAT IT READS IS OF BULK AT MOST 1048576: true; the input reads as it did. -/
def driveBackUptoRow : OpenClaim := { program := "ytoeakhllpijkiaa", sum := "6b635575c839d0b4d4655a09a7cc3cd36a89c93020637f7d4d1fc2ef7fe7a6e2", func := "emulator/emulatorlaw15.DriveBack", spec := "driveBack", inPlace := ["internal/abi.NoEscape", "internal/bytealg.MakeNoZero", "slices.overlaps[int]"], apart := false, narrowed := true }
def DriveBackUptoSaid : Prop := driveBackUptoRow.holds Try.pinned (OpenSpec.upto driveBackSpec)

/-- 'emulatorlaw15.DriveSplits', WHERE WHAT IT READS IS OF BULK AT MOST 1048576: true; the input reads as it did. -/
def driveSplitsUptoRow : OpenClaim := { program := "ytoeakhllpijkiaa", sum := "6b635575c839d0b4d4655a09a7cc3cd36a89c93020637f7d4d1fc2ef7fe7a6e2", func := "emulator/emulatorlaw15.DriveSplits", spec := "driveSplits", inPlace := ["internal/abi.NoEscape", "internal/bytealg.MakeNoZero", "slices.overlaps[int]"], apart := false, narrowed := true }
def DriveSplitsUptoSaid : Prop := driveSplitsUptoRow.holds Try.pinned (OpenSpec.upto driveSplitsSpec)

end Rows
end Go.Proofs.Ytoeakhllpijkiaa
