/-
  No cell of these rows narrows 'for every input' (looked for: loops, veiled, ifaces, maps, wideKeys, modest, calm, conditions, laid).
  DERIVED. THE GIVEN ROWS OF THIS SEAT. 5 by the template 'for every input the law returns true; each argument reads behind the call as it read before'; 0 by the template 'total and deterministic' (their statements: YthpkihimboiglaaTotals.lean).
  GIVEN WITH THE SEED: the statements are not yours to turn. If you find one false, say at which input.
  Laid BY PROGRAM, IN A SANDBOX (cutbox-rows.mjs): the forced cells as the released guide's own fill.sh prints them over the translation 7e3f310b14adff75… (all of the seat's roots in one cut). By AI agents, Wed Nov 11 2026. No macro, syntax, notation, axiom, sorry.
-/
import Derived.Test.YthpkihimboiglaaChecked
import GoSem.Claim
import GoSem.ClaimJoined
import GoSem.ClaimMapViews
import Derived.JoinedTies
import Derived.KernelRfl
namespace Go.Proofs.Ythpkihimboiglaa
/- THE CELL 'sum', in the pinned program and in every row, IS THE sha256 OF THE DUMP (.gsa) THAT YthpkihimboiglaaProg.lean LOADS. Nothing in Lean hashes anything: it is a label: what it is worth is what the hold of that sum in a sandbox is worth. -/
noncomputable def Try.pinned : Pinned := { name := "ythpkihimboiglaa", sum := "7e3f310b14adff7588ddec4bf32deec5d61b6a3d396ba271e511d721a954e581", checked := Try.checked }
namespace Rows
def none {H : Type} : Left H := { results := [], args := [] }

/-- 'emulatorlaw45.SwapFits': WHATEVER THE INPUT: true; the input reads as it did. -/
def swapFitsSpec : ChangeSpec := { name := "swapFits", fn := fun _ => fun
  | [d1, d2, d3] => { results := [.lit (.bool true)], args := [d1, d2, d3] }
  | _ => none }
def swapFitsRow : OpenClaim := { program := "ythpkihimboiglaa", sum := "7e3f310b14adff7588ddec4bf32deec5d61b6a3d396ba271e511d721a954e581", func := "emulator/emulatorlaw45.SwapFits", spec := "swapFits", inPlace := ["internal/abi.NoEscape", "internal/bytealg.MakeNoZero"], unfollowed := true, recurses := true, apart := false }
def SwapFitsSaid : Prop := swapFitsRow.holds Try.pinned (OpenSpec.ofChange swapFitsSpec)

/-- ITS FALSE NEIGHBOUR: 'it returns false'. Refute it at one input. -/
def swapFitsWrong : ChangeSpec := { name := "swapFits", fn := fun _ => fun
  | [d1, d2, d3] => { results := [.lit (.bool false)], args := [d1, d2, d3] }
  | _ => none }
def SwapFitsWrongFalsely : Prop := swapFitsRow.holds Try.pinned (OpenSpec.ofChange swapFitsWrong)

/-- 'emulatorlaw45.SwapLists': WHATEVER THE INPUT: true; the input reads as it did. -/
def swapListsSpec : ChangeSpec := { name := "swapLists", fn := fun _ => fun
  | [d1, d2] => { results := [.lit (.bool true)], args := [d1, d2] }
  | _ => none }
def swapListsRow : OpenClaim := { program := "ythpkihimboiglaa", sum := "7e3f310b14adff7588ddec4bf32deec5d61b6a3d396ba271e511d721a954e581", func := "emulator/emulatorlaw45.SwapLists", spec := "swapLists", inPlace := ["internal/abi.NoEscape", "internal/bytealg.MakeNoZero"], unfollowed := true, recurses := true, apart := false }
def SwapListsSaid : Prop := swapListsRow.holds Try.pinned (OpenSpec.ofChange swapListsSpec)

/-- ITS FALSE NEIGHBOUR: 'it returns false'. Refute it at one input. -/
def swapListsWrong : ChangeSpec := { name := "swapLists", fn := fun _ => fun
  | [d1, d2] => { results := [.lit (.bool false)], args := [d1, d2] }
  | _ => none }
def SwapListsWrongFalsely : Prop := swapListsRow.holds Try.pinned (OpenSpec.ofChange swapListsWrong)

/-- 'emulatorlaw45.SwapLeast': WHATEVER THE INPUT: true; the input reads as it did. -/
def swapLeastSpec : ChangeSpec := { name := "swapLeast", fn := fun _ => fun
  | [d1, d2, d3] => { results := [.lit (.bool true)], args := [d1, d2, d3] }
  | _ => none }
def swapLeastRow : OpenClaim := { program := "ythpkihimboiglaa", sum := "7e3f310b14adff7588ddec4bf32deec5d61b6a3d396ba271e511d721a954e581", func := "emulator/emulatorlaw45.SwapLeast", spec := "swapLeast", inPlace := ["internal/abi.NoEscape", "internal/bytealg.MakeNoZero"], unfollowed := true, recurses := true, apart := false }
def SwapLeastSaid : Prop := swapLeastRow.holds Try.pinned (OpenSpec.ofChange swapLeastSpec)

/-- ITS FALSE NEIGHBOUR: 'it returns false'. Refute it at one input. -/
def swapLeastWrong : ChangeSpec := { name := "swapLeast", fn := fun _ => fun
  | [d1, d2, d3] => { results := [.lit (.bool false)], args := [d1, d2, d3] }
  | _ => none }
def SwapLeastWrongFalsely : Prop := swapLeastRow.holds Try.pinned (OpenSpec.ofChange swapLeastWrong)

/-- 'emulatorlaw45.SwapKeeps': WHATEVER THE INPUT: true; the input reads as it did. -/
def swapKeepsSpec : ChangeSpec := { name := "swapKeeps", fn := fun _ => fun
  | [d1, d2] => { results := [.lit (.bool true)], args := [d1, d2] }
  | _ => none }
def swapKeepsRow : OpenClaim := { program := "ythpkihimboiglaa", sum := "7e3f310b14adff7588ddec4bf32deec5d61b6a3d396ba271e511d721a954e581", func := "emulator/emulatorlaw45.SwapKeeps", spec := "swapKeeps", inPlace := ["internal/abi.NoEscape", "internal/bytealg.MakeNoZero"], unfollowed := true, recurses := true, apart := false }
def SwapKeepsSaid : Prop := swapKeepsRow.holds Try.pinned (OpenSpec.ofChange swapKeepsSpec)

/-- ITS FALSE NEIGHBOUR: 'it returns false'. Refute it at one input. -/
def swapKeepsWrong : ChangeSpec := { name := "swapKeeps", fn := fun _ => fun
  | [d1, d2] => { results := [.lit (.bool false)], args := [d1, d2] }
  | _ => none }
def SwapKeepsWrongFalsely : Prop := swapKeepsRow.holds Try.pinned (OpenSpec.ofChange swapKeepsWrong)

/-- 'emulatorlaw45.SwapReturns': WHATEVER THE INPUT: true; the input reads as it did. -/
def swapReturnsSpec : ChangeSpec := { name := "swapReturns", fn := fun _ => fun
  | [d1, d2] => { results := [.lit (.bool true)], args := [d1, d2] }
  | _ => none }
def swapReturnsRow : OpenClaim := { program := "ythpkihimboiglaa", sum := "7e3f310b14adff7588ddec4bf32deec5d61b6a3d396ba271e511d721a954e581", func := "emulator/emulatorlaw45.SwapReturns", spec := "swapReturns", inPlace := ["internal/abi.NoEscape", "internal/bytealg.MakeNoZero"], unfollowed := true, recurses := true, apart := false }
def SwapReturnsSaid : Prop := swapReturnsRow.holds Try.pinned (OpenSpec.ofChange swapReturnsSpec)

/-- ITS FALSE NEIGHBOUR: 'it returns false'. Refute it at one input. -/
def swapReturnsWrong : ChangeSpec := { name := "swapReturns", fn := fun _ => fun
  | [d1, d2] => { results := [.lit (.bool false)], args := [d1, d2] }
  | _ => none }
def SwapReturnsWrongFalsely : Prop := swapReturnsRow.holds Try.pinned (OpenSpec.ofChange swapReturnsWrong)

/- THE SECOND FORM. 'bulk': how many values and letters a reading holds, each counted each time it is reached (what is shared counts as often as it is met; a slice's spare places count too). A statement '..UptoSaid' is the law's where the arguments, and the package variables that the reading takes, are together of bulk at most 1048576: NARROWER than '..Said'. Prove '..Said' where nothing that the law and all that it calls make is longer than what came in: it says more and counts as full. Else prove '..UptoSaid'. A law counts once. -/
mutual
def uptoBulk {H : Type} : DataW H → Nat
  | .lit (.string bytes) => bytes.length + 1
  | .lit _ => 1
  | .nil => 1
  | .ptr d => uptoBulk d + 1
  | .slice elems spare => uptoBulkAll elems + uptoBulkAll spare + 1
  | .agg parts => uptoBulkAll parts + 1
  | .iface _ d => uptoBulk d + 1
  | .map entries => uptoBulkEntries entries + 1
  | .held _ => 1
def uptoBulkAll {H : Type} : List (DataW H) → Nat
  | [] => 0
  | d :: r => uptoBulk d + uptoBulkAll r
def uptoBulkEntries {H : Type} : List (Lit × DataW H) → Nat
  | [] => 0
  | x :: r => uptoBulkEntry x + uptoBulkEntries r
def uptoBulkEntry {H : Type} : Lit × DataW H → Nat
  | (.string bytes, d) => bytes.length + uptoBulk d + 1
  | (_, d) => uptoBulk d + 1
 end
def uptoSmall : (H : Type) → List (DataW H) → Bool := fun _ ds => decide (uptoBulkAll ds ≤ 1048576)
def OpenSpec.upto (s : _root_.Go.ChangeSpec) : _root_.Go.OpenSpec := { _root_.Go.OpenSpec.ofChange s with cond := some uptoSmall }

/-- 'emulatorlaw45.SwapFits', WHERE WHAT IT READS IS OF BULK AT MOST 1048576: true; the input reads as it did. -/
def swapFitsUptoRow : OpenClaim := { program := "ythpkihimboiglaa", sum := "7e3f310b14adff7588ddec4bf32deec5d61b6a3d396ba271e511d721a954e581", func := "emulator/emulatorlaw45.SwapFits", spec := "swapFits", inPlace := ["internal/abi.NoEscape", "internal/bytealg.MakeNoZero"], unfollowed := true, recurses := true, apart := false, narrowed := true }
def SwapFitsUptoSaid : Prop := swapFitsUptoRow.holds Try.pinned (OpenSpec.upto swapFitsSpec)

/-- 'emulatorlaw45.SwapLists', WHERE WHAT IT READS IS OF BULK AT MOST 1048576: true; the input reads as it did. -/
def swapListsUptoRow : OpenClaim := { program := "ythpkihimboiglaa", sum := "7e3f310b14adff7588ddec4bf32deec5d61b6a3d396ba271e511d721a954e581", func := "emulator/emulatorlaw45.SwapLists", spec := "swapLists", inPlace := ["internal/abi.NoEscape", "internal/bytealg.MakeNoZero"], unfollowed := true, recurses := true, apart := false, narrowed := true }
def SwapListsUptoSaid : Prop := swapListsUptoRow.holds Try.pinned (OpenSpec.upto swapListsSpec)

/-- 'emulatorlaw45.SwapLeast', WHERE WHAT IT READS IS OF BULK AT MOST 1048576: true; the input reads as it did. -/
def swapLeastUptoRow : OpenClaim := { program := "ythpkihimboiglaa", sum := "7e3f310b14adff7588ddec4bf32deec5d61b6a3d396ba271e511d721a954e581", func := "emulator/emulatorlaw45.SwapLeast", spec := "swapLeast", inPlace := ["internal/abi.NoEscape", "internal/bytealg.MakeNoZero"], unfollowed := true, recurses := true, apart := false, narrowed := true }
def SwapLeastUptoSaid : Prop := swapLeastUptoRow.holds Try.pinned (OpenSpec.upto swapLeastSpec)

/-- 'emulatorlaw45.SwapKeeps', WHERE WHAT IT READS IS OF BULK AT MOST 1048576: true; the input reads as it did. -/
def swapKeepsUptoRow : OpenClaim := { program := "ythpkihimboiglaa", sum := "7e3f310b14adff7588ddec4bf32deec5d61b6a3d396ba271e511d721a954e581", func := "emulator/emulatorlaw45.SwapKeeps", spec := "swapKeeps", inPlace := ["internal/abi.NoEscape", "internal/bytealg.MakeNoZero"], unfollowed := true, recurses := true, apart := false, narrowed := true }
def SwapKeepsUptoSaid : Prop := swapKeepsUptoRow.holds Try.pinned (OpenSpec.upto swapKeepsSpec)

/-- 'emulatorlaw45.SwapReturns', WHERE WHAT IT READS IS OF BULK AT MOST 1048576: true; the input reads as it did. -/
def swapReturnsUptoRow : OpenClaim := { program := "ythpkihimboiglaa", sum := "7e3f310b14adff7588ddec4bf32deec5d61b6a3d396ba271e511d721a954e581", func := "emulator/emulatorlaw45.SwapReturns", spec := "swapReturns", inPlace := ["internal/abi.NoEscape", "internal/bytealg.MakeNoZero"], unfollowed := true, recurses := true, apart := false, narrowed := true }
def SwapReturnsUptoSaid : Prop := swapReturnsUptoRow.holds Try.pinned (OpenSpec.upto swapReturnsSpec)

end Rows
end Go.Proofs.Ythpkihimboiglaa
