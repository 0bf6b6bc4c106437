/-
  NARROWER THAN 'FOR EVERY INPUT', by the rows' own cells (each row's printed sentence says how): FsCreates: laid · FsReadsBack: laid · FsNames: laid · FsReads: laid · FsKeeps: laid · FsAtomic: laid · FsLinks: laid.
  DERIVED. THE GIVEN ROWS OF THIS SEAT. 7 by the template 'for every input the law returns true; each argument reads behind the call as it read before'; 0 by the template 'total and deterministic' (their statements: YtfgikfagblhkiaaGreatDoorTotals.lean).
  GIVEN WITH THE SEED: the statements are not yours to turn. If you find one false, say at which input.
  Laid BY PROGRAM, IN A SANDBOX (cutbox-rows.mjs): the forced cells as the released guide's own fill.sh prints them over the translation 35c517b9cd3b9c8a… (all of the seat's roots in one cut). By AI agents, Wed Nov 11 2026. No macro, syntax, notation, axiom, sorry.
-/
import Derived.Test.YtfgikfagblhkiaaGreatDoorChecked
import GoSem.PinnedTables
import GoSem.Claim
import GoSem.ClaimJoined
import GoSem.ClaimMapViews
import Derived.JoinedTies
import Derived.KernelRfl
namespace Go.Proofs.YtfgikfagblhkiaaGreatDoor
/- THE CELL 'sum', in the pinned program and in every row, IS THE sha256 OF THE DUMP (.gsa) THAT YtfgikfagblhkiaaGreatDoorProg.lean LOADS. Nothing in Lean hashes anything: it is a label: what it is worth is what the hold of that sum in a sandbox is worth. -/
noncomputable def Tryz.pinned : Pinned := { name := "ytfgikfagblhkiaagreatdoor", sum := "35c517b9cd3b9c8a86f7e2fbdc76cbfd5cc318a4bfe940041d3144c3509697e3", checked := Tryz.checked }
namespace Rows
def none {H : Type} : Left H := { results := [], args := [] }

/- WHAT THE LISTED PACKAGE-LEVEL VARIABLES READ AS WHEN THE CALL BEGINS. Each datum BY PROGRAM (the guide's laid-datum.mjs) off the statement by which the dump's own 'gosem.cut.vars' lays the variable. In a bare row this is a premise. The card (YtfgikfagblhkiaaGreatDoorCards.lean) ties it to the program's text. -/
def laid_unicode_utf8_acceptRanges {H : Type} : DataW H := .agg [.agg [.lit (.int .u8 128), .lit (.int .u8 191)], .agg [.lit (.int .u8 160), .lit (.int .u8 191)], .agg [.lit (.int .u8 128), .lit (.int .u8 159)], .agg [.lit (.int .u8 144), .lit (.int .u8 191)], .agg [.lit (.int .u8 128), .lit (.int .u8 143)], .agg [.lit (.int .u8 0), .lit (.int .u8 0)], .agg [.lit (.int .u8 0), .lit (.int .u8 0)], .agg [.lit (.int .u8 0), .lit (.int .u8 0)], .agg [.lit (.int .u8 0), .lit (.int .u8 0)], .agg [.lit (.int .u8 0), .lit (.int .u8 0)], .agg [.lit (.int .u8 0), .lit (.int .u8 0)], .agg [.lit (.int .u8 0), .lit (.int .u8 0)], .agg [.lit (.int .u8 0), .lit (.int .u8 0)], .agg [.lit (.int .u8 0), .lit (.int .u8 0)], .agg [.lit (.int .u8 0), .lit (.int .u8 0)], .agg [.lit (.int .u8 0), .lit (.int .u8 0)]]
/-- One of Go's own tables, pinned by name: the form's constant. -/
def laid_unicode_utf8_first : DataW Unit := Go.Pinned.utf8First

/-- 'emulatorlaw40.FsCreates': WHATEVER THE INPUT: true; the input reads as it did. -/
def fsCreatesSpec : ChangeSpec := { name := "fsCreates", fn := fun _ => fun
  | [d1, d2, d3] => { results := [.lit (.bool true)], args := [d1, d2, d3] }
  | _ => none }
def fsCreatesRow : OpenClaim := { program := "ytfgikfagblhkiaagreatdoor", sum := "35c517b9cd3b9c8a86f7e2fbdc76cbfd5cc318a4bfe940041d3144c3509697e3", func := "emulator/emulatorlaw40.FsCreates", spec := "fsCreates", inPlace := ["internal/abi.NoEscape", "internal/bytealg.MakeNoZero", "internal/bytealg.IndexByteString", "internal/bytealg.IndexString", "internal/bytealg.abigen_runtime_cmpstring", "slices.overlaps[emulator/api.Entry]"], unfollowed := true, recurses := true, named := ["internal/bytealg.MaxLen", "unicode/utf8.first", "unicode/utf8.acceptRanges"], apart := false, laid := [("unicode/utf8.acceptRanges", laid_unicode_utf8_acceptRanges), ("unicode/utf8.first", laid_unicode_utf8_first)] }
def FsCreatesSaid : Prop := fsCreatesRow.holds Tryz.pinned (OpenSpec.ofChange fsCreatesSpec)

/-- ITS FALSE NEIGHBOUR: 'it returns false'. Refute it at one input. -/
def fsCreatesWrong : ChangeSpec := { name := "fsCreates", fn := fun _ => fun
  | [d1, d2, d3] => { results := [.lit (.bool false)], args := [d1, d2, d3] }
  | _ => none }
def FsCreatesWrongFalsely : Prop := fsCreatesRow.holds Tryz.pinned (OpenSpec.ofChange fsCreatesWrong)

/-- 'emulatorlaw40.FsReadsBack': WHATEVER THE INPUT: true; the input reads as it did. -/
def fsReadsBackSpec : ChangeSpec := { name := "fsReadsBack", fn := fun _ => fun
  | [d1, d2, d3] => { results := [.lit (.bool true)], args := [d1, d2, d3] }
  | _ => none }
def fsReadsBackRow : OpenClaim := { program := "ytfgikfagblhkiaagreatdoor", sum := "35c517b9cd3b9c8a86f7e2fbdc76cbfd5cc318a4bfe940041d3144c3509697e3", func := "emulator/emulatorlaw40.FsReadsBack", spec := "fsReadsBack", inPlace := ["internal/abi.NoEscape", "internal/bytealg.MakeNoZero", "internal/bytealg.IndexByteString", "internal/bytealg.IndexString", "internal/bytealg.abigen_runtime_cmpstring", "slices.overlaps[emulator/api.Entry]"], unfollowed := true, recurses := true, named := ["internal/bytealg.MaxLen", "unicode/utf8.first", "unicode/utf8.acceptRanges"], apart := false, laid := [("unicode/utf8.acceptRanges", laid_unicode_utf8_acceptRanges), ("unicode/utf8.first", laid_unicode_utf8_first)] }
def FsReadsBackSaid : Prop := fsReadsBackRow.holds Tryz.pinned (OpenSpec.ofChange fsReadsBackSpec)

/-- ITS FALSE NEIGHBOUR: 'it returns false'. Refute it at one input. -/
def fsReadsBackWrong : ChangeSpec := { name := "fsReadsBack", fn := fun _ => fun
  | [d1, d2, d3] => { results := [.lit (.bool false)], args := [d1, d2, d3] }
  | _ => none }
def FsReadsBackWrongFalsely : Prop := fsReadsBackRow.holds Tryz.pinned (OpenSpec.ofChange fsReadsBackWrong)

/-- 'emulatorlaw40.FsNames': WHATEVER THE INPUT: true; the input reads as it did. -/
def fsNamesSpec : ChangeSpec := { name := "fsNames", fn := fun _ => fun
  | [d1, d2, d3] => { results := [.lit (.bool true)], args := [d1, d2, d3] }
  | _ => none }
def fsNamesRow : OpenClaim := { program := "ytfgikfagblhkiaagreatdoor", sum := "35c517b9cd3b9c8a86f7e2fbdc76cbfd5cc318a4bfe940041d3144c3509697e3", func := "emulator/emulatorlaw40.FsNames", spec := "fsNames", inPlace := ["internal/abi.NoEscape", "internal/bytealg.MakeNoZero", "internal/bytealg.IndexByteString", "internal/bytealg.IndexString", "internal/bytealg.abigen_runtime_cmpstring", "slices.overlaps[emulator/api.Entry]"], unfollowed := true, recurses := true, named := ["internal/bytealg.MaxLen", "unicode/utf8.first", "unicode/utf8.acceptRanges"], apart := false, laid := [("unicode/utf8.acceptRanges", laid_unicode_utf8_acceptRanges), ("unicode/utf8.first", laid_unicode_utf8_first)] }
def FsNamesSaid : Prop := fsNamesRow.holds Tryz.pinned (OpenSpec.ofChange fsNamesSpec)

/-- ITS FALSE NEIGHBOUR: 'it returns false'. Refute it at one input. -/
def fsNamesWrong : ChangeSpec := { name := "fsNames", fn := fun _ => fun
  | [d1, d2, d3] => { results := [.lit (.bool false)], args := [d1, d2, d3] }
  | _ => none }
def FsNamesWrongFalsely : Prop := fsNamesRow.holds Tryz.pinned (OpenSpec.ofChange fsNamesWrong)

/-- 'emulatorlaw40.FsReads': WHATEVER THE INPUT: true; the input reads as it did. -/
def fsReadsSpec : ChangeSpec := { name := "fsReads", fn := fun _ => fun
  | [d1, d2] => { results := [.lit (.bool true)], args := [d1, d2] }
  | _ => none }
def fsReadsRow : OpenClaim := { program := "ytfgikfagblhkiaagreatdoor", sum := "35c517b9cd3b9c8a86f7e2fbdc76cbfd5cc318a4bfe940041d3144c3509697e3", func := "emulator/emulatorlaw40.FsReads", spec := "fsReads", inPlace := ["internal/abi.NoEscape", "internal/bytealg.MakeNoZero", "internal/bytealg.IndexByteString", "internal/bytealg.IndexString", "internal/bytealg.abigen_runtime_cmpstring", "slices.overlaps[emulator/api.Entry]"], unfollowed := true, recurses := true, named := ["internal/bytealg.MaxLen", "unicode/utf8.first", "unicode/utf8.acceptRanges"], apart := false, laid := [("unicode/utf8.acceptRanges", laid_unicode_utf8_acceptRanges), ("unicode/utf8.first", laid_unicode_utf8_first)] }
def FsReadsSaid : Prop := fsReadsRow.holds Tryz.pinned (OpenSpec.ofChange fsReadsSpec)

/-- ITS FALSE NEIGHBOUR: 'it returns false'. Refute it at one input. -/
def fsReadsWrong : ChangeSpec := { name := "fsReads", fn := fun _ => fun
  | [d1, d2] => { results := [.lit (.bool false)], args := [d1, d2] }
  | _ => none }
def FsReadsWrongFalsely : Prop := fsReadsRow.holds Tryz.pinned (OpenSpec.ofChange fsReadsWrong)

/-- 'emulatorlaw40.FsKeeps': WHATEVER THE INPUT: true; the input reads as it did. -/
def fsKeepsSpec : ChangeSpec := { name := "fsKeeps", fn := fun _ => fun
  | [d1, d2] => { results := [.lit (.bool true)], args := [d1, d2] }
  | _ => none }
def fsKeepsRow : OpenClaim := { program := "ytfgikfagblhkiaagreatdoor", sum := "35c517b9cd3b9c8a86f7e2fbdc76cbfd5cc318a4bfe940041d3144c3509697e3", func := "emulator/emulatorlaw40.FsKeeps", spec := "fsKeeps", inPlace := ["internal/abi.NoEscape", "internal/bytealg.MakeNoZero", "internal/bytealg.IndexByteString", "internal/bytealg.IndexString", "internal/bytealg.abigen_runtime_cmpstring", "slices.overlaps[emulator/api.Entry]"], unfollowed := true, recurses := true, named := ["internal/bytealg.MaxLen", "unicode/utf8.first", "unicode/utf8.acceptRanges"], apart := false, laid := [("unicode/utf8.acceptRanges", laid_unicode_utf8_acceptRanges), ("unicode/utf8.first", laid_unicode_utf8_first)] }
def FsKeepsSaid : Prop := fsKeepsRow.holds Tryz.pinned (OpenSpec.ofChange fsKeepsSpec)

/-- ITS FALSE NEIGHBOUR: 'it returns false'. Refute it at one input. -/
def fsKeepsWrong : ChangeSpec := { name := "fsKeeps", fn := fun _ => fun
  | [d1, d2] => { results := [.lit (.bool false)], args := [d1, d2] }
  | _ => none }
def FsKeepsWrongFalsely : Prop := fsKeepsRow.holds Tryz.pinned (OpenSpec.ofChange fsKeepsWrong)

/-- 'emulatorlaw40.FsAtomic': WHATEVER THE INPUT: true; the input reads as it did. -/
def fsAtomicSpec : ChangeSpec := { name := "fsAtomic", fn := fun _ => fun
  | [d1, d2, d3] => { results := [.lit (.bool true)], args := [d1, d2, d3] }
  | _ => none }
def fsAtomicRow : OpenClaim := { program := "ytfgikfagblhkiaagreatdoor", sum := "35c517b9cd3b9c8a86f7e2fbdc76cbfd5cc318a4bfe940041d3144c3509697e3", func := "emulator/emulatorlaw40.FsAtomic", spec := "fsAtomic", inPlace := ["internal/abi.NoEscape", "internal/bytealg.MakeNoZero", "internal/bytealg.IndexByteString", "internal/bytealg.IndexString", "internal/bytealg.abigen_runtime_cmpstring", "slices.overlaps[emulator/api.Entry]"], unfollowed := true, recurses := true, named := ["internal/bytealg.MaxLen", "unicode/utf8.first", "unicode/utf8.acceptRanges"], apart := false, laid := [("unicode/utf8.acceptRanges", laid_unicode_utf8_acceptRanges), ("unicode/utf8.first", laid_unicode_utf8_first)] }
def FsAtomicSaid : Prop := fsAtomicRow.holds Tryz.pinned (OpenSpec.ofChange fsAtomicSpec)

/-- ITS FALSE NEIGHBOUR: 'it returns false'. Refute it at one input. -/
def fsAtomicWrong : ChangeSpec := { name := "fsAtomic", fn := fun _ => fun
  | [d1, d2, d3] => { results := [.lit (.bool false)], args := [d1, d2, d3] }
  | _ => none }
def FsAtomicWrongFalsely : Prop := fsAtomicRow.holds Tryz.pinned (OpenSpec.ofChange fsAtomicWrong)

/-- 'emulatorlaw40.FsLinks': WHATEVER THE INPUT: true; the input reads as it did. -/
def fsLinksSpec : ChangeSpec := { name := "fsLinks", fn := fun _ => fun
  | [d1, d2, d3] => { results := [.lit (.bool true)], args := [d1, d2, d3] }
  | _ => none }
def fsLinksRow : OpenClaim := { program := "ytfgikfagblhkiaagreatdoor", sum := "35c517b9cd3b9c8a86f7e2fbdc76cbfd5cc318a4bfe940041d3144c3509697e3", func := "emulator/emulatorlaw40.FsLinks", spec := "fsLinks", inPlace := ["internal/abi.NoEscape", "internal/bytealg.MakeNoZero", "internal/bytealg.IndexByteString", "internal/bytealg.IndexString", "internal/bytealg.abigen_runtime_cmpstring", "slices.overlaps[emulator/api.Entry]"], unfollowed := true, recurses := true, named := ["internal/bytealg.MaxLen", "unicode/utf8.first", "unicode/utf8.acceptRanges"], apart := false, laid := [("unicode/utf8.acceptRanges", laid_unicode_utf8_acceptRanges), ("unicode/utf8.first", laid_unicode_utf8_first)] }
def FsLinksSaid : Prop := fsLinksRow.holds Tryz.pinned (OpenSpec.ofChange fsLinksSpec)

/-- ITS FALSE NEIGHBOUR: 'it returns false'. Refute it at one input. -/
def fsLinksWrong : ChangeSpec := { name := "fsLinks", fn := fun _ => fun
  | [d1, d2, d3] => { results := [.lit (.bool false)], args := [d1, d2, d3] }
  | _ => none }
def FsLinksWrongFalsely : Prop := fsLinksRow.holds Tryz.pinned (OpenSpec.ofChange fsLinksWrong)

/- THE SECOND FORM. 'bulk': how many values and letters a reading holds, each counted each time it is reached (what is shared counts as often as it is met; a slice's spare places count too). A statement '..UptoSaid' is the law's where the arguments, and the package variables that the reading takes, are together of bulk at most 1048576: NARROWER than '..Said'. Prove '..Said' where nothing that the law and all that it calls make is longer than what came in: it says more and counts as full. Else prove '..UptoSaid'. A law counts once. -/
mutual
def uptoBulk {H : Type} : DataW H → Nat
  | .lit (.string bytes) => bytes.length + 1
  | .lit _ => 1
  | .nil => 1
  | .ptr d => uptoBulk d + 1
  | .slice elems spare => uptoBulkAll elems + uptoBulkAll spare + 1
  | .agg parts => uptoBulkAll parts + 1
  | .iface _ d => uptoBulk d + 1
  | .map entries => uptoBulkEntries entries + 1
  | .held _ => 1
def uptoBulkAll {H : Type} : List (DataW H) → Nat
  | [] => 0
  | d :: r => uptoBulk d + uptoBulkAll r
def uptoBulkEntries {H : Type} : List (Lit × DataW H) → Nat
  | [] => 0
  | x :: r => uptoBulkEntry x + uptoBulkEntries r
def uptoBulkEntry {H : Type} : Lit × DataW H → Nat
  | (.string bytes, d) => bytes.length + uptoBulk d + 1
  | (_, d) => uptoBulk d + 1
 end
def uptoSmall : (H : Type) → List (DataW H) → Bool := fun _ ds => decide (uptoBulkAll ds ≤ 1048576)
def OpenSpec.upto (s : _root_.Go.ChangeSpec) : _root_.Go.OpenSpec := { _root_.Go.OpenSpec.ofChange s with cond := some uptoSmall }

/-- 'emulatorlaw40.FsCreates', WHERE WHAT IT READS IS OF BULK AT MOST 1048576: true; the input reads as it did. -/
def fsCreatesUptoRow : OpenClaim := { program := "ytfgikfagblhkiaagreatdoor", sum := "35c517b9cd3b9c8a86f7e2fbdc76cbfd5cc318a4bfe940041d3144c3509697e3", func := "emulator/emulatorlaw40.FsCreates", spec := "fsCreates", inPlace := ["internal/abi.NoEscape", "internal/bytealg.MakeNoZero", "internal/bytealg.IndexByteString", "internal/bytealg.IndexString", "internal/bytealg.abigen_runtime_cmpstring", "slices.overlaps[emulator/api.Entry]"], unfollowed := true, recurses := true, named := ["internal/bytealg.MaxLen", "unicode/utf8.first", "unicode/utf8.acceptRanges"], apart := false, laid := [("unicode/utf8.acceptRanges", laid_unicode_utf8_acceptRanges), ("unicode/utf8.first", laid_unicode_utf8_first)], narrowed := true }
def FsCreatesUptoSaid : Prop := fsCreatesUptoRow.holds Tryz.pinned (OpenSpec.upto fsCreatesSpec)

/-- 'emulatorlaw40.FsReadsBack', WHERE WHAT IT READS IS OF BULK AT MOST 1048576: true; the input reads as it did. -/
def fsReadsBackUptoRow : OpenClaim := { program := "ytfgikfagblhkiaagreatdoor", sum := "35c517b9cd3b9c8a86f7e2fbdc76cbfd5cc318a4bfe940041d3144c3509697e3", func := "emulator/emulatorlaw40.FsReadsBack", spec := "fsReadsBack", inPlace := ["internal/abi.NoEscape", "internal/bytealg.MakeNoZero", "internal/bytealg.IndexByteString", "internal/bytealg.IndexString", "internal/bytealg.abigen_runtime_cmpstring", "slices.overlaps[emulator/api.Entry]"], unfollowed := true, recurses := true, named := ["internal/bytealg.MaxLen", "unicode/utf8.first", "unicode/utf8.acceptRanges"], apart := false, laid := [("unicode/utf8.acceptRanges", laid_unicode_utf8_acceptRanges), ("unicode/utf8.first", laid_unicode_utf8_first)], narrowed := true }
def FsReadsBackUptoSaid : Prop := fsReadsBackUptoRow.holds Tryz.pinned (OpenSpec.upto fsReadsBackSpec)

/-- 'emulatorlaw40.FsNames', WHERE WHAT IT READS IS OF BULK AT MOST 1048576: true; the input reads as it did. -/
def fsNamesUptoRow : OpenClaim := { program := "ytfgikfagblhkiaagreatdoor", sum := "35c517b9cd3b9c8a86f7e2fbdc76cbfd5cc318a4bfe940041d3144c3509697e3", func := "emulator/emulatorlaw40.FsNames", spec := "fsNames", inPlace := ["internal/abi.NoEscape", "internal/bytealg.MakeNoZero", "internal/bytealg.IndexByteString", "internal/bytealg.IndexString", "internal/bytealg.abigen_runtime_cmpstring", "slices.overlaps[emulator/api.Entry]"], unfollowed := true, recurses := true, named := ["internal/bytealg.MaxLen", "unicode/utf8.first", "unicode/utf8.acceptRanges"], apart := false, laid := [("unicode/utf8.acceptRanges", laid_unicode_utf8_acceptRanges), ("unicode/utf8.first", laid_unicode_utf8_first)], narrowed := true }
def FsNamesUptoSaid : Prop := fsNamesUptoRow.holds Tryz.pinned (OpenSpec.upto fsNamesSpec)

/-- 'emulatorlaw40.FsReads', WHERE WHAT IT READS IS OF BULK AT MOST 1048576: true; the input reads as it did. -/
def fsReadsUptoRow : OpenClaim := { program := "ytfgikfagblhkiaagreatdoor", sum := "35c517b9cd3b9c8a86f7e2fbdc76cbfd5cc318a4bfe940041d3144c3509697e3", func := "emulator/emulatorlaw40.FsReads", spec := "fsReads", inPlace := ["internal/abi.NoEscape", "internal/bytealg.MakeNoZero", "internal/bytealg.IndexByteString", "internal/bytealg.IndexString", "internal/bytealg.abigen_runtime_cmpstring", "slices.overlaps[emulator/api.Entry]"], unfollowed := true, recurses := true, named := ["internal/bytealg.MaxLen", "unicode/utf8.first", "unicode/utf8.acceptRanges"], apart := false, laid := [("unicode/utf8.acceptRanges", laid_unicode_utf8_acceptRanges), ("unicode/utf8.first", laid_unicode_utf8_first)], narrowed := true }
def FsReadsUptoSaid : Prop := fsReadsUptoRow.holds Tryz.pinned (OpenSpec.upto fsReadsSpec)

/-- 'emulatorlaw40.FsKeeps', WHERE WHAT IT READS IS OF BULK AT MOST 1048576: true; the input reads as it did. -/
def fsKeepsUptoRow : OpenClaim := { program := "ytfgikfagblhkiaagreatdoor", sum := "35c517b9cd3b9c8a86f7e2fbdc76cbfd5cc318a4bfe940041d3144c3509697e3", func := "emulator/emulatorlaw40.FsKeeps", spec := "fsKeeps", inPlace := ["internal/abi.NoEscape", "internal/bytealg.MakeNoZero", "internal/bytealg.IndexByteString", "internal/bytealg.IndexString", "internal/bytealg.abigen_runtime_cmpstring", "slices.overlaps[emulator/api.Entry]"], unfollowed := true, recurses := true, named := ["internal/bytealg.MaxLen", "unicode/utf8.first", "unicode/utf8.acceptRanges"], apart := false, laid := [("unicode/utf8.acceptRanges", laid_unicode_utf8_acceptRanges), ("unicode/utf8.first", laid_unicode_utf8_first)], narrowed := true }
def FsKeepsUptoSaid : Prop := fsKeepsUptoRow.holds Tryz.pinned (OpenSpec.upto fsKeepsSpec)

/-- 'emulatorlaw40.FsAtomic', WHERE WHAT IT READS IS OF BULK AT MOST 1048576: true; the input reads as it did. -/
def fsAtomicUptoRow : OpenClaim := { program := "ytfgikfagblhkiaagreatdoor", sum := "35c517b9cd3b9c8a86f7e2fbdc76cbfd5cc318a4bfe940041d3144c3509697e3", func := "emulator/emulatorlaw40.FsAtomic", spec := "fsAtomic", inPlace := ["internal/abi.NoEscape", "internal/bytealg.MakeNoZero", "internal/bytealg.IndexByteString", "internal/bytealg.IndexString", "internal/bytealg.abigen_runtime_cmpstring", "slices.overlaps[emulator/api.Entry]"], unfollowed := true, recurses := true, named := ["internal/bytealg.MaxLen", "unicode/utf8.first", "unicode/utf8.acceptRanges"], apart := false, laid := [("unicode/utf8.acceptRanges", laid_unicode_utf8_acceptRanges), ("unicode/utf8.first", laid_unicode_utf8_first)], narrowed := true }
def FsAtomicUptoSaid : Prop := fsAtomicUptoRow.holds Tryz.pinned (OpenSpec.upto fsAtomicSpec)

/-- 'emulatorlaw40.FsLinks', WHERE WHAT IT READS IS OF BULK AT MOST 1048576: true; the input reads as it did. -/
def fsLinksUptoRow : OpenClaim := { program := "ytfgikfagblhkiaagreatdoor", sum := "35c517b9cd3b9c8a86f7e2fbdc76cbfd5cc318a4bfe940041d3144c3509697e3", func := "emulator/emulatorlaw40.FsLinks", spec := "fsLinks", inPlace := ["internal/abi.NoEscape", "internal/bytealg.MakeNoZero", "internal/bytealg.IndexByteString", "internal/bytealg.IndexString", "internal/bytealg.abigen_runtime_cmpstring", "slices.overlaps[emulator/api.Entry]"], unfollowed := true, recurses := true, named := ["internal/bytealg.MaxLen", "unicode/utf8.first", "unicode/utf8.acceptRanges"], apart := false, laid := [("unicode/utf8.acceptRanges", laid_unicode_utf8_acceptRanges), ("unicode/utf8.first", laid_unicode_utf8_first)], narrowed := true }
def FsLinksUptoSaid : Prop := fsLinksUptoRow.holds Tryz.pinned (OpenSpec.upto fsLinksSpec)

end Rows
end Go.Proofs.YtfgikfagblhkiaaGreatDoor
