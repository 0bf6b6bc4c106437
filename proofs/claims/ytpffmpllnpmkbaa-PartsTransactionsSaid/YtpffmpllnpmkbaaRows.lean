/-
  No cell of these rows narrows 'for every input' (looked for: loops, veiled, ifaces, maps, wideKeys, modest, calm, conditions, laid).
  DERIVED. THE GIVEN ROWS OF THIS SEAT. 8 by the template 'for every input the law returns true; each argument reads behind the call as it read before'; 0 by the template 'total and deterministic' (their statements: YtpffmpllnpmkbaaTotals.lean).
  GIVEN WITH THE SEED: the statements are not yours to turn. If you find one false, say at which input.
  Laid BY PROGRAM, IN A SANDBOX (cutbox-rows.mjs): the forced cells as the released guide's own fill.sh prints them over the translation 4eb95b943f486b9f… (all of the seat's roots in one cut). By AI agents, Wed Nov 11 2026. No macro, syntax, notation, axiom, sorry.
-/
import Derived.Test.YtpffmpllnpmkbaaChecked
import GoSem.Claim
import GoSem.ClaimJoined
import GoSem.ClaimMapViews
import Derived.JoinedTies
import Derived.KernelRfl
namespace Go.Proofs.Ytpffmpllnpmkbaa
/- THE CELL 'sum', in the pinned program and in every row, IS THE sha256 OF THE DUMP (.gsa) THAT YtpffmpllnpmkbaaProg.lean LOADS. Nothing in Lean hashes anything: it is a label: what it is worth is what the hold of that sum in a sandbox is worth. -/
noncomputable def Try.pinned : Pinned := { name := "ytpffmpllnpmkbaa", sum := "4eb95b943f486b9feaf0dfd513bdca6283e8222ad1fe3e655f88c93949388ed5", checked := Try.checked }
namespace Rows
def none {H : Type} : Left H := { results := [], args := [] }

/-- 'emulatorlaw38.InodeParses': WHATEVER THE INPUT: true; the input reads as it did. -/
def inodeParsesSpec : ChangeSpec := { name := "inodeParses", fn := fun _ => fun
  | [d1, d2] => { results := [.lit (.bool true)], args := [d1, d2] }
  | _ => none }
def inodeParsesRow : OpenClaim := { program := "ytpffmpllnpmkbaa", sum := "4eb95b943f486b9feaf0dfd513bdca6283e8222ad1fe3e655f88c93949388ed5", func := "emulator/emulatorlaw38.InodeParses", spec := "inodeParses", inPlace := ["internal/abi.NoEscape", "internal/bytealg.MakeNoZero"], apart := false }
def InodeParsesSaid : Prop := inodeParsesRow.holds Try.pinned (OpenSpec.ofChange inodeParsesSpec)

/-- ITS FALSE NEIGHBOUR: 'it returns false'. Refute it at one input. -/
def inodeParsesWrong : ChangeSpec := { name := "inodeParses", fn := fun _ => fun
  | [d1, d2] => { results := [.lit (.bool false)], args := [d1, d2] }
  | _ => none }
def InodeParsesWrongFalsely : Prop := inodeParsesRow.holds Try.pinned (OpenSpec.ofChange inodeParsesWrong)

/-- 'emulatorlaw38.InodeGets': WHATEVER THE INPUT: true; the input reads as it did. -/
def inodeGetsSpec : ChangeSpec := { name := "inodeGets", fn := fun _ => fun
  | [d1, d2, d3] => { results := [.lit (.bool true)], args := [d1, d2, d3] }
  | _ => none }
def inodeGetsRow : OpenClaim := { program := "ytpffmpllnpmkbaa", sum := "4eb95b943f486b9feaf0dfd513bdca6283e8222ad1fe3e655f88c93949388ed5", func := "emulator/emulatorlaw38.InodeGets", spec := "inodeGets", inPlace := ["internal/abi.NoEscape", "internal/bytealg.MakeNoZero"], apart := false }
def InodeGetsSaid : Prop := inodeGetsRow.holds Try.pinned (OpenSpec.ofChange inodeGetsSpec)

/-- ITS FALSE NEIGHBOUR: 'it returns false'. Refute it at one input. -/
def inodeGetsWrong : ChangeSpec := { name := "inodeGets", fn := fun _ => fun
  | [d1, d2, d3] => { results := [.lit (.bool false)], args := [d1, d2, d3] }
  | _ => none }
def InodeGetsWrongFalsely : Prop := inodeGetsRow.holds Try.pinned (OpenSpec.ofChange inodeGetsWrong)

/-- 'emulatorlaw38.InodeFrees': WHATEVER THE INPUT: true; the input reads as it did. -/
def inodeFreesSpec : ChangeSpec := { name := "inodeFrees", fn := fun _ => fun
  | [d1, d2] => { results := [.lit (.bool true)], args := [d1, d2] }
  | _ => none }
def inodeFreesRow : OpenClaim := { program := "ytpffmpllnpmkbaa", sum := "4eb95b943f486b9feaf0dfd513bdca6283e8222ad1fe3e655f88c93949388ed5", func := "emulator/emulatorlaw38.InodeFrees", spec := "inodeFrees", inPlace := ["internal/abi.NoEscape", "internal/bytealg.MakeNoZero"], apart := false }
def InodeFreesSaid : Prop := inodeFreesRow.holds Try.pinned (OpenSpec.ofChange inodeFreesSpec)

/-- ITS FALSE NEIGHBOUR: 'it returns false'. Refute it at one input. -/
def inodeFreesWrong : ChangeSpec := { name := "inodeFrees", fn := fun _ => fun
  | [d1, d2] => { results := [.lit (.bool false)], args := [d1, d2] }
  | _ => none }
def InodeFreesWrongFalsely : Prop := inodeFreesRow.holds Try.pinned (OpenSpec.ofChange inodeFreesWrong)

/-- 'emulatorlaw38.InodeMarks': WHATEVER THE INPUT: true; the input reads as it did. -/
def inodeMarksSpec : ChangeSpec := { name := "inodeMarks", fn := fun _ => fun
  | [d1, d2, d3] => { results := [.lit (.bool true)], args := [d1, d2, d3] }
  | _ => none }
def inodeMarksRow : OpenClaim := { program := "ytpffmpllnpmkbaa", sum := "4eb95b943f486b9feaf0dfd513bdca6283e8222ad1fe3e655f88c93949388ed5", func := "emulator/emulatorlaw38.InodeMarks", spec := "inodeMarks", inPlace := ["internal/abi.NoEscape", "internal/bytealg.MakeNoZero"], apart := false }
def InodeMarksSaid : Prop := inodeMarksRow.holds Try.pinned (OpenSpec.ofChange inodeMarksSpec)

/-- ITS FALSE NEIGHBOUR: 'it returns false'. Refute it at one input. -/
def inodeMarksWrong : ChangeSpec := { name := "inodeMarks", fn := fun _ => fun
  | [d1, d2, d3] => { results := [.lit (.bool false)], args := [d1, d2, d3] }
  | _ => none }
def InodeMarksWrongFalsely : Prop := inodeMarksRow.holds Try.pinned (OpenSpec.ofChange inodeMarksWrong)

/-- 'emulatorlaw38.InodeReturns': WHATEVER THE INPUT: true; the input reads as it did. -/
def inodeReturnsSpec : ChangeSpec := { name := "inodeReturns", fn := fun _ => fun
  | [d1, d2, d3] => { results := [.lit (.bool true)], args := [d1, d2, d3] }
  | _ => none }
def inodeReturnsRow : OpenClaim := { program := "ytpffmpllnpmkbaa", sum := "4eb95b943f486b9feaf0dfd513bdca6283e8222ad1fe3e655f88c93949388ed5", func := "emulator/emulatorlaw38.InodeReturns", spec := "inodeReturns", inPlace := ["internal/abi.NoEscape", "internal/bytealg.MakeNoZero"], apart := false }
def InodeReturnsSaid : Prop := inodeReturnsRow.holds Try.pinned (OpenSpec.ofChange inodeReturnsSpec)

/-- ITS FALSE NEIGHBOUR: 'it returns false'. Refute it at one input. -/
def inodeReturnsWrong : ChangeSpec := { name := "inodeReturns", fn := fun _ => fun
  | [d1, d2, d3] => { results := [.lit (.bool false)], args := [d1, d2, d3] }
  | _ => none }
def InodeReturnsWrongFalsely : Prop := inodeReturnsRow.holds Try.pinned (OpenSpec.ofChange inodeReturnsWrong)

/-- 'emulatorlaw38.InodeKeeps': WHATEVER THE INPUT: true; the input reads as it did. -/
def inodeKeepsSpec : ChangeSpec := { name := "inodeKeeps", fn := fun _ => fun
  | [d1, d2, d3] => { results := [.lit (.bool true)], args := [d1, d2, d3] }
  | _ => none }
def inodeKeepsRow : OpenClaim := { program := "ytpffmpllnpmkbaa", sum := "4eb95b943f486b9feaf0dfd513bdca6283e8222ad1fe3e655f88c93949388ed5", func := "emulator/emulatorlaw38.InodeKeeps", spec := "inodeKeeps", inPlace := ["internal/abi.NoEscape", "internal/bytealg.MakeNoZero"], apart := false }
def InodeKeepsSaid : Prop := inodeKeepsRow.holds Try.pinned (OpenSpec.ofChange inodeKeepsSpec)

/-- ITS FALSE NEIGHBOUR: 'it returns false'. Refute it at one input. -/
def inodeKeepsWrong : ChangeSpec := { name := "inodeKeeps", fn := fun _ => fun
  | [d1, d2, d3] => { results := [.lit (.bool false)], args := [d1, d2, d3] }
  | _ => none }
def InodeKeepsWrongFalsely : Prop := inodeKeepsRow.holds Try.pinned (OpenSpec.ofChange inodeKeepsWrong)

/-- 'emulatorlaw38.InodeAllocs': WHATEVER THE INPUT: true; the input reads as it did. -/
def inodeAllocsSpec : ChangeSpec := { name := "inodeAllocs", fn := fun _ => fun
  | [d] => { results := [.lit (.bool true)], args := [d] }
  | _ => none }
def inodeAllocsRow : OpenClaim := { program := "ytpffmpllnpmkbaa", sum := "4eb95b943f486b9feaf0dfd513bdca6283e8222ad1fe3e655f88c93949388ed5", func := "emulator/emulatorlaw38.InodeAllocs", spec := "inodeAllocs", inPlace := ["internal/abi.NoEscape", "internal/bytealg.MakeNoZero"], apart := false }
def InodeAllocsSaid : Prop := inodeAllocsRow.holds Try.pinned (OpenSpec.ofChange inodeAllocsSpec)

/-- ITS FALSE NEIGHBOUR: 'it returns false'. Refute it at one input. -/
def inodeAllocsWrong : ChangeSpec := { name := "inodeAllocs", fn := fun _ => fun
  | [d] => { results := [.lit (.bool false)], args := [d] }
  | _ => none }
def InodeAllocsWrongFalsely : Prop := inodeAllocsRow.holds Try.pinned (OpenSpec.ofChange inodeAllocsWrong)

/-- 'emulatortop.PartsTransactions': WHATEVER THE INPUT: true; the input reads as it did. -/
def partsTransactionsSpec : ChangeSpec := { name := "partsTransactions", fn := fun _ => fun
  | [d1, d2] => { results := [.lit (.bool true)], args := [d1, d2] }
  | _ => none }
def partsTransactionsRow : OpenClaim := { program := "ytpffmpllnpmkbaa", sum := "4eb95b943f486b9feaf0dfd513bdca6283e8222ad1fe3e655f88c93949388ed5", func := "emulator/emulatortop.PartsTransactions", spec := "partsTransactions", inPlace := ["internal/abi.NoEscape", "internal/bytealg.MakeNoZero"], recurses := true, apart := false }
def PartsTransactionsSaid : Prop := partsTransactionsRow.holds Try.pinned (OpenSpec.ofChange partsTransactionsSpec)

/-- ITS FALSE NEIGHBOUR: 'it returns false'. Refute it at one input. -/
def partsTransactionsWrong : ChangeSpec := { name := "partsTransactions", fn := fun _ => fun
  | [d1, d2] => { results := [.lit (.bool false)], args := [d1, d2] }
  | _ => none }
def PartsTransactionsWrongFalsely : Prop := partsTransactionsRow.holds Try.pinned (OpenSpec.ofChange partsTransactionsWrong)

/- THE SECOND FORM. 'bulk': how many values and letters a reading holds, each counted each time it is reached (what is shared counts as often as it is met; a slice's spare places count too). A statement '..UptoSaid' is the law's where the arguments, and the package variables that the reading takes, are together of bulk at most 1048576: NARROWER than '..Said'. Prove '..Said' where nothing that the law and all that it calls make is longer than what came in: it says more and counts as full. Else prove '..UptoSaid'. A law counts once. -/
mutual
def uptoBulk {H : Type} : DataW H → Nat
  | .lit (.string bytes) => bytes.length + 1
  | .lit _ => 1
  | .nil => 1
  | .ptr d => uptoBulk d + 1
  | .slice elems spare => uptoBulkAll elems + uptoBulkAll spare + 1
  | .agg parts => uptoBulkAll parts + 1
  | .iface _ d => uptoBulk d + 1
  | .map entries => uptoBulkEntries entries + 1
  | .held _ => 1
def uptoBulkAll {H : Type} : List (DataW H) → Nat
  | [] => 0
  | d :: r => uptoBulk d + uptoBulkAll r
def uptoBulkEntries {H : Type} : List (Lit × DataW H) → Nat
  | [] => 0
  | x :: r => uptoBulkEntry x + uptoBulkEntries r
def uptoBulkEntry {H : Type} : Lit × DataW H → Nat
  | (.string bytes, d) => bytes.length + uptoBulk d + 1
  | (_, d) => uptoBulk d + 1
 end
def uptoSmall : (H : Type) → List (DataW H) → Bool := fun _ ds => decide (uptoBulkAll ds ≤ 1048576)
def OpenSpec.upto (s : _root_.Go.ChangeSpec) : _root_.Go.OpenSpec := { _root_.Go.OpenSpec.ofChange s with cond := some uptoSmall }

/-- 'emulatorlaw38.InodeParses', WHERE WHAT IT READS IS OF BULK AT MOST 1048576: true; the input reads as it did. -/
def inodeParsesUptoRow : OpenClaim := { program := "ytpffmpllnpmkbaa", sum := "4eb95b943f486b9feaf0dfd513bdca6283e8222ad1fe3e655f88c93949388ed5", func := "emulator/emulatorlaw38.InodeParses", spec := "inodeParses", inPlace := ["internal/abi.NoEscape", "internal/bytealg.MakeNoZero"], apart := false, narrowed := true }
def InodeParsesUptoSaid : Prop := inodeParsesUptoRow.holds Try.pinned (OpenSpec.upto inodeParsesSpec)

/-- 'emulatorlaw38.InodeGets', WHERE WHAT IT READS IS OF BULK AT MOST 1048576: true; the input reads as it did. -/
def inodeGetsUptoRow : OpenClaim := { program := "ytpffmpllnpmkbaa", sum := "4eb95b943f486b9feaf0dfd513bdca6283e8222ad1fe3e655f88c93949388ed5", func := "emulator/emulatorlaw38.InodeGets", spec := "inodeGets", inPlace := ["internal/abi.NoEscape", "internal/bytealg.MakeNoZero"], apart := false, narrowed := true }
def InodeGetsUptoSaid : Prop := inodeGetsUptoRow.holds Try.pinned (OpenSpec.upto inodeGetsSpec)

/-- 'emulatorlaw38.InodeFrees', WHERE WHAT IT READS IS OF BULK AT MOST 1048576: true; the input reads as it did. -/
def inodeFreesUptoRow : OpenClaim := { program := "ytpffmpllnpmkbaa", sum := "4eb95b943f486b9feaf0dfd513bdca6283e8222ad1fe3e655f88c93949388ed5", func := "emulator/emulatorlaw38.InodeFrees", spec := "inodeFrees", inPlace := ["internal/abi.NoEscape", "internal/bytealg.MakeNoZero"], apart := false, narrowed := true }
def InodeFreesUptoSaid : Prop := inodeFreesUptoRow.holds Try.pinned (OpenSpec.upto inodeFreesSpec)

/-- 'emulatorlaw38.InodeMarks', WHERE WHAT IT READS IS OF BULK AT MOST 1048576: true; the input reads as it did. -/
def inodeMarksUptoRow : OpenClaim := { program := "ytpffmpllnpmkbaa", sum := "4eb95b943f486b9feaf0dfd513bdca6283e8222ad1fe3e655f88c93949388ed5", func := "emulator/emulatorlaw38.InodeMarks", spec := "inodeMarks", inPlace := ["internal/abi.NoEscape", "internal/bytealg.MakeNoZero"], apart := false, narrowed := true }
def InodeMarksUptoSaid : Prop := inodeMarksUptoRow.holds Try.pinned (OpenSpec.upto inodeMarksSpec)

/-- 'emulatorlaw38.InodeReturns', WHERE WHAT IT READS IS OF BULK AT MOST 1048576: true; the input reads as it did. -/
def inodeReturnsUptoRow : OpenClaim := { program := "ytpffmpllnpmkbaa", sum := "4eb95b943f486b9feaf0dfd513bdca6283e8222ad1fe3e655f88c93949388ed5", func := "emulator/emulatorlaw38.InodeReturns", spec := "inodeReturns", inPlace := ["internal/abi.NoEscape", "internal/bytealg.MakeNoZero"], apart := false, narrowed := true }
def InodeReturnsUptoSaid : Prop := inodeReturnsUptoRow.holds Try.pinned (OpenSpec.upto inodeReturnsSpec)

/-- 'emulatorlaw38.InodeKeeps', WHERE WHAT IT READS IS OF BULK AT MOST 1048576: true; the input reads as it did. -/
def inodeKeepsUptoRow : OpenClaim := { program := "ytpffmpllnpmkbaa", sum := "4eb95b943f486b9feaf0dfd513bdca6283e8222ad1fe3e655f88c93949388ed5", func := "emulator/emulatorlaw38.InodeKeeps", spec := "inodeKeeps", inPlace := ["internal/abi.NoEscape", "internal/bytealg.MakeNoZero"], apart := false, narrowed := true }
def InodeKeepsUptoSaid : Prop := inodeKeepsUptoRow.holds Try.pinned (OpenSpec.upto inodeKeepsSpec)

/-- 'emulatorlaw38.InodeAllocs', WHERE WHAT IT READS IS OF BULK AT MOST 1048576: true; the input reads as it did. -/
def inodeAllocsUptoRow : OpenClaim := { program := "ytpffmpllnpmkbaa", sum := "4eb95b943f486b9feaf0dfd513bdca6283e8222ad1fe3e655f88c93949388ed5", func := "emulator/emulatorlaw38.InodeAllocs", spec := "inodeAllocs", inPlace := ["internal/abi.NoEscape", "internal/bytealg.MakeNoZero"], apart := false, narrowed := true }
def InodeAllocsUptoSaid : Prop := inodeAllocsUptoRow.holds Try.pinned (OpenSpec.upto inodeAllocsSpec)

/-- 'emulatortop.PartsTransactions', WHERE WHAT IT READS IS OF BULK AT MOST 1048576: true; the input reads as it did. -/
def partsTransactionsUptoRow : OpenClaim := { program := "ytpffmpllnpmkbaa", sum := "4eb95b943f486b9feaf0dfd513bdca6283e8222ad1fe3e655f88c93949388ed5", func := "emulator/emulatortop.PartsTransactions", spec := "partsTransactions", inPlace := ["internal/abi.NoEscape", "internal/bytealg.MakeNoZero"], recurses := true, apart := false, narrowed := true }
def PartsTransactionsUptoSaid : Prop := partsTransactionsUptoRow.holds Try.pinned (OpenSpec.upto partsTransactionsSpec)

end Rows
end Go.Proofs.Ytpffmpllnpmkbaa
