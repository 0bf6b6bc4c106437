/-
  DERIVED. GIVEN WITH THE SEED: THE CARDS: each row of YtfgikfagblhkiaaGreatDoorRows.lean that lists a variable, with what it lists TIED to the program's text (the seventh form; the later family's looks); each row that meets fmt, with fmt's text TOLD by the authors' own Lean function (tested against real Go, not proved from fmt's source: count such statements apart). THE CARD IS WHAT COUNTS. Prove the row's statement (the work); the ties are given (YtfgikfagblhkiaaGreatDoorTie.lean); close each card by the builder's one call (the guide's Derived/Test/ToyasCard.lean, 'card_holds'). Laid BY PROGRAM, IN A SANDBOX (cutbox-door.mjs). By AI agents, Wed Nov 11 2026. No macro, syntax, notation, axiom, sorry.
-/
import Derived.Test.YtfgikfagblhkiaaGreatDoorRows
import GoSem.ClaimSeven
namespace Go.Proofs.YtfgikfagblhkiaaGreatDoor
namespace Rows

/-- THE TIED CARD OF 'emulatorlaw40.FsCreates'. -/
def fsCreatesCard : Claim7 := { stood := { row := fsCreatesRow, standIns := [], harness := (true, "3cc6531558cf9fffd6585036509debcbdb11b18a80b63b7e5acbc1fd86bbcd02"), looks := false }, kinds := [], alts := [], laidByText := true, laidKinds := [.data, .pinned], laidTests := true, laidLooks := .later }
def FsCreatesCardSaid : Prop := Claim7.holds Tryz.pinned (.plain (OpenSpec.ofChange fsCreatesSpec)) fsCreatesCard

/-- THE TIED CARD OF 'emulatorlaw40.FsReadsBack'. -/
def fsReadsBackCard : Claim7 := { stood := { row := fsReadsBackRow, standIns := [], harness := (true, "3cc6531558cf9fffd6585036509debcbdb11b18a80b63b7e5acbc1fd86bbcd02"), looks := false }, kinds := [], alts := [], laidByText := true, laidKinds := [.data, .pinned], laidTests := true, laidLooks := .later }
def FsReadsBackCardSaid : Prop := Claim7.holds Tryz.pinned (.plain (OpenSpec.ofChange fsReadsBackSpec)) fsReadsBackCard

/-- THE TIED CARD OF 'emulatorlaw40.FsNames'. -/
def fsNamesCard : Claim7 := { stood := { row := fsNamesRow, standIns := [], harness := (true, "3cc6531558cf9fffd6585036509debcbdb11b18a80b63b7e5acbc1fd86bbcd02"), looks := false }, kinds := [], alts := [], laidByText := true, laidKinds := [.data, .pinned], laidTests := true, laidLooks := .later }
def FsNamesCardSaid : Prop := Claim7.holds Tryz.pinned (.plain (OpenSpec.ofChange fsNamesSpec)) fsNamesCard

/-- THE TIED CARD OF 'emulatorlaw40.FsReads'. -/
def fsReadsCard : Claim7 := { stood := { row := fsReadsRow, standIns := [], harness := (true, "3cc6531558cf9fffd6585036509debcbdb11b18a80b63b7e5acbc1fd86bbcd02"), looks := false }, kinds := [], alts := [], laidByText := true, laidKinds := [.data, .pinned], laidTests := true, laidLooks := .later }
def FsReadsCardSaid : Prop := Claim7.holds Tryz.pinned (.plain (OpenSpec.ofChange fsReadsSpec)) fsReadsCard

/-- THE TIED CARD OF 'emulatorlaw40.FsKeeps'. -/
def fsKeepsCard : Claim7 := { stood := { row := fsKeepsRow, standIns := [], harness := (true, "3cc6531558cf9fffd6585036509debcbdb11b18a80b63b7e5acbc1fd86bbcd02"), looks := false }, kinds := [], alts := [], laidByText := true, laidKinds := [.data, .pinned], laidTests := true, laidLooks := .later }
def FsKeepsCardSaid : Prop := Claim7.holds Tryz.pinned (.plain (OpenSpec.ofChange fsKeepsSpec)) fsKeepsCard

/-- THE TIED CARD OF 'emulatorlaw40.FsAtomic'. -/
def fsAtomicCard : Claim7 := { stood := { row := fsAtomicRow, standIns := [], harness := (true, "3cc6531558cf9fffd6585036509debcbdb11b18a80b63b7e5acbc1fd86bbcd02"), looks := false }, kinds := [], alts := [], laidByText := true, laidKinds := [.data, .pinned], laidTests := true, laidLooks := .later }
def FsAtomicCardSaid : Prop := Claim7.holds Tryz.pinned (.plain (OpenSpec.ofChange fsAtomicSpec)) fsAtomicCard

/-- THE TIED CARD OF 'emulatorlaw40.FsLinks'. -/
def fsLinksCard : Claim7 := { stood := { row := fsLinksRow, standIns := [], harness := (true, "3cc6531558cf9fffd6585036509debcbdb11b18a80b63b7e5acbc1fd86bbcd02"), looks := false }, kinds := [], alts := [], laidByText := true, laidKinds := [.data, .pinned], laidTests := true, laidLooks := .later }
def FsLinksCardSaid : Prop := Claim7.holds Tryz.pinned (.plain (OpenSpec.ofChange fsLinksSpec)) fsLinksCard

/-- THE SECOND FORM's CARD OF 'emulatorlaw40.FsCreates'. -/
def fsCreatesUptoCard : Claim7 := { stood := { row := fsCreatesUptoRow, standIns := [], harness := (true, "3cc6531558cf9fffd6585036509debcbdb11b18a80b63b7e5acbc1fd86bbcd02"), looks := false }, kinds := [], alts := [], laidByText := true, laidKinds := [.data, .pinned], laidTests := true, laidLooks := .later }
def FsCreatesUptoCardSaid : Prop := Claim7.holds Tryz.pinned (.plain (OpenSpec.upto fsCreatesSpec)) fsCreatesUptoCard

/-- THE SECOND FORM's CARD OF 'emulatorlaw40.FsReadsBack'. -/
def fsReadsBackUptoCard : Claim7 := { stood := { row := fsReadsBackUptoRow, standIns := [], harness := (true, "3cc6531558cf9fffd6585036509debcbdb11b18a80b63b7e5acbc1fd86bbcd02"), looks := false }, kinds := [], alts := [], laidByText := true, laidKinds := [.data, .pinned], laidTests := true, laidLooks := .later }
def FsReadsBackUptoCardSaid : Prop := Claim7.holds Tryz.pinned (.plain (OpenSpec.upto fsReadsBackSpec)) fsReadsBackUptoCard

/-- THE SECOND FORM's CARD OF 'emulatorlaw40.FsNames'. -/
def fsNamesUptoCard : Claim7 := { stood := { row := fsNamesUptoRow, standIns := [], harness := (true, "3cc6531558cf9fffd6585036509debcbdb11b18a80b63b7e5acbc1fd86bbcd02"), looks := false }, kinds := [], alts := [], laidByText := true, laidKinds := [.data, .pinned], laidTests := true, laidLooks := .later }
def FsNamesUptoCardSaid : Prop := Claim7.holds Tryz.pinned (.plain (OpenSpec.upto fsNamesSpec)) fsNamesUptoCard

/-- THE SECOND FORM's CARD OF 'emulatorlaw40.FsReads'. -/
def fsReadsUptoCard : Claim7 := { stood := { row := fsReadsUptoRow, standIns := [], harness := (true, "3cc6531558cf9fffd6585036509debcbdb11b18a80b63b7e5acbc1fd86bbcd02"), looks := false }, kinds := [], alts := [], laidByText := true, laidKinds := [.data, .pinned], laidTests := true, laidLooks := .later }
def FsReadsUptoCardSaid : Prop := Claim7.holds Tryz.pinned (.plain (OpenSpec.upto fsReadsSpec)) fsReadsUptoCard

/-- THE SECOND FORM's CARD OF 'emulatorlaw40.FsKeeps'. -/
def fsKeepsUptoCard : Claim7 := { stood := { row := fsKeepsUptoRow, standIns := [], harness := (true, "3cc6531558cf9fffd6585036509debcbdb11b18a80b63b7e5acbc1fd86bbcd02"), looks := false }, kinds := [], alts := [], laidByText := true, laidKinds := [.data, .pinned], laidTests := true, laidLooks := .later }
def FsKeepsUptoCardSaid : Prop := Claim7.holds Tryz.pinned (.plain (OpenSpec.upto fsKeepsSpec)) fsKeepsUptoCard

/-- THE SECOND FORM's CARD OF 'emulatorlaw40.FsAtomic'. -/
def fsAtomicUptoCard : Claim7 := { stood := { row := fsAtomicUptoRow, standIns := [], harness := (true, "3cc6531558cf9fffd6585036509debcbdb11b18a80b63b7e5acbc1fd86bbcd02"), looks := false }, kinds := [], alts := [], laidByText := true, laidKinds := [.data, .pinned], laidTests := true, laidLooks := .later }
def FsAtomicUptoCardSaid : Prop := Claim7.holds Tryz.pinned (.plain (OpenSpec.upto fsAtomicSpec)) fsAtomicUptoCard

/-- THE SECOND FORM's CARD OF 'emulatorlaw40.FsLinks'. -/
def fsLinksUptoCard : Claim7 := { stood := { row := fsLinksUptoRow, standIns := [], harness := (true, "3cc6531558cf9fffd6585036509debcbdb11b18a80b63b7e5acbc1fd86bbcd02"), looks := false }, kinds := [], alts := [], laidByText := true, laidKinds := [.data, .pinned], laidTests := true, laidLooks := .later }
def FsLinksUptoCardSaid : Prop := Claim7.holds Tryz.pinned (.plain (OpenSpec.upto fsLinksSpec)) fsLinksUptoCard
end Rows
end Go.Proofs.YtfgikfagblhkiaaGreatDoor
