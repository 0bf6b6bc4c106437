/-
  DERIVED. GIVEN WITH THE SEED: THE CARDS: each row of YtpffmpllnpmkbaaDoorRows.lean that lists a variable, with what it lists TIED to the program's text (the seventh form; the later family's looks); each row that meets fmt, with fmt's text TOLD by the authors' own Lean function (tested against real Go, not proved from fmt's source: count such statements apart). THE CARD IS WHAT COUNTS. Prove the row's statement (the work); the ties are given (YtpffmpllnpmkbaaDoorTie.lean); close each card by the builder's one call (the guide's Derived/Test/ToyasCard.lean, 'card_holds'). Laid BY PROGRAM, IN A SANDBOX (cutbox-door.mjs). By AI agents, Wed Nov 11 2026. No macro, syntax, notation, axiom, sorry.
-/
import Derived.Test.YtpffmpllnpmkbaaDoorRows
import GoSem.ClaimSeven
namespace Go.Proofs.YtpffmpllnpmkbaaDoor
namespace Rows

/-- THE TIED CARD OF 'emulatorlaw37.VolumeRecovers'. -/
def volumeRecoversCard : Claim7 := { stood := { row := volumeRecoversRow, standIns := [], harness := (true, "63add32866987de30d3925935829e5e68f2303c23eaf6cec5790258469ece0fe"), looks := false }, kinds := [], alts := [], laidByText := true, laidKinds := [.data, .pinned], laidTests := true, laidLooks := .later }
def VolumeRecoversCardSaid : Prop := Claim7.holds Tryd.pinned (.plain (OpenSpec.ofChange volumeRecoversSpec)) volumeRecoversCard

/-- THE TIED CARD OF 'emulatorlaw37.VolumeAtomic'. -/
def volumeAtomicCard : Claim7 := { stood := { row := volumeAtomicRow, standIns := [], harness := (true, "63add32866987de30d3925935829e5e68f2303c23eaf6cec5790258469ece0fe"), looks := false }, kinds := [], alts := [], laidByText := true, laidKinds := [.data, .pinned], laidTests := true, laidLooks := .later }
def VolumeAtomicCardSaid : Prop := Claim7.holds Tryd.pinned (.plain (OpenSpec.ofChange volumeAtomicSpec)) volumeAtomicCard

/-- THE TIED CARD OF 'emulatorlaw37.VolumeWrites'. -/
def volumeWritesCard : Claim7 := { stood := { row := volumeWritesRow, standIns := [], harness := (true, "63add32866987de30d3925935829e5e68f2303c23eaf6cec5790258469ece0fe"), looks := false }, kinds := [], alts := [], laidByText := true, laidKinds := [.data, .pinned], laidTests := true, laidLooks := .later }
def VolumeWritesCardSaid : Prop := Claim7.holds Tryd.pinned (.plain (OpenSpec.ofChange volumeWritesSpec)) volumeWritesCard

/-- THE TIED CARD OF 'emulatorlaw37.VolumeNew'. -/
def volumeNewCard : Claim7 := { stood := { row := volumeNewRow, standIns := [], harness := (true, "63add32866987de30d3925935829e5e68f2303c23eaf6cec5790258469ece0fe"), looks := false }, kinds := [], alts := [], laidByText := true, laidKinds := [.data, .pinned], laidTests := true, laidLooks := .later }
def VolumeNewCardSaid : Prop := Claim7.holds Tryd.pinned (.plain (OpenSpec.ofChange volumeNewSpec)) volumeNewCard

/-- THE SECOND FORM's CARD OF 'emulatorlaw37.VolumeRecovers'. -/
def volumeRecoversUptoCard : Claim7 := { stood := { row := volumeRecoversUptoRow, standIns := [], harness := (true, "63add32866987de30d3925935829e5e68f2303c23eaf6cec5790258469ece0fe"), looks := false }, kinds := [], alts := [], laidByText := true, laidKinds := [.data, .pinned], laidTests := true, laidLooks := .later }
def VolumeRecoversUptoCardSaid : Prop := Claim7.holds Tryd.pinned (.plain (OpenSpec.upto volumeRecoversSpec)) volumeRecoversUptoCard

/-- THE SECOND FORM's CARD OF 'emulatorlaw37.VolumeAtomic'. -/
def volumeAtomicUptoCard : Claim7 := { stood := { row := volumeAtomicUptoRow, standIns := [], harness := (true, "63add32866987de30d3925935829e5e68f2303c23eaf6cec5790258469ece0fe"), looks := false }, kinds := [], alts := [], laidByText := true, laidKinds := [.data, .pinned], laidTests := true, laidLooks := .later }
def VolumeAtomicUptoCardSaid : Prop := Claim7.holds Tryd.pinned (.plain (OpenSpec.upto volumeAtomicSpec)) volumeAtomicUptoCard

/-- THE SECOND FORM's CARD OF 'emulatorlaw37.VolumeWrites'. -/
def volumeWritesUptoCard : Claim7 := { stood := { row := volumeWritesUptoRow, standIns := [], harness := (true, "63add32866987de30d3925935829e5e68f2303c23eaf6cec5790258469ece0fe"), looks := false }, kinds := [], alts := [], laidByText := true, laidKinds := [.data, .pinned], laidTests := true, laidLooks := .later }
def VolumeWritesUptoCardSaid : Prop := Claim7.holds Tryd.pinned (.plain (OpenSpec.upto volumeWritesSpec)) volumeWritesUptoCard

/-- THE SECOND FORM's CARD OF 'emulatorlaw37.VolumeNew'. -/
def volumeNewUptoCard : Claim7 := { stood := { row := volumeNewUptoRow, standIns := [], harness := (true, "63add32866987de30d3925935829e5e68f2303c23eaf6cec5790258469ece0fe"), looks := false }, kinds := [], alts := [], laidByText := true, laidKinds := [.data, .pinned], laidTests := true, laidLooks := .later }
def VolumeNewUptoCardSaid : Prop := Claim7.holds Tryd.pinned (.plain (OpenSpec.upto volumeNewSpec)) volumeNewUptoCard
end Rows
end Go.Proofs.YtpffmpllnpmkbaaDoor
