/-
  DERIVED. GIVEN WITH THE SEED: THE CARDS: each row of YtefdoccoajhefaaDoorRows.lean that lists a variable, with what it lists TIED to the program's text (the seventh form; the later family's looks); each row that meets fmt, with fmt's text TOLD by the authors' own Lean function (tested against real Go, not proved from fmt's source: count such statements apart). THE CARD IS WHAT COUNTS. Prove the row's statement (the work); the ties are given (YtefdoccoajhefaaDoorTie.lean); close each card by the builder's one call (the guide's Derived/Test/ToyasCard.lean, 'card_holds'). Laid BY PROGRAM, IN A SANDBOX (cutbox-door.mjs). By AI agents, Wed Nov 11 2026. No macro, syntax, notation, axiom, sorry.
-/
import Derived.Test.YtefdoccoajhefaaDoorRows
import GoSem.ClaimSeven
namespace Go.Proofs.YtefdoccoajhefaaDoor
namespace Rows

/-- THE TIED CARD OF 'emulatorlaw39.DirPaths'. -/
def dirPathsCard : Claim7 := { stood := { row := dirPathsRow, standIns := [], harness := (true, "f2d40ca475c68fd97c2888f9edb250a321b1df702f3d310ad40bc0829f7437ca"), looks := false }, kinds := [], alts := [], laidByText := true, laidKinds := [.data, .pinned], laidTests := true, laidLooks := .later }
def DirPathsCardSaid : Prop := Claim7.holds Tryd.pinned (.plain (OpenSpec.ofChange dirPathsSpec)) dirPathsCard

/-- THE TIED CARD OF 'emulatorlaw39.DirCodes'. -/
def dirCodesCard : Claim7 := { stood := { row := dirCodesRow, standIns := [], harness := (true, "f2d40ca475c68fd97c2888f9edb250a321b1df702f3d310ad40bc0829f7437ca"), looks := false }, kinds := [], alts := [], laidByText := true, laidKinds := [.data, .pinned], laidTests := true, laidLooks := .later }
def DirCodesCardSaid : Prop := Claim7.holds Tryd.pinned (.plain (OpenSpec.ofChange dirCodesSpec)) dirCodesCard

/-- THE TIED CARD OF 'emulatorlaw39.DirBack'. -/
def dirBackCard : Claim7 := { stood := { row := dirBackRow, standIns := [], harness := (true, "f2d40ca475c68fd97c2888f9edb250a321b1df702f3d310ad40bc0829f7437ca"), looks := false }, kinds := [], alts := [], laidByText := true, laidKinds := [.data, .pinned], laidTests := true, laidLooks := .later }
def DirBackCardSaid : Prop := Claim7.holds Tryd.pinned (.plain (OpenSpec.ofChange dirBackSpec)) dirBackCard

/-- THE TIED CARD OF 'emulatorlaw39.DirChanges'. -/
def dirChangesCard : Claim7 := { stood := { row := dirChangesRow, standIns := [], harness := (true, "f2d40ca475c68fd97c2888f9edb250a321b1df702f3d310ad40bc0829f7437ca"), looks := false }, kinds := [], alts := [], laidByText := true, laidKinds := [.data, .pinned], laidTests := true, laidLooks := .later }
def DirChangesCardSaid : Prop := Claim7.holds Tryd.pinned (.plain (OpenSpec.ofChange dirChangesSpec)) dirChangesCard

/-- THE TIED CARD OF 'emulatorlaw39.DirUndoes'. -/
def dirUndoesCard : Claim7 := { stood := { row := dirUndoesRow, standIns := [], harness := (true, "f2d40ca475c68fd97c2888f9edb250a321b1df702f3d310ad40bc0829f7437ca"), looks := false }, kinds := [], alts := [], laidByText := true, laidKinds := [.data, .pinned], laidTests := true, laidLooks := .later }
def DirUndoesCardSaid : Prop := Claim7.holds Tryd.pinned (.plain (OpenSpec.ofChange dirUndoesSpec)) dirUndoesCard

/-- THE SECOND FORM's CARD OF 'emulatorlaw39.DirPaths'. -/
def dirPathsUptoCard : Claim7 := { stood := { row := dirPathsUptoRow, standIns := [], harness := (true, "f2d40ca475c68fd97c2888f9edb250a321b1df702f3d310ad40bc0829f7437ca"), looks := false }, kinds := [], alts := [], laidByText := true, laidKinds := [.data, .pinned], laidTests := true, laidLooks := .later }
def DirPathsUptoCardSaid : Prop := Claim7.holds Tryd.pinned (.plain (OpenSpec.upto dirPathsSpec)) dirPathsUptoCard

/-- THE SECOND FORM's CARD OF 'emulatorlaw39.DirCodes'. -/
def dirCodesUptoCard : Claim7 := { stood := { row := dirCodesUptoRow, standIns := [], harness := (true, "f2d40ca475c68fd97c2888f9edb250a321b1df702f3d310ad40bc0829f7437ca"), looks := false }, kinds := [], alts := [], laidByText := true, laidKinds := [.data, .pinned], laidTests := true, laidLooks := .later }
def DirCodesUptoCardSaid : Prop := Claim7.holds Tryd.pinned (.plain (OpenSpec.upto dirCodesSpec)) dirCodesUptoCard

/-- THE SECOND FORM's CARD OF 'emulatorlaw39.DirBack'. -/
def dirBackUptoCard : Claim7 := { stood := { row := dirBackUptoRow, standIns := [], harness := (true, "f2d40ca475c68fd97c2888f9edb250a321b1df702f3d310ad40bc0829f7437ca"), looks := false }, kinds := [], alts := [], laidByText := true, laidKinds := [.data, .pinned], laidTests := true, laidLooks := .later }
def DirBackUptoCardSaid : Prop := Claim7.holds Tryd.pinned (.plain (OpenSpec.upto dirBackSpec)) dirBackUptoCard

/-- THE SECOND FORM's CARD OF 'emulatorlaw39.DirChanges'. -/
def dirChangesUptoCard : Claim7 := { stood := { row := dirChangesUptoRow, standIns := [], harness := (true, "f2d40ca475c68fd97c2888f9edb250a321b1df702f3d310ad40bc0829f7437ca"), looks := false }, kinds := [], alts := [], laidByText := true, laidKinds := [.data, .pinned], laidTests := true, laidLooks := .later }
def DirChangesUptoCardSaid : Prop := Claim7.holds Tryd.pinned (.plain (OpenSpec.upto dirChangesSpec)) dirChangesUptoCard

/-- THE SECOND FORM's CARD OF 'emulatorlaw39.DirUndoes'. -/
def dirUndoesUptoCard : Claim7 := { stood := { row := dirUndoesUptoRow, standIns := [], harness := (true, "f2d40ca475c68fd97c2888f9edb250a321b1df702f3d310ad40bc0829f7437ca"), looks := false }, kinds := [], alts := [], laidByText := true, laidKinds := [.data, .pinned], laidTests := true, laidLooks := .later }
def DirUndoesUptoCardSaid : Prop := Claim7.holds Tryd.pinned (.plain (OpenSpec.upto dirUndoesSpec)) dirUndoesUptoCard
end Rows
end Go.Proofs.YtefdoccoajhefaaDoor
