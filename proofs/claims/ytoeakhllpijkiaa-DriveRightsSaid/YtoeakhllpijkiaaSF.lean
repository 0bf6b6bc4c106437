/- Proved here: the code of the functions, in short. No condition but those that each theorem states. -/
import Derived.Test.YtoeakhllpijkiaaTF
namespace Go.Abs
open Go.Proofs
set_option maxRecDepth 100000
set_option linter.unusedVariables false
set_option linter.unusedSimpArgs false

-- 3 emulator/emulatorlaw15.DriveNews [3]
def s3 : SC := (.seq (.region false [
  ⟨some 2, .assign (.const (.bool false)), 4, none⟩])
  (.seq (.region false [
  ⟨some 8, .move (.tmp 0), 3, none⟩,
  ⟨some 9, .call ⟨.value (.func 10), #[(.tmp 8)], #[3]⟩, 27, none⟩,
  ⟨some 7, .move (.tmp 9), 27, none⟩,
  ⟨some 10, .extract (.tmp 7) 0, 25, none⟩,
  ⟨some 11, .extract (.tmp 7) 1, 26, none⟩,
  ⟨some 3, .alloc 25, 0, none⟩,
  ⟨none, .store 25 (.tmp 3) (.tmp 10), 0, none⟩,
  ⟨some 4, .assign (.tmp 11), 26, none⟩])
  (.seq (.region false [
  ⟨some 13, .move (.tmp 0), 3, none⟩,
  ⟨some 14, .call ⟨.value (.func 11), #[(.tmp 13)], #[3]⟩, 27, none⟩,
  ⟨some 12, .move (.tmp 14), 27, none⟩,
  ⟨some 15, .extract (.tmp 12) 0, 25, none⟩,
  ⟨some 16, .extract (.tmp 12) 1, 26, none⟩,
  ⟨some 5, .alloc 25, 0, none⟩,
  ⟨none, .store 25 (.tmp 5) (.tmp 15), 0, none⟩,
  ⟨some 6, .assign (.tmp 16), 26, none⟩])
  (.seq (.region false [
  ⟨some 17, .load 25 (.tmp 3), 25, none⟩,
  ⟨some 18, .load 25 (.tmp 5), 25, none⟩,
  ⟨some 19, .call ⟨.value (.func 12), #[(.tmp 17), (.tmp 18)], #[25, 25]⟩, 4, none⟩,
  ⟨some 20, .move (.tmp 19), 4, none⟩,
  ⟨some 21, .move (.tmp 4), 26, (some (some 20, true))⟩,
  ⟨some 22, .move (.tmp 6), 26, (some (some 20, true))⟩,
  ⟨some 23, .binOp .eql 26 (.tmp 21) (.tmp 22) 26, 4, (some (some 20, true))⟩,
  ⟨some 24, .pick (.tmp 20) (.tmp 23) (.const (.bool false)), 4, none⟩,
  ⟨some 25, .move (.tmp 24), 4, none⟩,
  ⟨some 26, .call ⟨.value (.func 13), #[], #[]⟩, 4, (some (some 25, true))⟩,
  ⟨some 27, .pick (.tmp 25) (.tmp 26) (.const (.bool false)), 4, none⟩,
  ⟨some 2, .assign (.tmp 27), 4, none⟩])
  .ret))))
def r3 : List ResultVar := [.tmp 2]
theorem c3 : ∃ fn, DC.body 3 = some fn ∧ scOf fn.code = s3 ∧ fn.ntmps = 28 ∧ fn.results = r3 := ⟨_, rfl, by kernel_rfl, by kernel_rfl, by kernel_rfl⟩

-- 4 emulator/emulatorlaw15.DriveAccesses [25, 3, 9]
def s4 : SC := (.seq (.region false [
  ⟨some 3, .box 25 (.tmp 0), 0, none⟩,
  ⟨some 6, .assign (.const (.bool false)), 4, none⟩])
  (.seq (.seq (.region false [
  ⟨some 19, .load 25 (.tmp 3), 25, none⟩,
  ⟨some 20, .call ⟨.value (.func 14), #[(.tmp 19)], #[25]⟩, 4, none⟩,
  ⟨some 21, .unOp .not 4 (.tmp 20), 4, none⟩,
  ⟨some 22, .move (.tmp 21), 4, none⟩,
  ⟨some 23, .move (.tmp 2), 9, (some (some 22, false))⟩,
  ⟨some 24, .call ⟨.builtin .len, #[(.tmp 23)], #[9]⟩, 3, (some (some 22, false))⟩,
  ⟨some 25, .binOp .gtr 3 (.tmp 24) (.const (.int .i64 200)) 3, 4, (some (some 22, false))⟩,
  ⟨some 26, .pick (.tmp 22) (.const (.bool true)) (.tmp 25), 4, none⟩])
  (.cond (.tmp 26)
  (.seq (.region false [
    ⟨some 27, .call ⟨.value (.func 13), #[], #[]⟩, 4, none⟩,
    ⟨some 6, .assign (.tmp 27), 4, none⟩])
  .ret)
  .skip))
  (.seq (.region false [
  ⟨some 29, .load 25 (.tmp 3), 25, none⟩,
  ⟨some 30, .move (.tmp 1), 3, none⟩,
  ⟨some 31, .call ⟨.value (.func 15), #[(.tmp 29), (.tmp 30)], #[25, 3]⟩, 33, none⟩,
  ⟨some 28, .move (.tmp 31), 33, none⟩,
  ⟨some 32, .extract (.tmp 28) 0, 9, none⟩,
  ⟨some 33, .extract (.tmp 28) 1, 26, none⟩,
  ⟨some 7, .assign (.tmp 32), 9, none⟩,
  ⟨some 8, .assign (.tmp 33), 26, none⟩])
  (.seq (.region false [
  ⟨some 35, .load 25 (.tmp 3), 25, none⟩,
  ⟨some 36, .move (.tmp 1), 3, none⟩,
  ⟨some 37, .call ⟨.value (.func 16), #[(.tmp 35), (.tmp 36)], #[25, 3]⟩, 33, none⟩,
  ⟨some 34, .move (.tmp 37), 33, none⟩,
  ⟨some 38, .extract (.tmp 34) 0, 9, none⟩,
  ⟨some 39, .extract (.tmp 34) 1, 26, none⟩,
  ⟨some 9, .assign (.tmp 38), 9, none⟩,
  ⟨some 10, .assign (.tmp 39), 26, none⟩])
  (.seq (.region false [
  ⟨some 41, .load 25 (.tmp 3), 25, none⟩,
  ⟨some 42, .move (.tmp 1), 3, none⟩,
  ⟨some 43, .move (.tmp 2), 9, none⟩,
  ⟨some 44, .call ⟨.value (.func 17), #[(.tmp 41), (.tmp 42), (.tmp 43)], #[25, 3, 9]⟩, 27, none⟩,
  ⟨some 40, .move (.tmp 44), 27, none⟩,
  ⟨some 45, .extract (.tmp 40) 0, 25, none⟩,
  ⟨some 46, .extract (.tmp 40) 1, 26, none⟩,
  ⟨some 11, .alloc 25, 0, none⟩,
  ⟨none, .store 25 (.tmp 11) (.tmp 45), 0, none⟩,
  ⟨some 12, .assign (.tmp 46), 26, none⟩])
  (.seq (.region false [
  ⟨some 48, .load 25 (.tmp 3), 25, none⟩,
  ⟨some 49, .move (.tmp 1), 3, none⟩,
  ⟨some 50, .move (.tmp 2), 9, none⟩,
  ⟨some 51, .call ⟨.value (.func 18), #[(.tmp 48), (.tmp 49), (.tmp 50)], #[25, 3, 9]⟩, 27, none⟩,
  ⟨some 47, .move (.tmp 51), 27, none⟩,
  ⟨some 52, .extract (.tmp 47) 0, 25, none⟩,
  ⟨some 53, .extract (.tmp 47) 1, 26, none⟩,
  ⟨some 13, .alloc 25, 0, none⟩,
  ⟨none, .store 25 (.tmp 13) (.tmp 52), 0, none⟩,
  ⟨some 14, .assign (.tmp 53), 26, none⟩])
  (.seq (.region false [
  ⟨some 55, .load 25 (.tmp 3), 25, none⟩,
  ⟨some 56, .move (.tmp 1), 3, none⟩,
  ⟨some 57, .call ⟨.value (.func 19), #[(.tmp 55), (.tmp 56)], #[25, 3]⟩, 27, none⟩,
  ⟨some 54, .move (.tmp 57), 27, none⟩,
  ⟨some 58, .extract (.tmp 54) 0, 25, none⟩,
  ⟨some 59, .extract (.tmp 54) 1, 26, none⟩,
  ⟨some 15, .alloc 25, 0, none⟩,
  ⟨none, .store 25 (.tmp 15) (.tmp 58), 0, none⟩,
  ⟨some 16, .assign (.tmp 59), 26, none⟩])
  (.seq (.region false [
  ⟨some 61, .load 25 (.tmp 3), 25, none⟩,
  ⟨some 62, .move (.tmp 1), 3, none⟩,
  ⟨some 63, .call ⟨.value (.func 20), #[(.tmp 61), (.tmp 62)], #[25, 3]⟩, 27, none⟩,
  ⟨some 60, .move (.tmp 63), 27, none⟩,
  ⟨some 64, .extract (.tmp 60) 0, 25, none⟩,
  ⟨some 65, .extract (.tmp 60) 1, 26, none⟩,
  ⟨some 17, .alloc 25, 0, none⟩,
  ⟨none, .store 25 (.tmp 17) (.tmp 64), 0, none⟩,
  ⟨some 18, .assign (.tmp 65), 26, none⟩])
  (.seq (.region false [
  ⟨some 66, .move (.tmp 7), 9, none⟩,
  ⟨some 67, .move (.tmp 9), 9, none⟩,
  ⟨some 68, .binOp .eql 9 (.tmp 66) (.tmp 67) 9, 4, none⟩,
  ⟨some 69, .move (.tmp 68), 4, none⟩,
  ⟨some 70, .move (.tmp 8), 26, (some (some 69, true))⟩,
  ⟨some 71, .move (.tmp 10), 26, (some (some 69, true))⟩,
  ⟨some 72, .binOp .eql 26 (.tmp 70) (.tmp 71) 26, 4, (some (some 69, true))⟩,
  ⟨some 73, .pick (.tmp 69) (.tmp 72) (.const (.bool false)), 4, none⟩,
  ⟨some 74, .move (.tmp 73), 4, none⟩,
  ⟨some 75, .load 25 (.tmp 11), 25, (some (some 74, true))⟩,
  ⟨some 76, .load 25 (.tmp 13), 25, (some (some 74, true))⟩,
  ⟨some 77, .call ⟨.value (.func 12), #[(.tmp 75), (.tmp 76)], #[25, 25]⟩, 4, (some (some 74, true))⟩,
  ⟨some 78, .pick (.tmp 74) (.tmp 77) (.const (.bool false)), 4, none⟩,
  ⟨some 79, .move (.tmp 78), 4, none⟩,
  ⟨some 80, .move (.tmp 12), 26, (some (some 79, true))⟩,
  ⟨some 81, .move (.tmp 14), 26, (some (some 79, true))⟩,
  ⟨some 82, .binOp .eql 26 (.tmp 80) (.tmp 81) 26, 4, (some (some 79, true))⟩,
  ⟨some 83, .pick (.tmp 79) (.tmp 82) (.const (.bool false)), 4, none⟩,
  ⟨some 84, .move (.tmp 83), 4, none⟩,
  ⟨some 85, .load 25 (.tmp 15), 25, (some (some 84, true))⟩,
  ⟨some 86, .load 25 (.tmp 17), 25, (some (some 84, true))⟩,
  ⟨some 87, .call ⟨.value (.func 12), #[(.tmp 85), (.tmp 86)], #[25, 25]⟩, 4, (some (some 84, true))⟩,
  ⟨some 88, .pick (.tmp 84) (.tmp 87) (.const (.bool false)), 4, none⟩,
  ⟨some 89, .move (.tmp 88), 4, none⟩,
  ⟨some 90, .move (.tmp 16), 26, (some (some 89, true))⟩,
  ⟨some 91, .move (.tmp 18), 26, (some (some 89, true))⟩,
  ⟨some 92, .binOp .eql 26 (.tmp 90) (.tmp 91) 26, 4, (some (some 89, true))⟩,
  ⟨some 93, .pick (.tmp 89) (.tmp 92) (.const (.bool false)), 4, none⟩,
  ⟨some 94, .move (.tmp 93), 4, none⟩,
  ⟨some 95, .call ⟨.value (.func 13), #[], #[]⟩, 4, (some (some 94, true))⟩,
  ⟨some 96, .pick (.tmp 94) (.tmp 95) (.const (.bool false)), 4, none⟩,
  ⟨some 6, .assign (.tmp 96), 4, none⟩])
  .ret)))))))))
def r4 : List ResultVar := [.tmp 6]
theorem c4 : ∃ fn, DC.body 4 = some fn ∧ scOf fn.code = s4 ∧ fn.ntmps = 97 ∧ fn.results = r4 := ⟨_, rfl, by kernel_rfl, by kernel_rfl, by kernel_rfl⟩

-- 5 emulator/emulatorlaw15.DriveApplies [25, 38, 3]
def s5 : SC := (.seq (.region false [
  ⟨some 3, .box 25 (.tmp 0), 0, none⟩,
  ⟨some 6, .assign (.const (.bool false)), 4, none⟩])
  (.seq (.seq (.region false [
  ⟨some 13, .load 25 (.tmp 3), 25, none⟩,
  ⟨some 14, .call ⟨.value (.func 14), #[(.tmp 13)], #[25]⟩, 4, none⟩,
  ⟨some 15, .unOp .not 4 (.tmp 14), 4, none⟩,
  ⟨some 16, .move (.tmp 15), 4, none⟩,
  ⟨some 17, .move (.tmp 1), 38, (some (some 16, false))⟩,
  ⟨some 18, .call ⟨.value (.func 21), #[(.tmp 17)], #[38]⟩, 4, (some (some 16, false))⟩,
  ⟨some 19, .unOp .not 4 (.tmp 18), 4, (some (some 16, false))⟩,
  ⟨some 20, .pick (.tmp 16) (.const (.bool true)) (.tmp 19), 4, none⟩])
  (.cond (.tmp 20)
  (.seq (.region false [
    ⟨some 21, .call ⟨.value (.func 13), #[], #[]⟩, 4, none⟩,
    ⟨some 6, .assign (.tmp 21), 4, none⟩])
  .ret)
  .skip))
  (.seq (.region false [
  ⟨some 23, .load 25 (.tmp 3), 25, none⟩,
  ⟨some 24, .move (.tmp 1), 38, none⟩,
  ⟨some 25, .move (.tmp 2), 3, none⟩,
  ⟨some 26, .call ⟨.value (.func 22), #[(.tmp 23), (.tmp 24), (.tmp 25)], #[25, 38, 3]⟩, 40, none⟩,
  ⟨some 22, .move (.tmp 26), 40, none⟩,
  ⟨some 27, .extract (.tmp 22) 0, 25, none⟩,
  ⟨some 28, .extract (.tmp 22) 1, 3, none⟩,
  ⟨some 29, .extract (.tmp 22) 2, 26, none⟩,
  ⟨some 7, .alloc 25, 0, none⟩,
  ⟨none, .store 25 (.tmp 7) (.tmp 27), 0, none⟩,
  ⟨some 8, .assign (.tmp 28), 3, none⟩,
  ⟨some 9, .assign (.tmp 29), 26, none⟩])
  (.seq (.region false [
  ⟨some 31, .load 25 (.tmp 3), 25, none⟩,
  ⟨some 32, .move (.tmp 1), 38, none⟩,
  ⟨some 33, .move (.tmp 2), 3, none⟩,
  ⟨some 34, .call ⟨.value (.func 23), #[(.tmp 31), (.tmp 32), (.tmp 33)], #[25, 38, 3]⟩, 40, none⟩,
  ⟨some 30, .move (.tmp 34), 40, none⟩,
  ⟨some 35, .extract (.tmp 30) 0, 25, none⟩,
  ⟨some 36, .extract (.tmp 30) 1, 3, none⟩,
  ⟨some 37, .extract (.tmp 30) 2, 26, none⟩,
  ⟨some 10, .alloc 25, 0, none⟩,
  ⟨none, .store 25 (.tmp 10) (.tmp 35), 0, none⟩,
  ⟨some 11, .assign (.tmp 36), 3, none⟩,
  ⟨some 12, .assign (.tmp 37), 26, none⟩])
  (.seq (.region false [
  ⟨some 38, .load 25 (.tmp 7), 25, none⟩,
  ⟨some 39, .load 25 (.tmp 10), 25, none⟩,
  ⟨some 40, .call ⟨.value (.func 12), #[(.tmp 38), (.tmp 39)], #[25, 25]⟩, 4, none⟩,
  ⟨some 41, .move (.tmp 40), 4, none⟩,
  ⟨some 42, .move (.tmp 8), 3, (some (some 41, true))⟩,
  ⟨some 43, .move (.tmp 11), 3, (some (some 41, true))⟩,
  ⟨some 44, .binOp .eql 3 (.tmp 42) (.tmp 43) 3, 4, (some (some 41, true))⟩,
  ⟨some 45, .pick (.tmp 41) (.tmp 44) (.const (.bool false)), 4, none⟩,
  ⟨some 46, .move (.tmp 45), 4, none⟩,
  ⟨some 47, .move (.tmp 9), 26, (some (some 46, true))⟩,
  ⟨some 48, .move (.tmp 12), 26, (some (some 46, true))⟩,
  ⟨some 49, .binOp .eql 26 (.tmp 47) (.tmp 48) 26, 4, (some (some 46, true))⟩,
  ⟨some 50, .pick (.tmp 46) (.tmp 49) (.const (.bool false)), 4, none⟩,
  ⟨some 51, .move (.tmp 50), 4, none⟩,
  ⟨some 52, .call ⟨.value (.func 13), #[], #[]⟩, 4, (some (some 51, true))⟩,
  ⟨some 53, .pick (.tmp 51) (.tmp 52) (.const (.bool false)), 4, none⟩,
  ⟨some 6, .assign (.tmp 53), 4, none⟩])
  .ret)))))
def r5 : List ResultVar := [.tmp 6]
theorem c5 : ∃ fn, DC.body 5 = some fn ∧ scOf fn.code = s5 ∧ fn.ntmps = 54 ∧ fn.results = r5 := ⟨_, rfl, by kernel_rfl, by kernel_rfl, by kernel_rfl⟩

-- 6 emulator/emulatorlaw15.DriveDiffs [25, 25]
def s6 : SC := (.seq (.region false [
  ⟨some 2, .box 25 (.tmp 0), 0, none⟩,
  ⟨some 3, .box 25 (.tmp 1), 0, none⟩,
  ⟨some 4, .assign (.const (.bool false)), 4, none⟩])
  (.seq (.seq (.region false [
  ⟨some 8, .load 25 (.tmp 2), 25, none⟩,
  ⟨some 9, .call ⟨.value (.func 24), #[(.tmp 8)], #[25]⟩, 4, none⟩,
  ⟨some 10, .unOp .not 4 (.tmp 9), 4, none⟩,
  ⟨some 11, .move (.tmp 10), 4, none⟩,
  ⟨some 12, .load 25 (.tmp 3), 25, (some (some 11, false))⟩,
  ⟨some 13, .call ⟨.value (.func 24), #[(.tmp 12)], #[25]⟩, 4, (some (some 11, false))⟩,
  ⟨some 14, .unOp .not 4 (.tmp 13), 4, (some (some 11, false))⟩,
  ⟨some 15, .pick (.tmp 11) (.const (.bool true)) (.tmp 14), 4, none⟩])
  (.cond (.tmp 15)
  (.seq (.region false [
    ⟨some 16, .call ⟨.value (.func 13), #[], #[]⟩, 4, none⟩,
    ⟨some 4, .assign (.tmp 16), 4, none⟩])
  .ret)
  .skip))
  (.seq (.region true [
  ⟨some 17, .load 25 (.tmp 2), 25, none⟩,
  ⟨some 18, .load 25 (.tmp 3), 25, none⟩,
  ⟨some 19, .call ⟨.value (.func 25), #[(.tmp 17), (.tmp 18)], #[25, 25]⟩, 23, none⟩,
  ⟨some 20, .load 25 (.tmp 2), 25, none⟩,
  ⟨some 21, .load 25 (.tmp 3), 25, none⟩,
  ⟨some 22, .call ⟨.value (.func 26), #[(.tmp 20), (.tmp 21)], #[25, 25]⟩, 23, none⟩,
  ⟨some 5, .assign (.tmp 19), 23, none⟩,
  ⟨some 6, .assign (.tmp 22), 23, none⟩])
  (.seq (.seq (.region false [
  ⟨some 23, .move (.tmp 5), 23, none⟩,
  ⟨some 24, .call ⟨.builtin .len, #[(.tmp 23)], #[23]⟩, 3, none⟩,
  ⟨some 25, .move (.tmp 6), 23, none⟩,
  ⟨some 26, .call ⟨.builtin .len, #[(.tmp 25)], #[23]⟩, 3, none⟩,
  ⟨some 27, .binOp .neq 3 (.tmp 24) (.tmp 26) 3, 4, none⟩])
  (.cond (.tmp 27)
  (.seq (.region false [
    ⟨some 4, .assign (.const (.bool false)), 4, none⟩])
  .ret)
  .skip))
  (.seq (.seq (.region false [
  ⟨some 7, .assign (.const (.int .i64 0)), 3, none⟩])
  (.block 0
  (.loop 7
    (.seq (.seq (.region false [
      ⟨some 28, .move (.tmp 7), 3, none⟩,
      ⟨some 29, .move (.tmp 5), 23, none⟩,
      ⟨some 30, .call ⟨.builtin .len, #[(.tmp 29)], #[23]⟩, 3, none⟩,
      ⟨some 31, .binOp .lss 3 (.tmp 28) (.tmp 30) 3, 4, none⟩])
    (.cond (.tmp 31)
      .skip
      (.exit 0)))
    (.seq (.block 1
      (.seq (.region true [
        ⟨some 34, .move (.tmp 5), 23, none⟩,
        ⟨some 35, .move (.tmp 7), 3, none⟩,
        ⟨some 36, .indexAddr 23 (.tmp 34) (.tmp 35), 0, none⟩,
        ⟨some 37, .load 3 (.tmp 36), 3, none⟩,
        ⟨some 38, .move (.tmp 6), 23, none⟩,
        ⟨some 39, .move (.tmp 7), 3, none⟩,
        ⟨some 40, .indexAddr 23 (.tmp 38) (.tmp 39), 0, none⟩,
        ⟨some 41, .load 3 (.tmp 40), 3, none⟩,
        ⟨some 42, .binOp .neq 3 (.tmp 37) (.tmp 41) 3, 4, none⟩])
      (.cond (.tmp 42)
        (.seq (.region false [
          ⟨some 4, .assign (.const (.bool false)), 4, none⟩])
        .ret)
        .skip)))
    (.region false [
      ⟨some 32, .move (.tmp 7), 3, none⟩,
      ⟨some 33, .binOp .add 3 (.tmp 32) (.const (.int .i64 1)) 3, 3, none⟩,
      ⟨some 7, .assign (.tmp 33), 3, none⟩]))))))
  (.seq (.region false [
  ⟨some 43, .load 25 (.tmp 2), 25, none⟩,
  ⟨some 44, .load 25 (.tmp 2), 25, none⟩,
  ⟨some 45, .call ⟨.value (.func 25), #[(.tmp 43), (.tmp 44)], #[25, 25]⟩, 23, none⟩,
  ⟨some 46, .call ⟨.builtin .len, #[(.tmp 45)], #[23]⟩, 3, none⟩,
  ⟨some 47, .binOp .eql 3 (.tmp 46) (.const (.int .i64 0)) 3, 4, none⟩,
  ⟨some 48, .move (.tmp 47), 4, none⟩,
  ⟨some 49, .call ⟨.value (.func 13), #[], #[]⟩, 4, (some (some 48, true))⟩,
  ⟨some 50, .pick (.tmp 48) (.tmp 49) (.const (.bool false)), 4, none⟩,
  ⟨some 4, .assign (.tmp 50), 4, none⟩])
  .ret))))))
def r6 : List ResultVar := [.tmp 4]
theorem c6 : ∃ fn, DC.body 6 = some fn ∧ scOf fn.code = s6 ∧ fn.ntmps = 51 ∧ fn.results = r6 := ⟨_, rfl, by kernel_rfl, by kernel_rfl, by kernel_rfl⟩
@[simp] theorem k6_7 : DC.keep 6 7 = some [2, 5, 6, 7] := rfl

-- 7 emulator/emulatorlaw15.DriveRights [25]
def s7 : SC := (.seq (.region false [
  ⟨some 1, .box 25 (.tmp 0), 0, none⟩,
  ⟨some 2, .assign (.const (.bool false)), 4, none⟩])
  (.seq (.seq (.region false [
  ⟨some 3, .load 25 (.tmp 1), 25, none⟩,
  ⟨some 4, .call ⟨.value (.func 24), #[(.tmp 3)], #[25]⟩, 4, none⟩,
  ⟨some 5, .unOp .not 4 (.tmp 4), 4, none⟩])
  (.cond (.tmp 5)
  (.seq (.region false [
    ⟨some 6, .call ⟨.value (.func 13), #[], #[]⟩, 4, none⟩,
    ⟨some 2, .assign (.tmp 6), 4, none⟩])
  .ret)
  .skip))
  (.seq (.region true [
  ⟨some 7, .load 25 (.tmp 1), 25, none⟩,
  ⟨some 8, .call ⟨.value (.func 27), #[(.tmp 7)], #[25]⟩, 4, none⟩,
  ⟨some 9, .load 25 (.tmp 1), 25, none⟩,
  ⟨some 10, .call ⟨.value (.func 28), #[(.tmp 9)], #[25]⟩, 4, none⟩,
  ⟨some 11, .binOp .eql 4 (.tmp 8) (.tmp 10) 4, 4, none⟩,
  ⟨some 12, .move (.tmp 11), 4, none⟩,
  ⟨some 13, .call ⟨.value (.func 13), #[], #[]⟩, 4, (some (some 12, true))⟩,
  ⟨some 14, .pick (.tmp 12) (.tmp 13) (.const (.bool false)), 4, none⟩,
  ⟨some 2, .assign (.tmp 14), 4, none⟩])
  .ret)))
def r7 : List ResultVar := [.tmp 2]
theorem c7 : ∃ fn, DC.body 7 = some fn ∧ scOf fn.code = s7 ∧ fn.ntmps = 15 ∧ fn.results = r7 := ⟨_, rfl, by kernel_rfl, by kernel_rfl, by kernel_rfl⟩

-- 8 emulator/emulatorlaw15.DriveBack [25, 3, 9]
def s8 : SC := (.seq (.region false [
  ⟨some 3, .box 25 (.tmp 0), 0, none⟩,
  ⟨some 6, .assign (.const (.bool false)), 4, none⟩])
  (.seq (.seq (.region false [
  ⟨some 13, .load 25 (.tmp 3), 25, none⟩,
  ⟨some 14, .call ⟨.value (.func 14), #[(.tmp 13)], #[25]⟩, 4, none⟩,
  ⟨some 15, .unOp .not 4 (.tmp 14), 4, none⟩,
  ⟨some 16, .move (.tmp 15), 4, none⟩,
  ⟨some 17, .move (.tmp 2), 9, (some (some 16, false))⟩,
  ⟨some 18, .call ⟨.builtin .len, #[(.tmp 17)], #[9]⟩, 3, (some (some 16, false))⟩,
  ⟨some 19, .binOp .gtr 3 (.tmp 18) (.const (.int .i64 200)) 3, 4, (some (some 16, false))⟩,
  ⟨some 20, .pick (.tmp 16) (.const (.bool true)) (.tmp 19), 4, none⟩])
  (.cond (.tmp 20)
  (.seq (.region false [
    ⟨some 21, .call ⟨.value (.func 13), #[], #[]⟩, 4, none⟩,
    ⟨some 6, .assign (.tmp 21), 4, none⟩])
  .ret)
  .skip))
  (.seq (.region false [
  ⟨some 23, .load 25 (.tmp 3), 25, none⟩,
  ⟨some 24, .move (.tmp 1), 3, none⟩,
  ⟨some 25, .move (.tmp 2), 9, none⟩,
  ⟨some 26, .call ⟨.value (.func 17), #[(.tmp 23), (.tmp 24), (.tmp 25)], #[25, 3, 9]⟩, 27, none⟩,
  ⟨some 22, .move (.tmp 26), 27, none⟩,
  ⟨some 27, .extract (.tmp 22) 0, 25, none⟩,
  ⟨some 28, .extract (.tmp 22) 1, 26, none⟩,
  ⟨some 7, .alloc 25, 0, none⟩,
  ⟨none, .store 25 (.tmp 7) (.tmp 27), 0, none⟩,
  ⟨some 8, .assign (.tmp 28), 26, none⟩])
  (.seq (.seq (.region false [
  ⟨some 29, .move (.tmp 8), 26, none⟩,
  ⟨some 30, .binOp .neq 26 (.tmp 29) (.const (.int .i64 0)) 26, 4, none⟩])
  (.cond (.tmp 30)
  (.seq (.region false [
    ⟨some 31, .fieldAddr 25 (.tmp 7) 0, 0, none⟩,
    ⟨some 32, .load 22 (.tmp 31), 22, none⟩,
    ⟨some 33, .call ⟨.builtin .len, #[(.tmp 32)], #[22]⟩, 3, none⟩,
    ⟨some 34, .binOp .eql 3 (.tmp 33) (.const (.int .i64 0)) 3, 4, none⟩,
    ⟨some 35, .move (.tmp 34), 4, none⟩,
    ⟨some 36, .call ⟨.value (.func 13), #[], #[]⟩, 4, (some (some 35, true))⟩,
    ⟨some 37, .pick (.tmp 35) (.tmp 36) (.const (.bool false)), 4, none⟩,
    ⟨some 6, .assign (.tmp 37), 4, none⟩])
  .ret)
  .skip))
  (.seq (.region false [
  ⟨some 39, .load 25 (.tmp 7), 25, none⟩,
  ⟨some 40, .move (.tmp 1), 3, none⟩,
  ⟨some 41, .call ⟨.value (.func 15), #[(.tmp 39), (.tmp 40)], #[25, 3]⟩, 33, none⟩,
  ⟨some 38, .move (.tmp 41), 33, none⟩,
  ⟨some 42, .extract (.tmp 38) 0, 9, none⟩,
  ⟨some 43, .extract (.tmp 38) 1, 26, none⟩,
  ⟨some 9, .assign (.tmp 42), 9, none⟩,
  ⟨some 10, .assign (.tmp 43), 26, none⟩])
  (.seq (.seq (.region false [
  ⟨some 44, .move (.tmp 10), 26, none⟩,
  ⟨some 45, .binOp .neq 26 (.tmp 44) (.const (.int .i64 0)) 26, 4, none⟩,
  ⟨some 46, .move (.tmp 45), 4, none⟩,
  ⟨some 47, .move (.tmp 9), 9, (some (some 46, false))⟩,
  ⟨some 48, .call ⟨.builtin .len, #[(.tmp 47)], #[9]⟩, 3, (some (some 46, false))⟩,
  ⟨some 49, .binOp .neq 3 (.tmp 48) (.const (.int .i64 128)) 3, 4, (some (some 46, false))⟩,
  ⟨some 50, .pick (.tmp 46) (.const (.bool true)) (.tmp 49), 4, none⟩,
  ⟨some 51, .move (.tmp 50), 4, none⟩,
  ⟨some 52, .move (.tmp 9), 9, (some (some 51, false))⟩,
  ⟨some 53, .move (.tmp 2), 9, (some (some 51, false))⟩,
  ⟨some 54, .call ⟨.builtin .len, #[(.tmp 53)], #[9]⟩, 3, (some (some 51, false))⟩,
  ⟨some 55, .slice 9 (.tmp 52) none (some (.tmp 54)) none, 9, (some (some 51, false))⟩,
  ⟨some 56, .move (.tmp 2), 9, (some (some 51, false))⟩,
  ⟨some 57, .binOp .neq 9 (.tmp 55) (.tmp 56) 9, 4, (some (some 51, false))⟩,
  ⟨some 58, .pick (.tmp 51) (.const (.bool true)) (.tmp 57), 4, none⟩,
  ⟨some 59, .move (.tmp 58), 4, none⟩,
  ⟨some 60, .load 25 (.tmp 7), 25, (some (some 59, false))⟩,
  ⟨some 61, .call ⟨.value (.func 27), #[(.tmp 60)], #[25]⟩, 4, (some (some 59, false))⟩,
  ⟨some 62, .unOp .not 4 (.tmp 61), 4, (some (some 59, false))⟩,
  ⟨some 63, .pick (.tmp 59) (.const (.bool true)) (.tmp 62), 4, none⟩])
  (.cond (.tmp 63)
  (.seq (.region false [
    ⟨some 6, .assign (.const (.bool false)), 4, none⟩])
  .ret)
  .skip))
  (.seq (.seq (.region false [
  ⟨some 64, .move (.tmp 2), 9, none⟩,
  ⟨some 65, .call ⟨.builtin .len, #[(.tmp 64)], #[9]⟩, 3, none⟩,
  ⟨some 11, .assign (.tmp 65), 3, none⟩])
  (.block 0
  (.loop 10
    (.seq (.seq (.region false [
      ⟨some 66, .move (.tmp 11), 3, none⟩,
      ⟨some 67, .move (.tmp 9), 9, none⟩,
      ⟨some 68, .call ⟨.builtin .len, #[(.tmp 67)], #[9]⟩, 3, none⟩,
      ⟨some 69, .binOp .lss 3 (.tmp 66) (.tmp 68) 3, 4, none⟩])
    (.cond (.tmp 69)
      .skip
      (.exit 0)))
    (.seq (.block 1
      (.seq (.region false [
        ⟨some 72, .move (.tmp 9), 9, none⟩,
        ⟨some 73, .move (.tmp 11), 3, none⟩,
        ⟨some 74, .index 9 (.tmp 72) (.tmp 73), 5, none⟩,
        ⟨some 75, .binOp .neq 5 (.tmp 74) (.const (.int .u8 0)) 5, 4, none⟩])
      (.cond (.tmp 75)
        (.seq (.region false [
          ⟨some 6, .assign (.const (.bool false)), 4, none⟩])
        .ret)
        .skip)))
    (.region false [
      ⟨some 70, .move (.tmp 11), 3, none⟩,
      ⟨some 71, .binOp .add 3 (.tmp 70) (.const (.int .i64 1)) 3, 3, none⟩,
      ⟨some 11, .assign (.tmp 71), 3, none⟩]))))))
  (.seq (.region false [
  ⟨some 76, .load 25 (.tmp 3), 25, none⟩,
  ⟨some 77, .load 25 (.tmp 7), 25, none⟩,
  ⟨some 78, .call ⟨.value (.func 25), #[(.tmp 76), (.tmp 77)], #[25, 25]⟩, 23, none⟩,
  ⟨some 12, .assign (.tmp 78), 23, none⟩])
  (.seq (.region false [
  ⟨some 79, .move (.tmp 12), 23, none⟩,
  ⟨some 80, .call ⟨.builtin .len, #[(.tmp 79)], #[23]⟩, 3, none⟩,
  ⟨some 81, .binOp .eql 3 (.tmp 80) (.const (.int .i64 0)) 3, 4, none⟩,
  ⟨some 82, .move (.tmp 81), 4, none⟩,
  ⟨some 83, .move (.tmp 12), 23, (some (some 82, false))⟩,
  ⟨some 84, .call ⟨.builtin .len, #[(.tmp 83)], #[23]⟩, 3, (some (some 82, false))⟩,
  ⟨some 85, .binOp .eql 3 (.tmp 84) (.const (.int .i64 1)) 3, 4, (some (some 82, false))⟩,
  ⟨some 86, .move (.tmp 85), 4, (some (some 82, false))⟩,
  ⟨some 87, .move (.tmp 12), 23, (some (some 86, true))⟩,
  ⟨some 88, .indexAddr 23 (.tmp 87) (.const (.int .i64 0)), 0, (some (some 86, true))⟩,
  ⟨some 89, .load 3 (.tmp 88), 3, (some (some 86, true))⟩,
  ⟨some 90, .move (.tmp 1), 3, (some (some 86, true))⟩,
  ⟨some 91, .binOp .eql 3 (.tmp 89) (.tmp 90) 3, 4, (some (some 86, true))⟩,
  ⟨some 92, .pick (.tmp 86) (.tmp 91) (.const (.bool false)), 4, (some (some 82, false))⟩,
  ⟨some 93, .pick (.tmp 82) (.const (.bool true)) (.tmp 92), 4, none⟩,
  ⟨some 94, .move (.tmp 93), 4, none⟩,
  ⟨some 95, .fieldAddr 25 (.tmp 7) 1, 0, (some (some 94, true))⟩,
  ⟨some 96, .load 23 (.tmp 95), 23, (some (some 94, true))⟩,
  ⟨some 97, .call ⟨.builtin .len, #[(.tmp 96)], #[23]⟩, 3, (some (some 94, true))⟩,
  ⟨some 98, .fieldAddr 25 (.tmp 3) 1, 0, (some (some 94, true))⟩,
  ⟨some 99, .load 23 (.tmp 98), 23, (some (some 94, true))⟩,
  ⟨some 100, .call ⟨.builtin .len, #[(.tmp 99)], #[23]⟩, 3, (some (some 94, true))⟩,
  ⟨some 101, .binOp .eql 3 (.tmp 97) (.tmp 100) 3, 4, (some (some 94, true))⟩,
  ⟨some 102, .pick (.tmp 94) (.tmp 101) (.const (.bool false)), 4, none⟩,
  ⟨some 103, .move (.tmp 102), 4, none⟩,
  ⟨some 104, .call ⟨.value (.func 13), #[], #[]⟩, 4, (some (some 103, true))⟩,
  ⟨some 105, .pick (.tmp 103) (.tmp 104) (.const (.bool false)), 4, none⟩,
  ⟨some 6, .assign (.tmp 105), 4, none⟩])
  .ret)))))))))
def r8 : List ResultVar := [.tmp 6]
theorem c8 : ∃ fn, DC.body 8 = some fn ∧ scOf fn.code = s8 ∧ fn.ntmps = 106 ∧ fn.results = r8 := ⟨_, rfl, by kernel_rfl, by kernel_rfl, by kernel_rfl⟩
@[simp] theorem k8_10 : DC.keep 8 10 = some [1, 3, 7, 9, 11] := rfl

-- 9 emulator/emulatorlaw15.DriveSplits [25, 38, 5]
def s9 : SC := (.seq (.region false [
  ⟨some 3, .box 25 (.tmp 0), 0, none⟩,
  ⟨some 6, .assign (.const (.bool false)), 4, none⟩])
  (.seq (.seq (.region false [
  ⟨some 20, .load 25 (.tmp 3), 25, none⟩,
  ⟨some 21, .call ⟨.value (.func 14), #[(.tmp 20)], #[25]⟩, 4, none⟩,
  ⟨some 22, .unOp .not 4 (.tmp 21), 4, none⟩,
  ⟨some 23, .move (.tmp 22), 4, none⟩,
  ⟨some 24, .move (.tmp 1), 38, (some (some 23, false))⟩,
  ⟨some 25, .call ⟨.value (.func 21), #[(.tmp 24)], #[38]⟩, 4, (some (some 23, false))⟩,
  ⟨some 26, .unOp .not 4 (.tmp 25), 4, (some (some 23, false))⟩,
  ⟨some 27, .pick (.tmp 23) (.const (.bool true)) (.tmp 26), 4, none⟩])
  (.cond (.tmp 27)
  (.seq (.region false [
    ⟨some 28, .call ⟨.value (.func 13), #[], #[]⟩, 4, none⟩,
    ⟨some 6, .assign (.tmp 28), 4, none⟩])
  .ret)
  .skip))
  (.seq (.region false [
  ⟨some 30, .load 25 (.tmp 3), 25, none⟩,
  ⟨some 31, .move (.tmp 1), 38, none⟩,
  ⟨some 32, .call ⟨.value (.func 22), #[(.tmp 30), (.tmp 31), (.const (.int .i64 (-1)))], #[25, 38, 3]⟩, 40, none⟩,
  ⟨some 29, .move (.tmp 32), 40, none⟩,
  ⟨some 33, .extract (.tmp 29) 0, 25, none⟩,
  ⟨some 34, .extract (.tmp 29) 1, 3, none⟩,
  ⟨some 35, .extract (.tmp 29) 2, 26, none⟩,
  ⟨some 7, .alloc 25, 0, none⟩,
  ⟨none, .store 25 (.tmp 7) (.tmp 33), 0, none⟩,
  ⟨some 8, .assign (.tmp 34), 3, none⟩,
  ⟨some 9, .assign (.tmp 35), 26, none⟩])
  (.seq (.seq (.region false [
  ⟨some 36, .move (.tmp 9), 26, none⟩,
  ⟨some 37, .binOp .neq 26 (.tmp 36) (.const (.int .i64 0)) 26, 4, none⟩])
  (.cond (.tmp 37)
  (.seq (.region false [
    ⟨some 38, .move (.tmp 8), 3, none⟩,
    ⟨some 39, .move (.tmp 1), 38, none⟩,
    ⟨some 40, .call ⟨.builtin .len, #[(.tmp 39)], #[38]⟩, 3, none⟩,
    ⟨some 41, .binOp .lss 3 (.tmp 38) (.tmp 40) 3, 4, none⟩,
    ⟨some 42, .move (.tmp 41), 4, none⟩,
    ⟨some 43, .call ⟨.value (.func 13), #[], #[]⟩, 4, (some (some 42, true))⟩,
    ⟨some 44, .pick (.tmp 42) (.tmp 43) (.const (.bool false)), 4, none⟩,
    ⟨some 6, .assign (.tmp 44), 4, none⟩])
  .ret)
  .skip))
  (.seq (.region false [
  ⟨some 46, .load 25 (.tmp 3), 25, none⟩,
  ⟨some 47, .move (.tmp 1), 38, none⟩,
  ⟨some 48, .move (.tmp 2), 5, none⟩,
  ⟨some 49, .convert 5 3 (.tmp 48), 3, none⟩,
  ⟨some 50, .call ⟨.value (.func 22), #[(.tmp 46), (.tmp 47), (.tmp 49)], #[25, 38, 3]⟩, 40, none⟩,
  ⟨some 45, .move (.tmp 50), 40, none⟩,
  ⟨some 51, .extract (.tmp 45) 0, 25, none⟩,
  ⟨some 52, .extract (.tmp 45) 1, 3, none⟩,
  ⟨some 53, .extract (.tmp 45) 2, 26, none⟩,
  ⟨some 10, .alloc 25, 0, none⟩,
  ⟨none, .store 25 (.tmp 10) (.tmp 51), 0, none⟩,
  ⟨some 11, .assign (.tmp 52), 3, none⟩,
  ⟨some 12, .assign (.tmp 53), 26, none⟩])
  (.seq (.seq (.region false [
  ⟨some 54, .move (.tmp 12), 26, none⟩,
  ⟨some 55, .binOp .neq 26 (.tmp 54) (.const (.int .i64 0)) 26, 4, none⟩,
  ⟨some 56, .move (.tmp 55), 4, none⟩,
  ⟨some 57, .move (.tmp 11), 3, (some (some 56, false))⟩,
  ⟨some 58, .move (.tmp 2), 5, (some (some 56, false))⟩,
  ⟨some 59, .convert 5 3 (.tmp 58), 3, (some (some 56, false))⟩,
  ⟨some 60, .move (.tmp 1), 38, (some (some 56, false))⟩,
  ⟨some 61, .call ⟨.builtin .len, #[(.tmp 60)], #[38]⟩, 3, (some (some 56, false))⟩,
  ⟨some 62, .call ⟨.builtin .min, #[(.tmp 59), (.tmp 61)], #[3, 3]⟩, 3, (some (some 56, false))⟩,
  ⟨some 63, .binOp .neq 3 (.tmp 57) (.tmp 62) 3, 4, (some (some 56, false))⟩,
  ⟨some 64, .pick (.tmp 56) (.const (.bool true)) (.tmp 63), 4, none⟩,
  ⟨some 65, .move (.tmp 64), 4, none⟩,
  ⟨some 66, .move (.tmp 8), 3, (some (some 65, false))⟩,
  ⟨some 67, .move (.tmp 1), 38, (some (some 65, false))⟩,
  ⟨some 68, .call ⟨.builtin .len, #[(.tmp 67)], #[38]⟩, 3, (some (some 65, false))⟩,
  ⟨some 69, .binOp .neq 3 (.tmp 66) (.tmp 68) 3, 4, (some (some 65, false))⟩,
  ⟨some 70, .pick (.tmp 65) (.const (.bool true)) (.tmp 69), 4, none⟩])
  (.cond (.tmp 70)
  (.seq (.region false [
    ⟨some 6, .assign (.const (.bool false)), 4, none⟩])
  .ret)
  .skip))
  (.seq (.region true [
  ⟨some 72, .load 25 (.tmp 10), 25, none⟩,
  ⟨some 73, .move (.tmp 1), 38, none⟩,
  ⟨some 74, .move (.tmp 11), 3, none⟩,
  ⟨some 75, .slice 38 (.tmp 73) (some (.tmp 74)) none none, 38, none⟩,
  ⟨some 76, .call ⟨.value (.func 22), #[(.tmp 72), (.tmp 75), (.const (.int .i64 (-1)))], #[25, 38, 3]⟩, 40, none⟩,
  ⟨some 71, .move (.tmp 76), 40, none⟩,
  ⟨some 77, .extract (.tmp 71) 0, 25, none⟩,
  ⟨some 78, .extract (.tmp 71) 1, 3, none⟩,
  ⟨some 79, .extract (.tmp 71) 2, 26, none⟩,
  ⟨some 13, .alloc 25, 0, none⟩,
  ⟨none, .store 25 (.tmp 13) (.tmp 77), 0, none⟩,
  ⟨some 14, .assign (.tmp 78), 3, none⟩,
  ⟨some 15, .assign (.tmp 79), 26, none⟩])
  (.seq (.region false [
  ⟨some 80, .load 25 (.tmp 3), 25, none⟩,
  ⟨some 81, .load 25 (.tmp 7), 25, none⟩,
  ⟨some 82, .call ⟨.value (.func 25), #[(.tmp 80), (.tmp 81)], #[25, 25]⟩, 23, none⟩,
  ⟨some 16, .assign (.tmp 82), 23, none⟩])
  (.seq (.seq (.region false [
  ⟨some 17, .assign (.const (.int .i64 0)), 3, none⟩])
  (.block 0
  (.loop 12
    (.seq (.seq (.region false [
      ⟨some 83, .move (.tmp 17), 3, none⟩,
      ⟨some 84, .move (.tmp 16), 23, none⟩,
      ⟨some 85, .call ⟨.builtin .len, #[(.tmp 84)], #[23]⟩, 3, none⟩,
      ⟨some 86, .binOp .lss 3 (.tmp 83) (.tmp 85) 3, 4, none⟩])
    (.cond (.tmp 86)
      .skip
      (.exit 0)))
    (.seq (.block 1
      (.seq (.region false [
        ⟨some 18, .assign (.const (.bool false)), 4, none⟩])
      (.seq (.seq (.region false [
        ⟨some 19, .assign (.const (.int .i64 0)), 3, none⟩])
      (.block 2
        (.loop 16
          (.seq (.seq (.region false [
            ⟨some 89, .move (.tmp 19), 3, none⟩,
            ⟨some 90, .move (.tmp 1), 38, none⟩,
            ⟨some 91, .call ⟨.builtin .len, #[(.tmp 90)], #[38]⟩, 3, none⟩,
            ⟨some 92, .binOp .lss 3 (.tmp 89) (.tmp 91) 3, 4, none⟩])
          (.cond (.tmp 92)
            .skip
            (.exit 2)))
          (.seq (.block 3
            (.region true [
              ⟨some 95, .move (.tmp 18), 4, none⟩,
              ⟨some 96, .move (.tmp 95), 4, none⟩,
              ⟨some 97, .move (.tmp 1), 38, (some (some 96, false))⟩,
              ⟨some 98, .move (.tmp 19), 3, (some (some 96, false))⟩,
              ⟨some 99, .indexAddr 38 (.tmp 97) (.tmp 98), 0, (some (some 96, false))⟩,
              ⟨some 100, .fieldAddr 45 (.tmp 99) 0, 0, (some (some 96, false))⟩,
              ⟨some 101, .load 3 (.tmp 100), 3, (some (some 96, false))⟩,
              ⟨some 102, .move (.tmp 16), 23, (some (some 96, false))⟩,
              ⟨some 103, .move (.tmp 17), 3, (some (some 96, false))⟩,
              ⟨some 104, .indexAddr 23 (.tmp 102) (.tmp 103), 0, (some (some 96, false))⟩,
              ⟨some 105, .load 3 (.tmp 104), 3, (some (some 96, false))⟩,
              ⟨some 106, .binOp .eql 3 (.tmp 101) (.tmp 105) 3, 4, (some (some 96, false))⟩,
              ⟨some 107, .pick (.tmp 96) (.const (.bool true)) (.tmp 106), 4, none⟩,
              ⟨some 18, .assign (.tmp 107), 4, none⟩]))
          (.region false [
            ⟨some 93, .move (.tmp 19), 3, none⟩,
            ⟨some 94, .binOp .add 3 (.tmp 93) (.const (.int .i64 1)) 3, 3, none⟩,
            ⟨some 19, .assign (.tmp 94), 3, none⟩]))))))
      (.seq (.region false [
        ⟨some 108, .move (.tmp 18), 4, none⟩,
        ⟨some 109, .unOp .not 4 (.tmp 108), 4, none⟩])
      (.cond (.tmp 109)
        (.seq (.region false [
          ⟨some 6, .assign (.const (.bool false)), 4, none⟩])
        .ret)
        .skip)))))
    (.region false [
      ⟨some 87, .move (.tmp 17), 3, none⟩,
      ⟨some 88, .binOp .add 3 (.tmp 87) (.const (.int .i64 1)) 3, 3, none⟩,
      ⟨some 17, .assign (.tmp 88), 3, none⟩]))))))
  (.seq (.region false [
  ⟨some 110, .move (.tmp 15), 26, none⟩,
  ⟨some 111, .binOp .eql 26 (.tmp 110) (.const (.int .i64 0)) 26, 4, none⟩,
  ⟨some 112, .move (.tmp 111), 4, none⟩,
  ⟨some 113, .load 25 (.tmp 13), 25, (some (some 112, true))⟩,
  ⟨some 114, .load 25 (.tmp 7), 25, (some (some 112, true))⟩,
  ⟨some 115, .call ⟨.value (.func 25), #[(.tmp 113), (.tmp 114)], #[25, 25]⟩, 23, (some (some 112, true))⟩,
  ⟨some 116, .call ⟨.builtin .len, #[(.tmp 115)], #[23]⟩, 3, (some (some 112, true))⟩,
  ⟨some 117, .binOp .eql 3 (.tmp 116) (.const (.int .i64 0)) 3, 4, (some (some 112, true))⟩,
  ⟨some 118, .pick (.tmp 112) (.tmp 117) (.const (.bool false)), 4, none⟩,
  ⟨some 119, .move (.tmp 118), 4, none⟩,
  ⟨some 120, .load 25 (.tmp 7), 25, (some (some 119, true))⟩,
  ⟨some 121, .call ⟨.value (.func 27), #[(.tmp 120)], #[25]⟩, 4, (some (some 119, true))⟩,
  ⟨some 122, .pick (.tmp 119) (.tmp 121) (.const (.bool false)), 4, none⟩,
  ⟨some 123, .move (.tmp 122), 4, none⟩,
  ⟨some 124, .call ⟨.value (.func 13), #[], #[]⟩, 4, (some (some 123, true))⟩,
  ⟨some 125, .pick (.tmp 123) (.tmp 124) (.const (.bool false)), 4, none⟩,
  ⟨some 6, .assign (.tmp 125), 4, none⟩])
  .ret))))))))))
def r9 : List ResultVar := [.tmp 6]
theorem c9 : ∃ fn, DC.body 9 = some fn ∧ scOf fn.code = s9 ∧ fn.ntmps = 126 ∧ fn.results = r9 := ⟨_, rfl, by kernel_rfl, by kernel_rfl, by kernel_rfl⟩
@[simp] theorem k9_12 : DC.keep 9 12 = some [1, 7, 13, 15, 16, 17] := rfl
@[simp] theorem k9_16 : DC.keep 9 16 = some [1, 7, 13, 15, 16, 17, 18, 19] := rfl

-- 10 emulator/drive.New [3]
def s10 : SC := (.seq (.region false [
  ⟨some 2, .alloc 25, 0, none⟩,
  ⟨some 3, .assign (.const (.int .i64 0)), 26, none⟩])
  (.seq (.seq (.region false [
  ⟨some 5, .move (.tmp 0), 3, none⟩,
  ⟨some 6, .binOp .lss 3 (.tmp 5) (.const (.int .i64 1)) 3, 4, none⟩,
  ⟨some 7, .move (.tmp 6), 4, none⟩,
  ⟨some 8, .move (.tmp 0), 3, (some (some 7, false))⟩,
  ⟨some 9, .binOp .gtr 3 (.tmp 8) (.const (.int .i64 256)) 3, 4, (some (some 7, false))⟩,
  ⟨some 10, .pick (.tmp 7) (.const (.bool true)) (.tmp 9), 4, none⟩])
  (.cond (.tmp 10)
  (.seq (.region false [
    ⟨some 11, .build 25 #[], 25, none⟩,
    ⟨none, .store 25 (.tmp 2) (.tmp 11), 0, none⟩,
    ⟨some 3, .assign (.const (.int .i64 2)), 26, none⟩])
  .ret)
  .skip))
  (.seq (.region false [
  ⟨some 12, .call ⟨.value (.func 29), #[(.const (.string ⟨#[0]⟩)), (.const (.int .i64 128))], #[9, 3]⟩, 9, none⟩,
  ⟨some 4, .assign (.tmp 12), 9, none⟩])
  (.seq (.region false [
  ⟨some 13, .move (.tmp 4), 9, none⟩,
  ⟨some 14, .buildSlice 22 1 #[(0, (.tmp 13))], 22, none⟩,
  ⟨some 15, .move (.tmp 0), 3, none⟩,
  ⟨some 16, .call ⟨.value (.func 30), #[(.tmp 14), (.tmp 15)], #[22, 3]⟩, 22, none⟩,
  ⟨some 17, .build 25 #[(0, (.tmp 16))], 25, none⟩,
  ⟨none, .store 25 (.tmp 2) (.tmp 17), 0, none⟩,
  ⟨some 3, .assign (.const (.int .i64 0)), 26, none⟩])
  .ret))))
def r10 : List ResultVar := [.cell 2 25, .tmp 3]
theorem c10 : ∃ fn, DC.body 10 = some fn ∧ scOf fn.code = s10 ∧ fn.ntmps = 18 ∧ fn.results = r10 := ⟨_, rfl, by kernel_rfl, by kernel_rfl, by kernel_rfl⟩

-- 11 emulator/emulatorref15.New [3]
def s11 : SC := (.seq (.region false [
  ⟨some 2, .alloc 25, 0, none⟩,
  ⟨some 3, .assign (.const (.int .i64 0)), 26, none⟩])
  (.seq (.seq (.region false [
  ⟨some 6, .move (.tmp 0), 3, none⟩,
  ⟨some 7, .binOp .lss 3 (.tmp 6) (.const (.int .i64 1)) 3, 4, none⟩,
  ⟨some 8, .move (.tmp 7), 4, none⟩,
  ⟨some 9, .move (.tmp 0), 3, (some (some 8, false))⟩,
  ⟨some 10, .binOp .gtr 3 (.tmp 9) (.const (.int .i64 256)) 3, 4, (some (some 8, false))⟩,
  ⟨some 11, .pick (.tmp 8) (.const (.bool true)) (.tmp 10), 4, none⟩])
  (.cond (.tmp 11)
  (.seq (.region false [
    ⟨some 12, .build 25 #[], 25, none⟩,
    ⟨none, .store 25 (.tmp 2) (.tmp 12), 0, none⟩,
    ⟨some 3, .assign (.const (.int .i64 2)), 26, none⟩])
  .ret)
  .skip))
  (.seq (.region false [
  ⟨some 4, .alloc 25, 0, none⟩])
  (.seq (.seq (.region false [
  ⟨some 5, .assign (.const (.int .i64 0)), 3, none⟩])
  (.block 0
  (.loop 5
    (.seq (.seq (.region false [
      ⟨some 13, .move (.tmp 5), 3, none⟩,
      ⟨some 14, .move (.tmp 0), 3, none⟩,
      ⟨some 15, .binOp .lss 3 (.tmp 13) (.tmp 14) 3, 4, none⟩])
    (.cond (.tmp 15)
      .skip
      (.exit 0)))
    (.seq (.block 1
      (.region true [
        ⟨some 18, .fieldAddr 25 (.tmp 4) 0, 0, none⟩,
        ⟨some 19, .load 22 (.tmp 18), 22, none⟩,
        ⟨some 20, .call ⟨.value (.func 31), #[(.const (.int .i64 128))], #[3]⟩, 9, none⟩,
        ⟨some 21, .buildSlice 22 1 #[(0, (.tmp 20))], 22, none⟩,
        ⟨some 22, .call ⟨.builtin .append, #[(.tmp 19), (.tmp 21)], #[22, 22]⟩, 22, none⟩,
        ⟨some 23, .fieldAddr 25 (.tmp 4) 0, 0, none⟩,
        ⟨none, .store 22 (.tmp 23) (.tmp 22), 0, none⟩]))
    (.region false [
      ⟨some 16, .move (.tmp 5), 3, none⟩,
      ⟨some 17, .binOp .add 3 (.tmp 16) (.const (.int .i64 1)) 3, 3, none⟩,
      ⟨some 5, .assign (.tmp 17), 3, none⟩]))))))
  (.seq (.region false [
  ⟨some 24, .load 25 (.tmp 4), 25, none⟩,
  ⟨none, .store 25 (.tmp 2) (.tmp 24), 0, none⟩,
  ⟨some 3, .assign (.const (.int .i64 0)), 26, none⟩])
  .ret)))))
def r11 : List ResultVar := [.cell 2 25, .tmp 3]
theorem c11 : ∃ fn, DC.body 11 = some fn ∧ scOf fn.code = s11 ∧ fn.ntmps = 25 ∧ fn.results = r11 := ⟨_, rfl, by kernel_rfl, by kernel_rfl, by kernel_rfl⟩
@[simp] theorem k11_5 : DC.keep 11 5 = some [0, 2, 4, 5] := rfl

-- 12 emulator/emulatorref15.SameDrive [25, 25]
def s12 : SC := (.seq (.region false [
  ⟨some 2, .box 25 (.tmp 0), 0, none⟩,
  ⟨some 3, .box 25 (.tmp 1), 0, none⟩,
  ⟨some 4, .assign (.const (.bool false)), 4, none⟩])
  (.seq (.seq (.region false [
  ⟨some 6, .fieldAddr 25 (.tmp 2) 0, 0, none⟩,
  ⟨some 7, .load 22 (.tmp 6), 22, none⟩,
  ⟨some 8, .call ⟨.builtin .len, #[(.tmp 7)], #[22]⟩, 3, none⟩,
  ⟨some 9, .fieldAddr 25 (.tmp 3) 0, 0, none⟩,
  ⟨some 10, .load 22 (.tmp 9), 22, none⟩,
  ⟨some 11, .call ⟨.builtin .len, #[(.tmp 10)], #[22]⟩, 3, none⟩,
  ⟨some 12, .binOp .neq 3 (.tmp 8) (.tmp 11) 3, 4, none⟩,
  ⟨some 13, .move (.tmp 12), 4, none⟩,
  ⟨some 14, .fieldAddr 25 (.tmp 2) 1, 0, (some (some 13, false))⟩,
  ⟨some 15, .load 23 (.tmp 14), 23, (some (some 13, false))⟩,
  ⟨some 16, .call ⟨.builtin .len, #[(.tmp 15)], #[23]⟩, 3, (some (some 13, false))⟩,
  ⟨some 17, .fieldAddr 25 (.tmp 3) 1, 0, (some (some 13, false))⟩,
  ⟨some 18, .load 23 (.tmp 17), 23, (some (some 13, false))⟩,
  ⟨some 19, .call ⟨.builtin .len, #[(.tmp 18)], #[23]⟩, 3, (some (some 13, false))⟩,
  ⟨some 20, .binOp .neq 3 (.tmp 16) (.tmp 19) 3, 4, (some (some 13, false))⟩,
  ⟨some 21, .pick (.tmp 13) (.const (.bool true)) (.tmp 20), 4, none⟩])
  (.cond (.tmp 21)
  (.seq (.region false [
    ⟨some 4, .assign (.const (.bool false)), 4, none⟩])
  .ret)
  .skip))
  (.seq (.seq (.region false [
  ⟨some 5, .assign (.const (.int .i64 0)), 3, none⟩])
  (.block 0
  (.loop 4
    (.seq (.seq (.region false [
      ⟨some 22, .move (.tmp 5), 3, none⟩,
      ⟨some 23, .fieldAddr 25 (.tmp 2) 1, 0, none⟩,
      ⟨some 24, .load 23 (.tmp 23), 23, none⟩,
      ⟨some 25, .call ⟨.builtin .len, #[(.tmp 24)], #[23]⟩, 3, none⟩,
      ⟨some 26, .binOp .lss 3 (.tmp 22) (.tmp 25) 3, 4, none⟩])
    (.cond (.tmp 26)
      .skip
      (.exit 0)))
    (.seq (.block 1
      (.seq (.region true [
        ⟨some 29, .fieldAddr 25 (.tmp 2) 1, 0, none⟩,
        ⟨some 30, .load 23 (.tmp 29), 23, none⟩,
        ⟨some 31, .move (.tmp 5), 3, none⟩,
        ⟨some 32, .indexAddr 23 (.tmp 30) (.tmp 31), 0, none⟩,
        ⟨some 33, .load 3 (.tmp 32), 3, none⟩,
        ⟨some 34, .fieldAddr 25 (.tmp 3) 1, 0, none⟩,
        ⟨some 35, .load 23 (.tmp 34), 23, none⟩,
        ⟨some 36, .move (.tmp 5), 3, none⟩,
        ⟨some 37, .indexAddr 23 (.tmp 35) (.tmp 36), 0, none⟩,
        ⟨some 38, .load 3 (.tmp 37), 3, none⟩,
        ⟨some 39, .binOp .neq 3 (.tmp 33) (.tmp 38) 3, 4, none⟩])
      (.cond (.tmp 39)
        (.seq (.region false [
          ⟨some 4, .assign (.const (.bool false)), 4, none⟩])
        .ret)
        .skip)))
    (.region false [
      ⟨some 27, .move (.tmp 5), 3, none⟩,
      ⟨some 28, .binOp .add 3 (.tmp 27) (.const (.int .i64 1)) 3, 3, none⟩,
      ⟨some 5, .assign (.tmp 28), 3, none⟩]))))))
  (.seq (.region false [
  ⟨some 40, .load 25 (.tmp 2), 25, none⟩,
  ⟨some 41, .load 25 (.tmp 3), 25, none⟩,
  ⟨some 42, .call ⟨.value (.func 26), #[(.tmp 40), (.tmp 41)], #[25, 25]⟩, 23, none⟩,
  ⟨some 43, .call ⟨.builtin .len, #[(.tmp 42)], #[23]⟩, 3, none⟩,
  ⟨some 44, .binOp .eql 3 (.tmp 43) (.const (.int .i64 0)) 3, 4, none⟩,
  ⟨some 4, .assign (.tmp 44), 4, none⟩])
  .ret))))
def r12 : List ResultVar := [.tmp 4]
theorem c12 : ∃ fn, DC.body 12 = some fn ∧ scOf fn.code = s12 ∧ fn.ntmps = 45 ∧ fn.results = r12 := ⟨_, rfl, by kernel_rfl, by kernel_rfl, by kernel_rfl⟩
@[simp] theorem k12_4 : DC.keep 12 4 = some [2, 3, 5] := rfl

-- 13 emulator/emulatorlaw15.alive []
def s13 : SC := (.seq (.region false [
  ⟨some 0, .assign (.const (.bool false)), 4, none⟩])
  (.seq (.region false [
  ⟨some 23, .call ⟨.value (.func 10), #[(.const (.int .i64 2))], #[3]⟩, 27, none⟩,
  ⟨some 22, .move (.tmp 23), 27, none⟩,
  ⟨some 24, .extract (.tmp 22) 0, 25, none⟩,
  ⟨some 25, .extract (.tmp 22) 1, 26, none⟩,
  ⟨some 1, .alloc 25, 0, none⟩,
  ⟨none, .store 25 (.tmp 1) (.tmp 24), 0, none⟩,
  ⟨some 2, .assign (.tmp 25), 26, none⟩])
  (.seq (.region false [
  ⟨some 27, .load 25 (.tmp 1), 25, none⟩,
  ⟨some 28, .call ⟨.value (.func 17), #[(.tmp 27), (.const (.int .i64 1)), (.const (.string ⟨#[97, 98]⟩))], #[25, 3, 9]⟩, 27, none⟩,
  ⟨some 26, .move (.tmp 28), 27, none⟩,
  ⟨some 29, .extract (.tmp 26) 0, 25, none⟩,
  ⟨some 30, .extract (.tmp 26) 1, 26, none⟩,
  ⟨some 3, .alloc 25, 0, none⟩,
  ⟨none, .store 25 (.tmp 3) (.tmp 29), 0, none⟩,
  ⟨some 4, .assign (.tmp 30), 26, none⟩])
  (.seq (.region false [
  ⟨some 32, .load 25 (.tmp 3), 25, none⟩,
  ⟨some 33, .call ⟨.value (.func 15), #[(.tmp 32), (.const (.int .i64 1))], #[25, 3]⟩, 33, none⟩,
  ⟨some 31, .move (.tmp 33), 33, none⟩,
  ⟨some 34, .extract (.tmp 31) 0, 9, none⟩,
  ⟨some 35, .extract (.tmp 31) 1, 26, none⟩,
  ⟨some 5, .assign (.tmp 34), 9, none⟩,
  ⟨some 6, .assign (.tmp 35), 26, none⟩])
  (.seq (.region false [
  ⟨some 36, .load 25 (.tmp 1), 25, none⟩,
  ⟨some 37, .load 25 (.tmp 3), 25, none⟩,
  ⟨some 38, .call ⟨.value (.func 25), #[(.tmp 36), (.tmp 37)], #[25, 25]⟩, 23, none⟩,
  ⟨some 7, .assign (.tmp 38), 23, none⟩])
  (.seq (.region false [
  ⟨some 40, .load 25 (.tmp 3), 25, none⟩,
  ⟨some 41, .call ⟨.value (.func 19), #[(.tmp 40), (.const (.int .i64 0))], #[25, 3]⟩, 27, none⟩,
  ⟨some 39, .move (.tmp 41), 27, none⟩,
  ⟨some 42, .extract (.tmp 39) 0, 25, none⟩,
  ⟨some 43, .extract (.tmp 39) 1, 26, none⟩,
  ⟨some 8, .alloc 25, 0, none⟩,
  ⟨none, .store 25 (.tmp 8) (.tmp 42), 0, none⟩,
  ⟨some 9, .assign (.tmp 43), 26, none⟩])
  (.seq (.region false [
  ⟨some 45, .load 25 (.tmp 8), 25, none⟩,
  ⟨some 46, .call ⟨.value (.func 15), #[(.tmp 45), (.const (.int .i64 0))], #[25, 3]⟩, 33, none⟩,
  ⟨some 44, .move (.tmp 46), 33, none⟩,
  ⟨some 47, .extract (.tmp 44) 0, 9, none⟩,
  ⟨some 48, .extract (.tmp 44) 1, 26, none⟩,
  ⟨some 10, .assign (.tmp 47), 9, none⟩,
  ⟨some 11, .assign (.tmp 48), 26, none⟩])
  (.seq (.region false [
  ⟨some 50, .load 25 (.tmp 8), 25, none⟩,
  ⟨some 51, .call ⟨.value (.func 15), #[(.tmp 50), (.const (.int .i64 2))], #[25, 3]⟩, 33, none⟩,
  ⟨some 49, .move (.tmp 51), 33, none⟩,
  ⟨some 52, .extract (.tmp 49) 0, 9, none⟩,
  ⟨some 53, .extract (.tmp 49) 1, 26, none⟩,
  ⟨some 12, .assign (.tmp 52), 9, none⟩,
  ⟨some 13, .assign (.tmp 53), 26, none⟩])
  (.seq (.region true [
  ⟨some 55, .load 25 (.tmp 8), 25, none⟩,
  ⟨some 56, .makeSlice 50 (.const (.int .i64 129)) (.const (.int .i64 129)), 50, none⟩,
  ⟨some 57, .convert 50 9 (.tmp 56), 9, none⟩,
  ⟨some 58, .call ⟨.value (.func 17), #[(.tmp 55), (.const (.int .i64 0)), (.tmp 57)], #[25, 3, 9]⟩, 27, none⟩,
  ⟨some 54, .move (.tmp 58), 27, none⟩,
  ⟨some 59, .extract (.tmp 54) 0, 25, none⟩,
  ⟨some 60, .extract (.tmp 54) 1, 26, none⟩,
  ⟨some 14, .alloc 25, 0, none⟩,
  ⟨none, .store 25 (.tmp 14) (.tmp 59), 0, none⟩,
  ⟨some 15, .assign (.tmp 60), 26, none⟩])
  (.seq (.region false [
  ⟨some 62, .load 25 (.tmp 8), 25, none⟩,
  ⟨some 63, .build 45 #[(0, (.const (.int .i64 1)))], 45, none⟩,
  ⟨some 64, .build 45 #[(0, (.const (.int .i64 0)))], 45, none⟩,
  ⟨some 65, .build 45 #[(0, (.const (.int .i64 1)))], 45, none⟩,
  ⟨some 66, .buildSlice 38 3 #[(0, (.tmp 63)), (1, (.tmp 64)), (2, (.tmp 65))], 38, none⟩,
  ⟨some 67, .call ⟨.value (.func 22), #[(.tmp 62), (.tmp 66), (.const (.int .i64 (-1)))], #[25, 38, 3]⟩, 40, none⟩,
  ⟨some 61, .move (.tmp 67), 40, none⟩,
  ⟨some 68, .extract (.tmp 61) 0, 25, none⟩,
  ⟨some 69, .extract (.tmp 61) 1, 3, none⟩,
  ⟨some 70, .extract (.tmp 61) 2, 26, none⟩,
  ⟨some 16, .alloc 25, 0, none⟩,
  ⟨none, .store 25 (.tmp 16) (.tmp 68), 0, none⟩,
  ⟨some 17, .assign (.tmp 69), 3, none⟩,
  ⟨some 18, .assign (.tmp 70), 26, none⟩])
  (.seq (.region false [
  ⟨some 72, .load 25 (.tmp 8), 25, none⟩,
  ⟨some 73, .build 45 #[(0, (.const (.int .i64 1)))], 45, none⟩,
  ⟨some 74, .build 45 #[(0, (.const (.int .i64 0)))], 45, none⟩,
  ⟨some 75, .build 45 #[(0, (.const (.int .i64 1)))], 45, none⟩,
  ⟨some 76, .buildSlice 38 3 #[(0, (.tmp 73)), (1, (.tmp 74)), (2, (.tmp 75))], 38, none⟩,
  ⟨some 77, .call ⟨.value (.func 22), #[(.tmp 72), (.tmp 76), (.const (.int .i64 1))], #[25, 38, 3]⟩, 40, none⟩,
  ⟨some 71, .move (.tmp 77), 40, none⟩,
  ⟨some 78, .extract (.tmp 71) 0, 25, none⟩,
  ⟨some 79, .extract (.tmp 71) 1, 3, none⟩,
  ⟨some 80, .extract (.tmp 71) 2, 26, none⟩,
  ⟨some 19, .alloc 25, 0, none⟩,
  ⟨none, .store 25 (.tmp 19) (.tmp 78), 0, none⟩,
  ⟨some 20, .assign (.tmp 79), 3, none⟩,
  ⟨some 21, .assign (.tmp 80), 26, none⟩])
  (.seq (.seq (.region false [
  ⟨some 81, .move (.tmp 2), 26, none⟩,
  ⟨some 82, .binOp .neq 26 (.tmp 81) (.const (.int .i64 0)) 26, 4, none⟩,
  ⟨some 83, .move (.tmp 82), 4, none⟩,
  ⟨some 84, .move (.tmp 4), 26, (some (some 83, false))⟩,
  ⟨some 85, .binOp .neq 26 (.tmp 84) (.const (.int .i64 0)) 26, 4, (some (some 83, false))⟩,
  ⟨some 86, .pick (.tmp 83) (.const (.bool true)) (.tmp 85), 4, none⟩,
  ⟨some 87, .move (.tmp 86), 4, none⟩,
  ⟨some 88, .move (.tmp 6), 26, (some (some 87, false))⟩,
  ⟨some 89, .binOp .neq 26 (.tmp 88) (.const (.int .i64 0)) 26, 4, (some (some 87, false))⟩,
  ⟨some 90, .pick (.tmp 87) (.const (.bool true)) (.tmp 89), 4, none⟩,
  ⟨some 91, .move (.tmp 90), 4, none⟩,
  ⟨some 92, .move (.tmp 9), 26, (some (some 91, false))⟩,
  ⟨some 93, .binOp .neq 26 (.tmp 92) (.const (.int .i64 0)) 26, 4, (some (some 91, false))⟩,
  ⟨some 94, .pick (.tmp 91) (.const (.bool true)) (.tmp 93), 4, none⟩,
  ⟨some 95, .move (.tmp 94), 4, none⟩,
  ⟨some 96, .move (.tmp 5), 9, (some (some 95, false))⟩,
  ⟨some 97, .call ⟨.builtin .len, #[(.tmp 96)], #[9]⟩, 3, (some (some 95, false))⟩,
  ⟨some 98, .binOp .neq 3 (.tmp 97) (.const (.int .i64 128)) 3, 4, (some (some 95, false))⟩,
  ⟨some 99, .pick (.tmp 95) (.const (.bool true)) (.tmp 98), 4, none⟩,
  ⟨some 100, .move (.tmp 99), 4, none⟩,
  ⟨some 101, .move (.tmp 5), 9, (some (some 100, false))⟩,
  ⟨some 102, .slice 9 (.tmp 101) none (some (.const (.int .i64 2))) none, 9, (some (some 100, false))⟩,
  ⟨some 103, .binOp .neq 9 (.tmp 102) (.const (.string ⟨#[97, 98]⟩)) 9, 4, (some (some 100, false))⟩,
  ⟨some 104, .pick (.tmp 100) (.const (.bool true)) (.tmp 103), 4, none⟩,
  ⟨some 105, .move (.tmp 104), 4, none⟩,
  ⟨some 106, .move (.tmp 5), 9, (some (some 105, false))⟩,
  ⟨some 107, .index 9 (.tmp 106) (.const (.int .i64 127)), 5, (some (some 105, false))⟩,
  ⟨some 108, .binOp .neq 5 (.tmp 107) (.const (.int .u8 0)) 5, 4, (some (some 105, false))⟩,
  ⟨some 109, .pick (.tmp 105) (.const (.bool true)) (.tmp 108), 4, none⟩,
  ⟨some 110, .move (.tmp 109), 4, none⟩,
  ⟨some 111, .move (.tmp 7), 23, (some (some 110, false))⟩,
  ⟨some 112, .call ⟨.builtin .len, #[(.tmp 111)], #[23]⟩, 3, (some (some 110, false))⟩,
  ⟨some 113, .binOp .neq 3 (.tmp 112) (.const (.int .i64 1)) 3, 4, (some (some 110, false))⟩,
  ⟨some 114, .pick (.tmp 110) (.const (.bool true)) (.tmp 113), 4, none⟩,
  ⟨some 115, .move (.tmp 114), 4, none⟩,
  ⟨some 116, .move (.tmp 7), 23, (some (some 115, false))⟩,
  ⟨some 117, .indexAddr 23 (.tmp 116) (.const (.int .i64 0)), 0, (some (some 115, false))⟩,
  ⟨some 118, .load 3 (.tmp 117), 3, (some (some 115, false))⟩,
  ⟨some 119, .binOp .neq 3 (.tmp 118) (.const (.int .i64 1)) 3, 4, (some (some 115, false))⟩,
  ⟨some 120, .pick (.tmp 115) (.const (.bool true)) (.tmp 119), 4, none⟩])
  (.cond (.tmp 120)
  (.seq (.region false [
    ⟨some 0, .assign (.const (.bool false)), 4, none⟩])
  .ret)
  .skip))
  (.seq (.region false [
  ⟨some 121, .move (.tmp 11), 26, none⟩,
  ⟨some 122, .binOp .eql 26 (.tmp 121) (.const (.int .i64 21)) 26, 4, none⟩,
  ⟨some 123, .move (.tmp 122), 4, none⟩,
  ⟨some 124, .move (.tmp 13), 26, (some (some 123, true))⟩,
  ⟨some 125, .binOp .eql 26 (.tmp 124) (.const (.int .i64 2)) 26, 4, (some (some 123, true))⟩,
  ⟨some 126, .pick (.tmp 123) (.tmp 125) (.const (.bool false)), 4, none⟩,
  ⟨some 127, .move (.tmp 126), 4, none⟩,
  ⟨some 128, .move (.tmp 15), 26, (some (some 127, true))⟩,
  ⟨some 129, .binOp .eql 26 (.tmp 128) (.const (.int .i64 7)) 26, 4, (some (some 127, true))⟩,
  ⟨some 130, .pick (.tmp 127) (.tmp 129) (.const (.bool false)), 4, none⟩,
  ⟨some 131, .move (.tmp 130), 4, none⟩,
  ⟨some 132, .move (.tmp 17), 3, (some (some 131, true))⟩,
  ⟨some 133, .binOp .eql 3 (.tmp 132) (.const (.int .i64 1)) 3, 4, (some (some 131, true))⟩,
  ⟨some 134, .pick (.tmp 131) (.tmp 133) (.const (.bool false)), 4, none⟩,
  ⟨some 135, .move (.tmp 134), 4, none⟩,
  ⟨some 136, .move (.tmp 18), 26, (some (some 135, true))⟩,
  ⟨some 137, .binOp .eql 26 (.tmp 136) (.const (.int .i64 21)) 26, 4, (some (some 135, true))⟩,
  ⟨some 138, .pick (.tmp 135) (.tmp 137) (.const (.bool false)), 4, none⟩,
  ⟨some 139, .move (.tmp 138), 4, none⟩,
  ⟨some 140, .move (.tmp 20), 3, (some (some 139, true))⟩,
  ⟨some 141, .binOp .eql 3 (.tmp 140) (.const (.int .i64 1)) 3, 4, (some (some 139, true))⟩,
  ⟨some 142, .pick (.tmp 139) (.tmp 141) (.const (.bool false)), 4, none⟩,
  ⟨some 143, .move (.tmp 142), 4, none⟩,
  ⟨some 144, .move (.tmp 21), 26, (some (some 143, true))⟩,
  ⟨some 145, .binOp .eql 26 (.tmp 144) (.const (.int .i64 0)) 26, 4, (some (some 143, true))⟩,
  ⟨some 146, .pick (.tmp 143) (.tmp 145) (.const (.bool false)), 4, none⟩,
  ⟨some 0, .assign (.tmp 146), 4, none⟩])
  .ret)))))))))))))
def r13 : List ResultVar := [.tmp 0]
theorem c13 : ∃ fn, DC.body 13 = some fn ∧ scOf fn.code = s13 ∧ fn.ntmps = 147 ∧ fn.results = r13 := ⟨_, rfl, by kernel_rfl, by kernel_rfl, by kernel_rfl⟩

-- 14 emulator/emulatorlaw15.good [25]
def s14 : SC := (.seq (.region false [
  ⟨some 1, .box 25 (.tmp 0), 0, none⟩,
  ⟨some 2, .assign (.const (.bool false)), 4, none⟩])
  (.seq (.region false [
  ⟨some 3, .load 25 (.tmp 1), 25, none⟩,
  ⟨some 4, .call ⟨.value (.func 24), #[(.tmp 3)], #[25]⟩, 4, none⟩,
  ⟨some 5, .move (.tmp 4), 4, none⟩,
  ⟨some 6, .load 25 (.tmp 1), 25, (some (some 5, true))⟩,
  ⟨some 7, .call ⟨.value (.func 28), #[(.tmp 6)], #[25]⟩, 4, (some (some 5, true))⟩,
  ⟨some 8, .pick (.tmp 5) (.tmp 7) (.const (.bool false)), 4, none⟩,
  ⟨some 2, .assign (.tmp 8), 4, none⟩])
  .ret))
def r14 : List ResultVar := [.tmp 2]
theorem c14 : ∃ fn, DC.body 14 = some fn ∧ scOf fn.code = s14 ∧ fn.ntmps = 9 ∧ fn.results = r14 := ⟨_, rfl, by kernel_rfl, by kernel_rfl, by kernel_rfl⟩

-- 15 emulator/drive.Read [25, 3]
def s15 : SC := (.seq (.region false [
  ⟨some 2, .box 25 (.tmp 0), 0, none⟩,
  ⟨some 4, .assign (.const (.string ⟨#[]⟩)), 9, none⟩,
  ⟨some 5, .assign (.const (.int .i64 0)), 26, none⟩])
  (.seq (.block 0
  (.seq (.region false [
    ⟨some 7, .load 25 (.tmp 2), 25, none⟩,
    ⟨some 8, .move (.tmp 1), 3, none⟩,
    ⟨some 9, .call ⟨.value (.func 32), #[(.tmp 7), (.tmp 8)], #[25, 3]⟩, 4, none⟩,
    ⟨some 10, .unOp .not 4 (.tmp 9), 4, none⟩,
    ⟨some 6, .assign (.tmp 10), 4, none⟩])
  (.cond (.tmp 6)
    (.seq (.region false [
      ⟨some 4, .assign (.const (.string ⟨#[]⟩)), 9, none⟩,
      ⟨some 5, .assign (.const (.int .i64 2)), 26, none⟩])
    .ret)
    (.seq (.region false [
      ⟨some 12, .load 25 (.tmp 2), 25, none⟩,
      ⟨some 13, .call ⟨.value (.func 33), #[(.tmp 12)], #[25]⟩, 52, none⟩,
      ⟨some 14, .move (.tmp 1), 3, none⟩,
      ⟨some 15, .lookup 52 (.tmp 13) (.tmp 14) false, 4, none⟩,
      ⟨some 11, .assign (.tmp 15), 4, none⟩])
    (.cond (.tmp 11)
      (.seq (.region false [
        ⟨some 4, .assign (.const (.string ⟨#[]⟩)), 9, none⟩,
        ⟨some 5, .assign (.const (.int .i64 21)), 26, none⟩])
      .ret)
      .skip)))))
  (.seq (.region false [
  ⟨some 16, .fieldAddr 25 (.tmp 2) 0, 0, none⟩,
  ⟨some 17, .load 22 (.tmp 16), 22, none⟩,
  ⟨some 18, .move (.tmp 1), 3, none⟩,
  ⟨some 19, .indexAddr 22 (.tmp 17) (.tmp 18), 0, none⟩,
  ⟨some 20, .load 9 (.tmp 19), 9, none⟩,
  ⟨some 4, .assign (.tmp 20), 9, none⟩,
  ⟨some 5, .assign (.const (.int .i64 0)), 26, none⟩])
  .ret)))
def r15 : List ResultVar := [.tmp 4, .tmp 5]
theorem c15 : ∃ fn, DC.body 15 = some fn ∧ scOf fn.code = s15 ∧ fn.ntmps = 21 ∧ fn.results = r15 := ⟨_, rfl, by kernel_rfl, by kernel_rfl, by kernel_rfl⟩

-- 16 emulator/emulatorref15.Read [25, 3]
def s16 : SC := (.seq (.region false [
  ⟨some 2, .box 25 (.tmp 0), 0, none⟩,
  ⟨some 4, .assign (.const (.string ⟨#[]⟩)), 9, none⟩,
  ⟨some 5, .assign (.const (.int .i64 0)), 26, none⟩])
  (.seq (.seq (.region false [
  ⟨some 6, .move (.tmp 1), 3, none⟩,
  ⟨some 7, .binOp .lss 3 (.tmp 6) (.const (.int .i64 0)) 3, 4, none⟩,
  ⟨some 8, .move (.tmp 7), 4, none⟩,
  ⟨some 9, .move (.tmp 1), 3, (some (some 8, false))⟩,
  ⟨some 10, .fieldAddr 25 (.tmp 2) 0, 0, (some (some 8, false))⟩,
  ⟨some 11, .load 22 (.tmp 10), 22, (some (some 8, false))⟩,
  ⟨some 12, .call ⟨.builtin .len, #[(.tmp 11)], #[22]⟩, 3, (some (some 8, false))⟩,
  ⟨some 13, .binOp .geq 3 (.tmp 9) (.tmp 12) 3, 4, (some (some 8, false))⟩,
  ⟨some 14, .pick (.tmp 8) (.const (.bool true)) (.tmp 13), 4, none⟩])
  (.cond (.tmp 14)
  (.seq (.region false [
    ⟨some 4, .assign (.const (.string ⟨#[]⟩)), 9, none⟩,
    ⟨some 5, .assign (.const (.int .i64 2)), 26, none⟩])
  .ret)
  .skip))
  (.seq (.seq (.region false [
  ⟨some 15, .load 25 (.tmp 2), 25, none⟩,
  ⟨some 16, .move (.tmp 1), 3, none⟩,
  ⟨some 17, .call ⟨.value (.func 34), #[(.tmp 15), (.tmp 16)], #[25, 3]⟩, 4, none⟩])
  (.cond (.tmp 17)
  (.seq (.region false [
    ⟨some 4, .assign (.const (.string ⟨#[]⟩)), 9, none⟩,
    ⟨some 5, .assign (.const (.int .i64 21)), 26, none⟩])
  .ret)
  .skip))
  (.seq (.region false [
  ⟨some 18, .fieldAddr 25 (.tmp 2) 0, 0, none⟩,
  ⟨some 19, .load 22 (.tmp 18), 22, none⟩,
  ⟨some 20, .move (.tmp 1), 3, none⟩,
  ⟨some 21, .indexAddr 22 (.tmp 19) (.tmp 20), 0, none⟩,
  ⟨some 22, .load 9 (.tmp 21), 9, none⟩,
  ⟨some 4, .assign (.tmp 22), 9, none⟩,
  ⟨some 5, .assign (.const (.int .i64 0)), 26, none⟩])
  .ret))))
def r16 : List ResultVar := [.tmp 4, .tmp 5]
theorem c16 : ∃ fn, DC.body 16 = some fn ∧ scOf fn.code = s16 ∧ fn.ntmps = 23 ∧ fn.results = r16 := ⟨_, rfl, by kernel_rfl, by kernel_rfl, by kernel_rfl⟩

-- 17 emulator/drive.Write [25, 3, 9]
def s17 : SC := (.seq (.region false [
  ⟨some 3, .box 25 (.tmp 0), 0, none⟩,
  ⟨some 6, .alloc 25, 0, none⟩,
  ⟨some 7, .assign (.const (.int .i64 0)), 26, none⟩])
  (.seq (.region false [
  ⟨some 12, .load 25 (.tmp 3), 25, none⟩,
  ⟨some 13, .move (.tmp 1), 3, none⟩,
  ⟨some 14, .move (.tmp 2), 9, none⟩,
  ⟨some 15, .build 45 #[(0, (.tmp 13)), (1, (.tmp 14))], 45, none⟩,
  ⟨some 16, .buildSlice 38 1 #[(0, (.tmp 15))], 38, none⟩,
  ⟨some 17, .call ⟨.value (.func 22), #[(.tmp 12), (.tmp 16), (.const (.int .i64 (-1)))], #[25, 38, 3]⟩, 40, none⟩,
  ⟨some 11, .move (.tmp 17), 40, none⟩,
  ⟨some 18, .extract (.tmp 11) 0, 25, none⟩,
  ⟨some 19, .extract (.tmp 11) 1, 3, none⟩,
  ⟨some 20, .extract (.tmp 11) 2, 26, none⟩,
  ⟨some 8, .alloc 25, 0, none⟩,
  ⟨none, .store 25 (.tmp 8) (.tmp 18), 0, none⟩,
  ⟨some 9, .assign (.tmp 19), 3, none⟩,
  ⟨some 10, .assign (.tmp 20), 26, none⟩])
  (.seq (.seq (.region false [
  ⟨some 21, .move (.tmp 10), 26, none⟩,
  ⟨some 22, .binOp .neq 26 (.tmp 21) (.const (.int .i64 0)) 26, 4, none⟩])
  (.cond (.tmp 22)
  (.seq (.region false [
    ⟨some 23, .build 25 #[], 25, none⟩,
    ⟨some 24, .move (.tmp 10), 26, none⟩,
    ⟨none, .store 25 (.tmp 6) (.tmp 23), 0, none⟩,
    ⟨some 7, .assign (.tmp 24), 26, none⟩])
  .ret)
  .skip))
  (.seq (.region false [
  ⟨some 25, .load 25 (.tmp 8), 25, none⟩,
  ⟨none, .store 25 (.tmp 6) (.tmp 25), 0, none⟩,
  ⟨some 7, .assign (.const (.int .i64 0)), 26, none⟩])
  .ret))))
def r17 : List ResultVar := [.cell 6 25, .tmp 7]
theorem c17 : ∃ fn, DC.body 17 = some fn ∧ scOf fn.code = s17 ∧ fn.ntmps = 26 ∧ fn.results = r17 := ⟨_, rfl, by kernel_rfl, by kernel_rfl, by kernel_rfl⟩

-- 18 emulator/emulatorref15.Write [25, 3, 9]
def s18 : SC := (.seq (.region false [
  ⟨some 3, .box 25 (.tmp 0), 0, none⟩,
  ⟨some 6, .alloc 25, 0, none⟩,
  ⟨some 7, .assign (.const (.int .i64 0)), 26, none⟩])
  (.seq (.seq (.region false [
  ⟨some 9, .move (.tmp 1), 3, none⟩,
  ⟨some 10, .binOp .lss 3 (.tmp 9) (.const (.int .i64 0)) 3, 4, none⟩,
  ⟨some 11, .move (.tmp 10), 4, none⟩,
  ⟨some 12, .move (.tmp 1), 3, (some (some 11, false))⟩,
  ⟨some 13, .fieldAddr 25 (.tmp 3) 0, 0, (some (some 11, false))⟩,
  ⟨some 14, .load 22 (.tmp 13), 22, (some (some 11, false))⟩,
  ⟨some 15, .call ⟨.builtin .len, #[(.tmp 14)], #[22]⟩, 3, (some (some 11, false))⟩,
  ⟨some 16, .binOp .geq 3 (.tmp 12) (.tmp 15) 3, 4, (some (some 11, false))⟩,
  ⟨some 17, .pick (.tmp 11) (.const (.bool true)) (.tmp 16), 4, none⟩])
  (.cond (.tmp 17)
  (.seq (.region false [
    ⟨some 18, .build 25 #[], 25, none⟩,
    ⟨none, .store 25 (.tmp 6) (.tmp 18), 0, none⟩,
    ⟨some 7, .assign (.const (.int .i64 2)), 26, none⟩])
  .ret)
  .skip))
  (.seq (.seq (.region false [
  ⟨some 19, .move (.tmp 2), 9, none⟩,
  ⟨some 20, .call ⟨.builtin .len, #[(.tmp 19)], #[9]⟩, 3, none⟩,
  ⟨some 21, .binOp .gtr 3 (.tmp 20) (.const (.int .i64 128)) 3, 4, none⟩])
  (.cond (.tmp 21)
  (.seq (.region false [
    ⟨some 22, .build 25 #[], 25, none⟩,
    ⟨none, .store 25 (.tmp 6) (.tmp 22), 0, none⟩,
    ⟨some 7, .assign (.const (.int .i64 7)), 26, none⟩])
  .ret)
  .skip))
  (.seq (.seq (.region false [
  ⟨some 23, .load 25 (.tmp 3), 25, none⟩,
  ⟨some 24, .move (.tmp 1), 3, none⟩,
  ⟨some 25, .call ⟨.value (.func 34), #[(.tmp 23), (.tmp 24)], #[25, 3]⟩, 4, none⟩])
  (.cond (.tmp 25)
  (.seq (.region false [
    ⟨some 26, .build 25 #[], 25, none⟩,
    ⟨none, .store 25 (.tmp 6) (.tmp 26), 0, none⟩,
    ⟨some 7, .assign (.const (.int .i64 21)), 26, none⟩])
  .ret)
  .skip))
  (.seq (.region false [
  ⟨some 27, .buildSlice 22 0 #[], 22, none⟩,
  ⟨some 28, .fieldAddr 25 (.tmp 3) 0, 0, none⟩,
  ⟨some 29, .load 22 (.tmp 28), 22, none⟩,
  ⟨some 30, .call ⟨.builtin .append, #[(.tmp 27), (.tmp 29)], #[22, 22]⟩, 22, none⟩,
  ⟨some 8, .assign (.tmp 30), 22, none⟩])
  (.seq (.region false [
  ⟨some 31, .move (.tmp 8), 22, none⟩,
  ⟨some 32, .move (.tmp 1), 3, none⟩,
  ⟨some 33, .move (.tmp 2), 9, none⟩,
  ⟨some 34, .move (.tmp 2), 9, none⟩,
  ⟨some 35, .call ⟨.builtin .len, #[(.tmp 34)], #[9]⟩, 3, none⟩,
  ⟨some 36, .binOp .sub 3 (.const (.int .i64 128)) (.tmp 35) 3, 3, none⟩,
  ⟨some 37, .call ⟨.value (.func 31), #[(.tmp 36)], #[3]⟩, 9, none⟩,
  ⟨some 38, .binOp .add 9 (.tmp 33) (.tmp 37) 9, 9, none⟩,
  ⟨some 39, .indexAddr 22 (.tmp 31) (.tmp 32), 0, none⟩,
  ⟨none, .store 9 (.tmp 39) (.tmp 38), 0, none⟩])
  (.seq (.region false [
  ⟨some 40, .move (.tmp 8), 22, none⟩,
  ⟨some 41, .fieldAddr 25 (.tmp 3) 0, 0, none⟩,
  ⟨none, .store 22 (.tmp 41) (.tmp 40), 0, none⟩])
  (.seq (.region false [
  ⟨some 42, .load 25 (.tmp 3), 25, none⟩,
  ⟨none, .store 25 (.tmp 6) (.tmp 42), 0, none⟩,
  ⟨some 7, .assign (.const (.int .i64 0)), 26, none⟩])
  .ret))))))))
def r18 : List ResultVar := [.cell 6 25, .tmp 7]
theorem c18 : ∃ fn, DC.body 18 = some fn ∧ scOf fn.code = s18 ∧ fn.ntmps = 43 ∧ fn.results = r18 := ⟨_, rfl, by kernel_rfl, by kernel_rfl, by kernel_rfl⟩

-- 19 emulator/drive.Spoil [25, 3]
def s19 : SC := (.seq (.region false [
  ⟨some 2, .box 25 (.tmp 0), 0, none⟩,
  ⟨some 4, .alloc 25, 0, none⟩,
  ⟨some 5, .assign (.const (.int .i64 0)), 26, none⟩])
  (.seq (.seq (.region false [
  ⟨some 8, .load 25 (.tmp 2), 25, none⟩,
  ⟨some 9, .move (.tmp 1), 3, none⟩,
  ⟨some 10, .call ⟨.value (.func 32), #[(.tmp 8), (.tmp 9)], #[25, 3]⟩, 4, none⟩,
  ⟨some 11, .unOp .not 4 (.tmp 10), 4, none⟩])
  (.cond (.tmp 11)
  (.seq (.region false [
    ⟨some 12, .build 25 #[], 25, none⟩,
    ⟨none, .store 25 (.tmp 4) (.tmp 12), 0, none⟩,
    ⟨some 5, .assign (.const (.int .i64 2)), 26, none⟩])
  .ret)
  .skip))
  (.seq (.region false [
  ⟨some 13, .load 25 (.tmp 2), 25, none⟩,
  ⟨some 14, .call ⟨.value (.func 35), #[(.tmp 13)], #[25]⟩, 25, none⟩,
  ⟨none, .store 25 (.tmp 2) (.tmp 14), 0, none⟩])
  (.seq (.seq (.region false [
  ⟨some 16, .fieldAddr 25 (.tmp 2) 1, 0, none⟩,
  ⟨some 17, .load 23 (.tmp 16), 23, none⟩,
  ⟨some 18, .move (.tmp 1), 3, none⟩,
  ⟨some 19, .call ⟨.value (.func 36), #[(.tmp 17), (.tmp 18)], #[23, 3]⟩, 55, none⟩,
  ⟨some 15, .move (.tmp 19), 55, none⟩,
  ⟨some 20, .extract (.tmp 15) 0, 3, none⟩,
  ⟨some 21, .extract (.tmp 15) 1, 4, none⟩,
  ⟨some 6, .assign (.tmp 20), 3, none⟩,
  ⟨some 7, .assign (.tmp 21), 4, none⟩])
  (.seq (.region false [
  ⟨some 22, .move (.tmp 7), 4, none⟩,
  ⟨some 23, .unOp .not 4 (.tmp 22), 4, none⟩])
  (.cond (.tmp 23)
  (.region false [
    ⟨some 24, .fieldAddr 25 (.tmp 2) 1, 0, none⟩,
    ⟨some 25, .load 23 (.tmp 24), 23, none⟩,
    ⟨some 26, .move (.tmp 6), 3, none⟩,
    ⟨some 27, .move (.tmp 1), 3, none⟩,
    ⟨some 28, .buildSlice 23 1 #[(0, (.tmp 27))], 23, none⟩,
    ⟨some 29, .call ⟨.value (.func 37), #[(.tmp 25), (.tmp 26), (.tmp 28)], #[23, 3, 23]⟩, 23, none⟩,
    ⟨some 30, .fieldAddr 25 (.tmp 2) 1, 0, none⟩,
    ⟨none, .store 23 (.tmp 30) (.tmp 29), 0, none⟩])
  .skip)))
  (.seq (.region false [
  ⟨some 31, .load 25 (.tmp 2), 25, none⟩,
  ⟨none, .store 25 (.tmp 4) (.tmp 31), 0, none⟩,
  ⟨some 5, .assign (.const (.int .i64 0)), 26, none⟩])
  .ret)))))
def r19 : List ResultVar := [.cell 4 25, .tmp 5]
theorem c19 : ∃ fn, DC.body 19 = some fn ∧ scOf fn.code = s19 ∧ fn.ntmps = 32 ∧ fn.results = r19 := ⟨_, rfl, by kernel_rfl, by kernel_rfl, by kernel_rfl⟩

-- 20 emulator/emulatorref15.Spoil [25, 3]
def s20 : SC := (.seq (.region false [
  ⟨some 2, .box 25 (.tmp 0), 0, none⟩,
  ⟨some 4, .alloc 25, 0, none⟩,
  ⟨some 5, .assign (.const (.int .i64 0)), 26, none⟩])
  (.seq (.seq (.region false [
  ⟨some 8, .move (.tmp 1), 3, none⟩,
  ⟨some 9, .binOp .lss 3 (.tmp 8) (.const (.int .i64 0)) 3, 4, none⟩,
  ⟨some 10, .move (.tmp 9), 4, none⟩,
  ⟨some 11, .move (.tmp 1), 3, (some (some 10, false))⟩,
  ⟨some 12, .fieldAddr 25 (.tmp 2) 0, 0, (some (some 10, false))⟩,
  ⟨some 13, .load 22 (.tmp 12), 22, (some (some 10, false))⟩,
  ⟨some 14, .call ⟨.builtin .len, #[(.tmp 13)], #[22]⟩, 3, (some (some 10, false))⟩,
  ⟨some 15, .binOp .geq 3 (.tmp 11) (.tmp 14) 3, 4, (some (some 10, false))⟩,
  ⟨some 16, .pick (.tmp 10) (.const (.bool true)) (.tmp 15), 4, none⟩])
  (.cond (.tmp 16)
  (.seq (.region false [
    ⟨some 17, .build 25 #[], 25, none⟩,
    ⟨none, .store 25 (.tmp 4) (.tmp 17), 0, none⟩,
    ⟨some 5, .assign (.const (.int .i64 2)), 26, none⟩])
  .ret)
  .skip))
  (.seq (.seq (.region false [
  ⟨some 18, .load 25 (.tmp 2), 25, none⟩,
  ⟨some 19, .move (.tmp 1), 3, none⟩,
  ⟨some 20, .call ⟨.value (.func 34), #[(.tmp 18), (.tmp 19)], #[25, 3]⟩, 4, none⟩])
  (.cond (.tmp 20)
  (.seq (.region false [
    ⟨some 21, .load 25 (.tmp 2), 25, none⟩,
    ⟨none, .store 25 (.tmp 4) (.tmp 21), 0, none⟩,
    ⟨some 5, .assign (.const (.int .i64 0)), 26, none⟩])
  .ret)
  .skip))
  (.seq (.region false [
  ⟨some 22, .fieldAddr 25 (.tmp 2) 1, 0, none⟩,
  ⟨some 23, .load 23 (.tmp 22), 23, none⟩,
  ⟨some 24, .call ⟨.builtin .len, #[(.tmp 23)], #[23]⟩, 3, none⟩,
  ⟨some 6, .assign (.tmp 24), 3, none⟩])
  (.seq (.block 0
  (.loop 6
    (.seq (.seq (.region false [
      ⟨some 25, .move (.tmp 6), 3, none⟩,
      ⟨some 26, .binOp .gtr 3 (.tmp 25) (.const (.int .i64 0)) 3, 4, none⟩,
      ⟨some 27, .move (.tmp 26), 4, none⟩,
      ⟨some 28, .fieldAddr 25 (.tmp 2) 1, 0, (some (some 27, true))⟩,
      ⟨some 29, .load 23 (.tmp 28), 23, (some (some 27, true))⟩,
      ⟨some 30, .move (.tmp 6), 3, (some (some 27, true))⟩,
      ⟨some 31, .binOp .sub 3 (.tmp 30) (.const (.int .i64 1)) 3, 3, (some (some 27, true))⟩,
      ⟨some 32, .indexAddr 23 (.tmp 29) (.tmp 31), 0, (some (some 27, true))⟩,
      ⟨some 33, .load 3 (.tmp 32), 3, (some (some 27, true))⟩,
      ⟨some 34, .move (.tmp 1), 3, (some (some 27, true))⟩,
      ⟨some 35, .binOp .gtr 3 (.tmp 33) (.tmp 34) 3, 4, (some (some 27, true))⟩,
      ⟨some 36, .pick (.tmp 27) (.tmp 35) (.const (.bool false)), 4, none⟩])
    (.cond (.tmp 36)
      .skip
      (.exit 0)))
    (.block 1
      (.region false [
        ⟨some 37, .move (.tmp 6), 3, none⟩,
        ⟨some 38, .binOp .sub 3 (.tmp 37) (.const (.int .i64 1)) 3, 3, none⟩,
        ⟨some 6, .assign (.tmp 38), 3, none⟩])))))
  (.seq (.region false [
  ⟨some 7, .assign (.const (.slice none 0 0)), 23, none⟩])
  (.seq (.region false [
  ⟨some 39, .move (.tmp 7), 23, none⟩,
  ⟨some 40, .fieldAddr 25 (.tmp 2) 1, 0, none⟩,
  ⟨some 41, .load 23 (.tmp 40), 23, none⟩,
  ⟨some 42, .move (.tmp 6), 3, none⟩,
  ⟨some 43, .slice 23 (.tmp 41) none (some (.tmp 42)) none, 23, none⟩,
  ⟨some 44, .call ⟨.builtin .append, #[(.tmp 39), (.tmp 43)], #[23, 23]⟩, 23, none⟩,
  ⟨some 7, .assign (.tmp 44), 23, none⟩])
  (.seq (.region false [
  ⟨some 45, .move (.tmp 7), 23, none⟩,
  ⟨some 46, .move (.tmp 1), 3, none⟩,
  ⟨some 47, .buildSlice 23 1 #[(0, (.tmp 46))], 23, none⟩,
  ⟨some 48, .call ⟨.builtin .append, #[(.tmp 45), (.tmp 47)], #[23, 23]⟩, 23, none⟩,
  ⟨some 7, .assign (.tmp 48), 23, none⟩])
  (.seq (.region false [
  ⟨some 49, .move (.tmp 7), 23, none⟩,
  ⟨some 50, .fieldAddr 25 (.tmp 2) 1, 0, none⟩,
  ⟨some 51, .load 23 (.tmp 50), 23, none⟩,
  ⟨some 52, .move (.tmp 6), 3, none⟩,
  ⟨some 53, .slice 23 (.tmp 51) (some (.tmp 52)) none none, 23, none⟩,
  ⟨some 54, .call ⟨.builtin .append, #[(.tmp 49), (.tmp 53)], #[23, 23]⟩, 23, none⟩,
  ⟨some 55, .fieldAddr 25 (.tmp 2) 1, 0, none⟩,
  ⟨none, .store 23 (.tmp 55) (.tmp 54), 0, none⟩])
  (.seq (.region false [
  ⟨some 56, .load 25 (.tmp 2), 25, none⟩,
  ⟨none, .store 25 (.tmp 4) (.tmp 56), 0, none⟩,
  ⟨some 5, .assign (.const (.int .i64 0)), 26, none⟩])
  .ret))))))))))
def r20 : List ResultVar := [.cell 4 25, .tmp 5]
theorem c20 : ∃ fn, DC.body 20 = some fn ∧ scOf fn.code = s20 ∧ fn.ntmps = 57 ∧ fn.results = r20 := ⟨_, rfl, by kernel_rfl, by kernel_rfl, by kernel_rfl⟩
@[simp] theorem k20_6 : DC.keep 20 6 = some [1, 2, 4, 6] := rfl

-- 21 emulator/emulatorlaw15.small [38]
def s21 : SC := (.seq (.region false [
  ⟨some 2, .assign (.const (.bool false)), 4, none⟩])
  (.seq (.seq (.region false [
  ⟨some 4, .move (.tmp 0), 38, none⟩,
  ⟨some 5, .call ⟨.builtin .len, #[(.tmp 4)], #[38]⟩, 3, none⟩,
  ⟨some 6, .binOp .gtr 3 (.tmp 5) (.const (.int .i64 60)) 3, 4, none⟩])
  (.cond (.tmp 6)
  (.seq (.region false [
    ⟨some 2, .assign (.const (.bool false)), 4, none⟩])
  .ret)
  .skip))
  (.seq (.seq (.region false [
  ⟨some 3, .assign (.const (.int .i64 0)), 3, none⟩])
  (.block 0
  (.loop 4
    (.seq (.seq (.region false [
      ⟨some 7, .move (.tmp 3), 3, none⟩,
      ⟨some 8, .move (.tmp 0), 38, none⟩,
      ⟨some 9, .call ⟨.builtin .len, #[(.tmp 8)], #[38]⟩, 3, none⟩,
      ⟨some 10, .binOp .lss 3 (.tmp 7) (.tmp 9) 3, 4, none⟩])
    (.cond (.tmp 10)
      .skip
      (.exit 0)))
    (.seq (.block 1
      (.seq (.region false [
        ⟨some 13, .move (.tmp 0), 38, none⟩,
        ⟨some 14, .move (.tmp 3), 3, none⟩,
        ⟨some 15, .indexAddr 38 (.tmp 13) (.tmp 14), 0, none⟩,
        ⟨some 16, .fieldAddr 45 (.tmp 15) 1, 0, none⟩,
        ⟨some 17, .load 9 (.tmp 16), 9, none⟩,
        ⟨some 18, .call ⟨.builtin .len, #[(.tmp 17)], #[9]⟩, 3, none⟩,
        ⟨some 19, .binOp .gtr 3 (.tmp 18) (.const (.int .i64 200)) 3, 4, none⟩])
      (.cond (.tmp 19)
        (.seq (.region false [
          ⟨some 2, .assign (.const (.bool false)), 4, none⟩])
        .ret)
        .skip)))
    (.region false [
      ⟨some 11, .move (.tmp 3), 3, none⟩,
      ⟨some 12, .binOp .add 3 (.tmp 11) (.const (.int .i64 1)) 3, 3, none⟩,
      ⟨some 3, .assign (.tmp 12), 3, none⟩]))))))
  (.seq (.region false [
  ⟨some 2, .assign (.const (.bool true)), 4, none⟩])
  .ret))))
def r21 : List ResultVar := [.tmp 2]
theorem c21 : ∃ fn, DC.body 21 = some fn ∧ scOf fn.code = s21 ∧ fn.ntmps = 20 ∧ fn.results = r21 := ⟨_, rfl, by kernel_rfl, by kernel_rfl, by kernel_rfl⟩
@[simp] theorem k21_4 : DC.keep 21 4 = some [0, 3] := rfl

-- 22 emulator/drive.Apply [25, 38, 3]
def s22 : SC := (.seq (.region false [
  ⟨some 3, .box 25 (.tmp 0), 0, none⟩,
  ⟨some 6, .alloc 25, 0, none⟩,
  ⟨some 7, .assign (.const (.int .i64 0)), 3, none⟩,
  ⟨some 8, .assign (.const (.int .i64 0)), 26, none⟩])
  (.seq (.region false [
  ⟨some 13, .load 25 (.tmp 3), 25, none⟩,
  ⟨some 14, .call ⟨.value (.func 35), #[(.tmp 13)], #[25]⟩, 25, none⟩,
  ⟨none, .store 25 (.tmp 3) (.tmp 14), 0, none⟩])
  (.seq (.region false [
  ⟨some 15, .load 25 (.tmp 3), 25, none⟩,
  ⟨some 16, .call ⟨.value (.func 33), #[(.tmp 15)], #[25]⟩, 52, none⟩,
  ⟨some 9, .assign (.tmp 16), 52, none⟩])
  (.seq (.seq (.region false [
  ⟨some 17, .move (.tmp 1), 38, none⟩,
  ⟨some 18, .call ⟨.builtin .len, #[(.tmp 17)], #[38]⟩, 3, none⟩,
  ⟨some 19, .move (.const (.int .i64 0)), 3, none⟩])
  (.block 0
  (.loop 4
    (.seq (.region false [
      ⟨some 20, .binOp .lss 3 (.tmp 19) (.tmp 18) 3, 0, none⟩])
    (.seq (.cond (.tmp 20)
      .skip
      (.exit 0))
    (.seq (.block 1
      (.seq (.region false [
        ⟨some 21, .move (.tmp 19), 3, none⟩,
        ⟨some 22, .indexAddr 38 (.tmp 17) (.tmp 19), 0, none⟩,
        ⟨some 23, .load 45 (.tmp 22), 45, none⟩,
        ⟨some 11, .alloc 45, 0, none⟩,
        ⟨some 10, .assign (.tmp 21), 3, none⟩,
        ⟨none, .store 45 (.tmp 11) (.tmp 23), 0, none⟩])
      (.seq (.seq (.region false [
        ⟨some 24, .move (.tmp 10), 3, none⟩,
        ⟨some 25, .move (.tmp 2), 3, none⟩,
        ⟨some 26, .binOp .eql 3 (.tmp 24) (.tmp 25) 3, 4, none⟩])
      (.cond (.tmp 26)
        (.seq (.region false [
          ⟨some 27, .load 25 (.tmp 3), 25, none⟩,
          ⟨some 28, .move (.tmp 10), 3, none⟩,
          ⟨none, .store 25 (.tmp 6) (.tmp 27), 0, none⟩,
          ⟨some 7, .assign (.tmp 28), 3, none⟩,
          ⟨some 8, .assign (.const (.int .i64 0)), 26, none⟩])
        .ret)
        .skip))
      (.seq (.seq (.region false [
        ⟨some 29, .load 25 (.tmp 3), 25, none⟩,
        ⟨some 30, .move (.tmp 9), 52, none⟩,
        ⟨some 31, .load 45 (.tmp 11), 45, none⟩,
        ⟨some 32, .call ⟨.value (.func 38), #[(.tmp 29), (.tmp 30), (.tmp 31)], #[25, 52, 45]⟩, 26, none⟩,
        ⟨some 12, .assign (.tmp 32), 26, none⟩])
      (.seq (.region false [
        ⟨some 33, .move (.tmp 12), 26, none⟩,
        ⟨some 34, .binOp .neq 26 (.tmp 33) (.const (.int .i64 0)) 26, 4, none⟩])
      (.cond (.tmp 34)
        (.seq (.region false [
          ⟨some 35, .load 25 (.tmp 3), 25, none⟩,
          ⟨some 36, .move (.tmp 10), 3, none⟩,
          ⟨some 37, .move (.tmp 12), 26, none⟩,
          ⟨none, .store 25 (.tmp 6) (.tmp 35), 0, none⟩,
          ⟨some 7, .assign (.tmp 36), 3, none⟩,
          ⟨some 8, .assign (.tmp 37), 26, none⟩])
        .ret)
        .skip)))
      (.region true [
        ⟨some 38, .fieldAddr 25 (.tmp 3) 0, 0, none⟩,
        ⟨some 39, .load 22 (.tmp 38), 22, none⟩,
        ⟨some 40, .fieldAddr 45 (.tmp 11) 0, 0, none⟩,
        ⟨some 41, .load 3 (.tmp 40), 3, none⟩,
        ⟨some 42, .fieldAddr 45 (.tmp 11) 1, 0, none⟩,
        ⟨some 43, .load 9 (.tmp 42), 9, none⟩,
        ⟨some 44, .fieldAddr 45 (.tmp 11) 1, 0, none⟩,
        ⟨some 45, .load 9 (.tmp 44), 9, none⟩,
        ⟨some 46, .call ⟨.builtin .len, #[(.tmp 45)], #[9]⟩, 3, none⟩,
        ⟨some 47, .binOp .sub 3 (.const (.int .i64 128)) (.tmp 46) 3, 3, none⟩,
        ⟨some 48, .call ⟨.value (.func 29), #[(.const (.string ⟨#[0]⟩)), (.tmp 47)], #[9, 3]⟩, 9, none⟩,
        ⟨some 49, .binOp .add 9 (.tmp 43) (.tmp 48) 9, 9, none⟩,
        ⟨some 50, .indexAddr 22 (.tmp 39) (.tmp 41), 0, none⟩,
        ⟨none, .store 9 (.tmp 50) (.tmp 49), 0, none⟩])))))
    (.region false [
      ⟨some 51, .binOp .add 3 (.tmp 19) (.const (.int .i64 1)) 3, 3, none⟩,
      ⟨some 19, .move (.tmp 51), 3, none⟩])))))))
  (.seq (.region false [
  ⟨some 52, .load 25 (.tmp 3), 25, none⟩,
  ⟨some 53, .move (.tmp 1), 38, none⟩,
  ⟨some 54, .call ⟨.builtin .len, #[(.tmp 53)], #[38]⟩, 3, none⟩,
  ⟨none, .store 25 (.tmp 6) (.tmp 52), 0, none⟩,
  ⟨some 7, .assign (.tmp 54), 3, none⟩,
  ⟨some 8, .assign (.const (.int .i64 0)), 26, none⟩])
  .ret)))))
def r22 : List ResultVar := [.cell 6 25, .tmp 7, .tmp 8]
theorem c22 : ∃ fn, DC.body 22 = some fn ∧ scOf fn.code = s22 ∧ fn.ntmps = 55 ∧ fn.results = r22 := ⟨_, rfl, by kernel_rfl, by kernel_rfl, by kernel_rfl⟩
@[simp] theorem k22_4 : DC.keep 22 4 = some [1, 2, 3, 6, 9, 17, 18, 19] := rfl

-- 23 emulator/emulatorref15.Apply [25, 38, 3]
def s23 : SC := (.seq (.region false [
  ⟨some 3, .box 25 (.tmp 0), 0, none⟩,
  ⟨some 6, .alloc 25, 0, none⟩,
  ⟨some 7, .assign (.const (.int .i64 0)), 3, none⟩,
  ⟨some 8, .assign (.const (.int .i64 0)), 26, none⟩])
  (.seq (.seq (.region false [
  ⟨some 9, .assign (.const (.int .i64 0)), 3, none⟩])
  (.block 0
  (.loop 2
    (.seq (.seq (.region false [
      ⟨some 12, .move (.tmp 9), 3, none⟩,
      ⟨some 13, .move (.tmp 1), 38, none⟩,
      ⟨some 14, .call ⟨.builtin .len, #[(.tmp 13)], #[38]⟩, 3, none⟩,
      ⟨some 15, .binOp .lss 3 (.tmp 12) (.tmp 14) 3, 4, none⟩])
    (.cond (.tmp 15)
      .skip
      (.exit 0)))
    (.seq (.block 1
      (.seq (.seq (.region false [
        ⟨some 18, .move (.tmp 9), 3, none⟩,
        ⟨some 19, .move (.tmp 2), 3, none⟩,
        ⟨some 20, .binOp .eql 3 (.tmp 18) (.tmp 19) 3, 4, none⟩])
      (.cond (.tmp 20)
        (.seq (.region false [
          ⟨some 21, .load 25 (.tmp 3), 25, none⟩,
          ⟨some 22, .move (.tmp 9), 3, none⟩,
          ⟨none, .store 25 (.tmp 6) (.tmp 21), 0, none⟩,
          ⟨some 7, .assign (.tmp 22), 3, none⟩,
          ⟨some 8, .assign (.const (.int .i64 0)), 26, none⟩])
        .ret)
        .skip))
      (.seq (.region true [
        ⟨some 24, .load 25 (.tmp 3), 25, none⟩,
        ⟨some 25, .move (.tmp 1), 38, none⟩,
        ⟨some 26, .move (.tmp 9), 3, none⟩,
        ⟨some 27, .indexAddr 38 (.tmp 25) (.tmp 26), 0, none⟩,
        ⟨some 28, .fieldAddr 45 (.tmp 27) 0, 0, none⟩,
        ⟨some 29, .load 3 (.tmp 28), 3, none⟩,
        ⟨some 30, .move (.tmp 1), 38, none⟩,
        ⟨some 31, .move (.tmp 9), 3, none⟩,
        ⟨some 32, .indexAddr 38 (.tmp 30) (.tmp 31), 0, none⟩,
        ⟨some 33, .fieldAddr 45 (.tmp 32) 1, 0, none⟩,
        ⟨some 34, .load 9 (.tmp 33), 9, none⟩,
        ⟨some 35, .call ⟨.value (.func 18), #[(.tmp 24), (.tmp 29), (.tmp 34)], #[25, 3, 9]⟩, 27, none⟩,
        ⟨some 23, .move (.tmp 35), 27, none⟩,
        ⟨some 36, .extract (.tmp 23) 0, 25, none⟩,
        ⟨some 37, .extract (.tmp 23) 1, 26, none⟩,
        ⟨some 10, .alloc 25, 0, none⟩,
        ⟨none, .store 25 (.tmp 10) (.tmp 36), 0, none⟩,
        ⟨some 11, .assign (.tmp 37), 26, none⟩])
      (.seq (.seq (.region false [
        ⟨some 38, .move (.tmp 11), 26, none⟩,
        ⟨some 39, .binOp .neq 26 (.tmp 38) (.const (.int .i64 0)) 26, 4, none⟩])
      (.cond (.tmp 39)
        (.seq (.region false [
          ⟨some 40, .load 25 (.tmp 3), 25, none⟩,
          ⟨some 41, .move (.tmp 9), 3, none⟩,
          ⟨some 42, .move (.tmp 11), 26, none⟩,
          ⟨none, .store 25 (.tmp 6) (.tmp 40), 0, none⟩,
          ⟨some 7, .assign (.tmp 41), 3, none⟩,
          ⟨some 8, .assign (.tmp 42), 26, none⟩])
        .ret)
        .skip))
      (.region false [
        ⟨some 43, .load 25 (.tmp 10), 25, none⟩,
        ⟨none, .store 25 (.tmp 3) (.tmp 43), 0, none⟩])))))
    (.region false [
      ⟨some 16, .move (.tmp 9), 3, none⟩,
      ⟨some 17, .binOp .add 3 (.tmp 16) (.const (.int .i64 1)) 3, 3, none⟩,
      ⟨some 9, .assign (.tmp 17), 3, none⟩]))))))
  (.seq (.region false [
  ⟨some 44, .load 25 (.tmp 3), 25, none⟩,
  ⟨some 45, .move (.tmp 1), 38, none⟩,
  ⟨some 46, .call ⟨.builtin .len, #[(.tmp 45)], #[38]⟩, 3, none⟩,
  ⟨none, .store 25 (.tmp 6) (.tmp 44), 0, none⟩,
  ⟨some 7, .assign (.tmp 46), 3, none⟩,
  ⟨some 8, .assign (.const (.int .i64 0)), 26, none⟩])
  .ret)))
def r23 : List ResultVar := [.cell 6 25, .tmp 7, .tmp 8]
theorem c23 : ∃ fn, DC.body 23 = some fn ∧ scOf fn.code = s23 ∧ fn.ntmps = 47 ∧ fn.results = r23 := ⟨_, rfl, by kernel_rfl, by kernel_rfl, by kernel_rfl⟩
@[simp] theorem k23_2 : DC.keep 23 2 = some [1, 2, 3, 6, 9] := rfl

-- 24 emulator/emulatorref15.Fair [25]
def s24 : SC := (.seq (.region false [
  ⟨some 1, .box 25 (.tmp 0), 0, none⟩,
  ⟨some 2, .assign (.const (.bool false)), 4, none⟩])
  (.seq (.seq (.region false [
  ⟨some 4, .fieldAddr 25 (.tmp 1) 0, 0, none⟩,
  ⟨some 5, .load 22 (.tmp 4), 22, none⟩,
  ⟨some 6, .call ⟨.builtin .len, #[(.tmp 5)], #[22]⟩, 3, none⟩,
  ⟨some 7, .binOp .gtr 3 (.tmp 6) (.const (.int .i64 64)) 3, 4, none⟩,
  ⟨some 8, .move (.tmp 7), 4, none⟩,
  ⟨some 9, .fieldAddr 25 (.tmp 1) 1, 0, (some (some 8, false))⟩,
  ⟨some 10, .load 23 (.tmp 9), 23, (some (some 8, false))⟩,
  ⟨some 11, .call ⟨.builtin .len, #[(.tmp 10)], #[23]⟩, 3, (some (some 8, false))⟩,
  ⟨some 12, .binOp .gtr 3 (.tmp 11) (.const (.int .i64 80)) 3, 4, (some (some 8, false))⟩,
  ⟨some 13, .pick (.tmp 8) (.const (.bool true)) (.tmp 12), 4, none⟩])
  (.cond (.tmp 13)
  (.seq (.region false [
    ⟨some 2, .assign (.const (.bool false)), 4, none⟩])
  .ret)
  .skip))
  (.seq (.seq (.region false [
  ⟨some 3, .assign (.const (.int .i64 0)), 3, none⟩])
  (.block 0
  (.loop 4
    (.seq (.seq (.region false [
      ⟨some 14, .move (.tmp 3), 3, none⟩,
      ⟨some 15, .fieldAddr 25 (.tmp 1) 0, 0, none⟩,
      ⟨some 16, .load 22 (.tmp 15), 22, none⟩,
      ⟨some 17, .call ⟨.builtin .len, #[(.tmp 16)], #[22]⟩, 3, none⟩,
      ⟨some 18, .binOp .lss 3 (.tmp 14) (.tmp 17) 3, 4, none⟩])
    (.cond (.tmp 18)
      .skip
      (.exit 0)))
    (.seq (.block 1
      (.seq (.region false [
        ⟨some 21, .fieldAddr 25 (.tmp 1) 0, 0, none⟩,
        ⟨some 22, .load 22 (.tmp 21), 22, none⟩,
        ⟨some 23, .move (.tmp 3), 3, none⟩,
        ⟨some 24, .indexAddr 22 (.tmp 22) (.tmp 23), 0, none⟩,
        ⟨some 25, .load 9 (.tmp 24), 9, none⟩,
        ⟨some 26, .call ⟨.builtin .len, #[(.tmp 25)], #[9]⟩, 3, none⟩,
        ⟨some 27, .binOp .gtr 3 (.tmp 26) (.const (.int .i64 200)) 3, 4, none⟩])
      (.cond (.tmp 27)
        (.seq (.region false [
          ⟨some 2, .assign (.const (.bool false)), 4, none⟩])
        .ret)
        .skip)))
    (.region false [
      ⟨some 19, .move (.tmp 3), 3, none⟩,
      ⟨some 20, .binOp .add 3 (.tmp 19) (.const (.int .i64 1)) 3, 3, none⟩,
      ⟨some 3, .assign (.tmp 20), 3, none⟩]))))))
  (.seq (.region false [
  ⟨some 2, .assign (.const (.bool true)), 4, none⟩])
  .ret))))
def r24 : List ResultVar := [.tmp 2]
theorem c24 : ∃ fn, DC.body 24 = some fn ∧ scOf fn.code = s24 ∧ fn.ntmps = 28 ∧ fn.results = r24 := ⟨_, rfl, by kernel_rfl, by kernel_rfl, by kernel_rfl⟩
@[simp] theorem k24_4 : DC.keep 24 4 = some [1, 3] := rfl

-- 25 emulator/drive.Diff [25, 25]
def s25 : SC := (.seq (.region false [
  ⟨some 2, .box 25 (.tmp 0), 0, none⟩,
  ⟨some 3, .box 25 (.tmp 1), 0, none⟩,
  ⟨some 4, .assign (.const (.slice none 0 0)), 23, none⟩])
  (.seq (.region false [
  ⟨some 5, .assign (.const (.slice none 0 0)), 23, none⟩])
  (.seq (.seq (.region false [
  ⟨some 7, .fieldAddr 25 (.tmp 2) 0, 0, none⟩,
  ⟨some 8, .load 22 (.tmp 7), 22, none⟩,
  ⟨some 9, .call ⟨.builtin .len, #[(.tmp 8)], #[22]⟩, 3, none⟩,
  ⟨some 10, .fieldAddr 25 (.tmp 3) 0, 0, none⟩,
  ⟨some 11, .load 22 (.tmp 10), 22, none⟩,
  ⟨some 12, .call ⟨.builtin .len, #[(.tmp 11)], #[22]⟩, 3, none⟩,
  ⟨some 13, .call ⟨.builtin .max, #[(.tmp 9), (.tmp 12)], #[3, 3]⟩, 3, none⟩,
  ⟨some 14, .move (.const (.int .i64 0)), 3, none⟩])
  (.block 0
  (.loop 3
    (.seq (.region false [
      ⟨some 15, .binOp .lss 3 (.tmp 14) (.tmp 13) 3, 4, none⟩])
    (.seq (.cond (.tmp 15)
      .skip
      (.exit 0))
    (.seq (.block 1
      (.seq (.region false [
        ⟨some 16, .move (.tmp 14), 3, none⟩,
        ⟨some 6, .assign (.tmp 16), 3, none⟩])
      (.seq (.region true [
        ⟨some 17, .load 25 (.tmp 2), 25, none⟩,
        ⟨some 18, .move (.tmp 6), 3, none⟩,
        ⟨some 19, .call ⟨.value (.func 32), #[(.tmp 17), (.tmp 18)], #[25, 3]⟩, 4, none⟩,
        ⟨some 20, .unOp .not 4 (.tmp 19), 4, none⟩,
        ⟨some 21, .move (.tmp 20), 4, none⟩,
        ⟨some 22, .load 25 (.tmp 3), 25, (some (some 21, false))⟩,
        ⟨some 23, .move (.tmp 6), 3, (some (some 21, false))⟩,
        ⟨some 24, .call ⟨.value (.func 32), #[(.tmp 22), (.tmp 23)], #[25, 3]⟩, 4, (some (some 21, false))⟩,
        ⟨some 25, .unOp .not 4 (.tmp 24), 4, (some (some 21, false))⟩,
        ⟨some 26, .pick (.tmp 21) (.const (.bool true)) (.tmp 25), 4, none⟩,
        ⟨some 27, .move (.tmp 26), 4, none⟩,
        ⟨some 28, .fieldAddr 25 (.tmp 2) 0, 0, (some (some 27, false))⟩,
        ⟨some 29, .load 22 (.tmp 28), 22, (some (some 27, false))⟩,
        ⟨some 30, .move (.tmp 6), 3, (some (some 27, false))⟩,
        ⟨some 31, .indexAddr 22 (.tmp 29) (.tmp 30), 0, (some (some 27, false))⟩,
        ⟨some 32, .load 9 (.tmp 31), 9, (some (some 27, false))⟩,
        ⟨some 33, .fieldAddr 25 (.tmp 3) 0, 0, (some (some 27, false))⟩,
        ⟨some 34, .load 22 (.tmp 33), 22, (some (some 27, false))⟩,
        ⟨some 35, .move (.tmp 6), 3, (some (some 27, false))⟩,
        ⟨some 36, .indexAddr 22 (.tmp 34) (.tmp 35), 0, (some (some 27, false))⟩,
        ⟨some 37, .load 9 (.tmp 36), 9, (some (some 27, false))⟩,
        ⟨some 38, .binOp .neq 9 (.tmp 32) (.tmp 37) 9, 4, (some (some 27, false))⟩,
        ⟨some 39, .pick (.tmp 27) (.const (.bool true)) (.tmp 38), 4, none⟩])
      (.cond (.tmp 39)
        (.region false [
          ⟨some 40, .move (.tmp 5), 23, none⟩,
          ⟨some 41, .move (.tmp 6), 3, none⟩,
          ⟨some 42, .buildSlice 23 1 #[(0, (.tmp 41))], 23, none⟩,
          ⟨some 43, .call ⟨.builtin .append, #[(.tmp 40), (.tmp 42)], #[23, 23]⟩, 23, none⟩,
          ⟨some 5, .assign (.tmp 43), 23, none⟩])
        .skip))))
    (.region false [
      ⟨some 44, .binOp .add 3 (.tmp 14) (.const (.int .i64 1)) 3, 3, none⟩,
      ⟨some 14, .move (.tmp 44), 3, none⟩])))))))
  (.seq (.region false [
  ⟨some 45, .move (.tmp 5), 23, none⟩,
  ⟨some 4, .assign (.tmp 45), 23, none⟩])
  .ret))))
def r25 : List ResultVar := [.tmp 4]
theorem c25 : ∃ fn, DC.body 25 = some fn ∧ scOf fn.code = s25 ∧ fn.ntmps = 46 ∧ fn.results = r25 := ⟨_, rfl, by kernel_rfl, by kernel_rfl, by kernel_rfl⟩
@[simp] theorem k25_3 : DC.keep 25 3 = some [2, 3, 5, 13, 14] := rfl

-- 26 emulator/emulatorref15.Diff [25, 25]
def s26 : SC := (.seq (.region false [
  ⟨some 2, .box 25 (.tmp 0), 0, none⟩,
  ⟨some 3, .box 25 (.tmp 1), 0, none⟩,
  ⟨some 4, .assign (.const (.slice none 0 0)), 23, none⟩])
  (.seq (.region false [
  ⟨some 5, .assign (.const (.slice none 0 0)), 23, none⟩])
  (.seq (.seq (.region false [
  ⟨some 6, .assign (.const (.int .i64 0)), 3, none⟩])
  (.block 0
  (.loop 3
    (.seq (.seq (.region false [
      ⟨some 7, .move (.tmp 6), 3, none⟩,
      ⟨some 8, .fieldAddr 25 (.tmp 2) 0, 0, none⟩,
      ⟨some 9, .load 22 (.tmp 8), 22, none⟩,
      ⟨some 10, .call ⟨.builtin .len, #[(.tmp 9)], #[22]⟩, 3, none⟩,
      ⟨some 11, .binOp .lss 3 (.tmp 7) (.tmp 10) 3, 4, none⟩,
      ⟨some 12, .move (.tmp 11), 4, none⟩,
      ⟨some 13, .move (.tmp 6), 3, (some (some 12, false))⟩,
      ⟨some 14, .fieldAddr 25 (.tmp 3) 0, 0, (some (some 12, false))⟩,
      ⟨some 15, .load 22 (.tmp 14), 22, (some (some 12, false))⟩,
      ⟨some 16, .call ⟨.builtin .len, #[(.tmp 15)], #[22]⟩, 3, (some (some 12, false))⟩,
      ⟨some 17, .binOp .lss 3 (.tmp 13) (.tmp 16) 3, 4, (some (some 12, false))⟩,
      ⟨some 18, .pick (.tmp 12) (.const (.bool true)) (.tmp 17), 4, none⟩])
    (.cond (.tmp 18)
      .skip
      (.exit 0)))
    (.seq (.block 1
      (.seq (.region true [
        ⟨some 21, .move (.tmp 6), 3, none⟩,
        ⟨some 22, .fieldAddr 25 (.tmp 2) 0, 0, none⟩,
        ⟨some 23, .load 22 (.tmp 22), 22, none⟩,
        ⟨some 24, .call ⟨.builtin .len, #[(.tmp 23)], #[22]⟩, 3, none⟩,
        ⟨some 25, .binOp .geq 3 (.tmp 21) (.tmp 24) 3, 4, none⟩,
        ⟨some 26, .move (.tmp 25), 4, none⟩,
        ⟨some 27, .move (.tmp 6), 3, (some (some 26, false))⟩,
        ⟨some 28, .fieldAddr 25 (.tmp 3) 0, 0, (some (some 26, false))⟩,
        ⟨some 29, .load 22 (.tmp 28), 22, (some (some 26, false))⟩,
        ⟨some 30, .call ⟨.builtin .len, #[(.tmp 29)], #[22]⟩, 3, (some (some 26, false))⟩,
        ⟨some 31, .binOp .geq 3 (.tmp 27) (.tmp 30) 3, 4, (some (some 26, false))⟩,
        ⟨some 32, .pick (.tmp 26) (.const (.bool true)) (.tmp 31), 4, none⟩,
        ⟨some 33, .move (.tmp 32), 4, none⟩,
        ⟨some 34, .fieldAddr 25 (.tmp 2) 0, 0, (some (some 33, false))⟩,
        ⟨some 35, .load 22 (.tmp 34), 22, (some (some 33, false))⟩,
        ⟨some 36, .move (.tmp 6), 3, (some (some 33, false))⟩,
        ⟨some 37, .indexAddr 22 (.tmp 35) (.tmp 36), 0, (some (some 33, false))⟩,
        ⟨some 38, .load 9 (.tmp 37), 9, (some (some 33, false))⟩,
        ⟨some 39, .fieldAddr 25 (.tmp 3) 0, 0, (some (some 33, false))⟩,
        ⟨some 40, .load 22 (.tmp 39), 22, (some (some 33, false))⟩,
        ⟨some 41, .move (.tmp 6), 3, (some (some 33, false))⟩,
        ⟨some 42, .indexAddr 22 (.tmp 40) (.tmp 41), 0, (some (some 33, false))⟩,
        ⟨some 43, .load 9 (.tmp 42), 9, (some (some 33, false))⟩,
        ⟨some 44, .binOp .neq 9 (.tmp 38) (.tmp 43) 9, 4, (some (some 33, false))⟩,
        ⟨some 45, .pick (.tmp 33) (.const (.bool true)) (.tmp 44), 4, none⟩])
      (.cond (.tmp 45)
        (.region false [
          ⟨some 46, .move (.tmp 5), 23, none⟩,
          ⟨some 47, .move (.tmp 6), 3, none⟩,
          ⟨some 48, .buildSlice 23 1 #[(0, (.tmp 47))], 23, none⟩,
          ⟨some 49, .call ⟨.builtin .append, #[(.tmp 46), (.tmp 48)], #[23, 23]⟩, 23, none⟩,
          ⟨some 5, .assign (.tmp 49), 23, none⟩])
        .skip)))
    (.region false [
      ⟨some 19, .move (.tmp 6), 3, none⟩,
      ⟨some 20, .binOp .add 3 (.tmp 19) (.const (.int .i64 1)) 3, 3, none⟩,
      ⟨some 6, .assign (.tmp 20), 3, none⟩]))))))
  (.seq (.region false [
  ⟨some 50, .move (.tmp 5), 23, none⟩,
  ⟨some 4, .assign (.tmp 50), 23, none⟩])
  .ret))))
def r26 : List ResultVar := [.tmp 4]
theorem c26 : ∃ fn, DC.body 26 = some fn ∧ scOf fn.code = s26 ∧ fn.ntmps = 51 ∧ fn.results = r26 := ⟨_, rfl, by kernel_rfl, by kernel_rfl, by kernel_rfl⟩
@[simp] theorem k26_3 : DC.keep 26 3 = some [2, 3, 5, 6] := rfl

-- 27 emulator/drive.Right [25]
def s27 : SC := (.seq (.region false [
  ⟨some 1, .box 25 (.tmp 0), 0, none⟩,
  ⟨some 2, .assign (.const (.bool false)), 4, none⟩])
  (.seq (.seq (.region false [
  ⟨some 8, .fieldAddr 25 (.tmp 1) 0, 0, none⟩,
  ⟨some 9, .load 22 (.tmp 8), 22, none⟩,
  ⟨some 10, .call ⟨.builtin .len, #[(.tmp 9)], #[22]⟩, 3, none⟩,
  ⟨some 11, .binOp .lss 3 (.tmp 10) (.const (.int .i64 1)) 3, 4, none⟩,
  ⟨some 12, .move (.tmp 11), 4, none⟩,
  ⟨some 13, .fieldAddr 25 (.tmp 1) 0, 0, (some (some 12, false))⟩,
  ⟨some 14, .load 22 (.tmp 13), 22, (some (some 12, false))⟩,
  ⟨some 15, .call ⟨.builtin .len, #[(.tmp 14)], #[22]⟩, 3, (some (some 12, false))⟩,
  ⟨some 16, .binOp .gtr 3 (.tmp 15) (.const (.int .i64 256)) 3, 4, (some (some 12, false))⟩,
  ⟨some 17, .pick (.tmp 12) (.const (.bool true)) (.tmp 16), 4, none⟩])
  (.cond (.tmp 17)
  (.seq (.region false [
    ⟨some 2, .assign (.const (.bool false)), 4, none⟩])
  .ret)
  .skip))
  (.seq (.seq (.region false [
  ⟨some 18, .fieldAddr 25 (.tmp 1) 0, 0, none⟩,
  ⟨some 19, .load 22 (.tmp 18), 22, none⟩,
  ⟨some 20, .call ⟨.builtin .len, #[(.tmp 19)], #[22]⟩, 3, none⟩,
  ⟨some 21, .move (.const (.int .i64 0)), 3, none⟩])
  (.block 0
  (.loop 4
    (.seq (.region false [
      ⟨some 22, .binOp .lss 3 (.tmp 21) (.tmp 20) 3, 0, none⟩])
    (.seq (.cond (.tmp 22)
      .skip
      (.exit 0))
    (.seq (.block 1
      (.seq (.region false [
        ⟨some 23, .indexAddr 22 (.tmp 19) (.tmp 21), 0, none⟩,
        ⟨some 24, .load 9 (.tmp 23), 9, none⟩,
        ⟨some 4, .assign (.tmp 24), 9, none⟩])
      (.seq (.region false [
        ⟨some 25, .move (.tmp 4), 9, none⟩,
        ⟨some 26, .call ⟨.builtin .len, #[(.tmp 25)], #[9]⟩, 3, none⟩,
        ⟨some 27, .binOp .neq 3 (.tmp 26) (.const (.int .i64 128)) 3, 4, none⟩])
      (.cond (.tmp 27)
        (.seq (.region false [
          ⟨some 2, .assign (.const (.bool false)), 4, none⟩])
        .ret)
        .skip))))
    (.region false [
      ⟨some 28, .binOp .add 3 (.tmp 21) (.const (.int .i64 1)) 3, 3, none⟩,
      ⟨some 21, .move (.tmp 28), 3, none⟩])))))))
  (.seq (.region false [
  ⟨some 5, .assign (.const (.int .i64 (-1))), 3, none⟩])
  (.seq (.seq (.region false [
  ⟨some 29, .fieldAddr 25 (.tmp 1) 1, 0, none⟩,
  ⟨some 30, .load 23 (.tmp 29), 23, none⟩,
  ⟨some 31, .call ⟨.builtin .len, #[(.tmp 30)], #[23]⟩, 3, none⟩,
  ⟨some 32, .move (.const (.int .i64 0)), 3, none⟩])
  (.block 2
  (.loop 11
    (.seq (.region false [
      ⟨some 33, .binOp .lss 3 (.tmp 32) (.tmp 31) 3, 0, none⟩])
    (.seq (.cond (.tmp 33)
      .skip
      (.exit 2))
    (.seq (.block 3
      (.seq (.region false [
        ⟨some 34, .indexAddr 23 (.tmp 30) (.tmp 32), 0, none⟩,
        ⟨some 35, .load 3 (.tmp 34), 3, none⟩,
        ⟨some 7, .assign (.tmp 35), 3, none⟩])
      (.seq (.seq (.region false [
        ⟨some 36, .move (.tmp 7), 3, none⟩,
        ⟨some 37, .move (.tmp 5), 3, none⟩,
        ⟨some 38, .binOp .leq 3 (.tmp 36) (.tmp 37) 3, 4, none⟩,
        ⟨some 39, .move (.tmp 38), 4, none⟩,
        ⟨some 40, .move (.tmp 7), 3, (some (some 39, false))⟩,
        ⟨some 41, .fieldAddr 25 (.tmp 1) 0, 0, (some (some 39, false))⟩,
        ⟨some 42, .load 22 (.tmp 41), 22, (some (some 39, false))⟩,
        ⟨some 43, .call ⟨.builtin .len, #[(.tmp 42)], #[22]⟩, 3, (some (some 39, false))⟩,
        ⟨some 44, .binOp .geq 3 (.tmp 40) (.tmp 43) 3, 4, (some (some 39, false))⟩,
        ⟨some 45, .pick (.tmp 39) (.const (.bool true)) (.tmp 44), 4, none⟩])
      (.cond (.tmp 45)
        (.seq (.region false [
          ⟨some 2, .assign (.const (.bool false)), 4, none⟩])
        .ret)
        .skip))
      (.region false [
        ⟨some 46, .move (.tmp 7), 3, none⟩,
        ⟨some 5, .assign (.tmp 46), 3, none⟩]))))
    (.region false [
      ⟨some 47, .binOp .add 3 (.tmp 32) (.const (.int .i64 1)) 3, 3, none⟩,
      ⟨some 32, .move (.tmp 47), 3, none⟩])))))))
  (.seq (.region false [
  ⟨some 2, .assign (.const (.bool true)), 4, none⟩])
  .ret))))))
def r27 : List ResultVar := [.tmp 2]
theorem c27 : ∃ fn, DC.body 27 = some fn ∧ scOf fn.code = s27 ∧ fn.ntmps = 48 ∧ fn.results = r27 := ⟨_, rfl, by kernel_rfl, by kernel_rfl, by kernel_rfl⟩
@[simp] theorem k27_4 : DC.keep 27 4 = some [1, 19, 20, 21] := rfl
@[simp] theorem k27_11 : DC.keep 27 11 = some [1, 5, 30, 31, 32] := rfl

-- 28 emulator/emulatorref15.Right [25]
def s28 : SC := (.seq (.region false [
  ⟨some 1, .box 25 (.tmp 0), 0, none⟩,
  ⟨some 2, .assign (.const (.bool false)), 4, none⟩])
  (.seq (.seq (.region false [
  ⟨some 5, .fieldAddr 25 (.tmp 1) 0, 0, none⟩,
  ⟨some 6, .load 22 (.tmp 5), 22, none⟩,
  ⟨some 7, .call ⟨.builtin .len, #[(.tmp 6)], #[22]⟩, 3, none⟩,
  ⟨some 8, .binOp .lss 3 (.tmp 7) (.const (.int .i64 1)) 3, 4, none⟩,
  ⟨some 9, .move (.tmp 8), 4, none⟩,
  ⟨some 10, .fieldAddr 25 (.tmp 1) 0, 0, (some (some 9, false))⟩,
  ⟨some 11, .load 22 (.tmp 10), 22, (some (some 9, false))⟩,
  ⟨some 12, .call ⟨.builtin .len, #[(.tmp 11)], #[22]⟩, 3, (some (some 9, false))⟩,
  ⟨some 13, .binOp .gtr 3 (.tmp 12) (.const (.int .i64 256)) 3, 4, (some (some 9, false))⟩,
  ⟨some 14, .pick (.tmp 9) (.const (.bool true)) (.tmp 13), 4, none⟩])
  (.cond (.tmp 14)
  (.seq (.region false [
    ⟨some 2, .assign (.const (.bool false)), 4, none⟩])
  .ret)
  .skip))
  (.seq (.seq (.region false [
  ⟨some 3, .assign (.const (.int .i64 0)), 3, none⟩])
  (.block 0
  (.loop 4
    (.seq (.seq (.region false [
      ⟨some 15, .move (.tmp 3), 3, none⟩,
      ⟨some 16, .fieldAddr 25 (.tmp 1) 0, 0, none⟩,
      ⟨some 17, .load 22 (.tmp 16), 22, none⟩,
      ⟨some 18, .call ⟨.builtin .len, #[(.tmp 17)], #[22]⟩, 3, none⟩,
      ⟨some 19, .binOp .lss 3 (.tmp 15) (.tmp 18) 3, 4, none⟩])
    (.cond (.tmp 19)
      .skip
      (.exit 0)))
    (.seq (.block 1
      (.seq (.region false [
        ⟨some 22, .fieldAddr 25 (.tmp 1) 0, 0, none⟩,
        ⟨some 23, .load 22 (.tmp 22), 22, none⟩,
        ⟨some 24, .move (.tmp 3), 3, none⟩,
        ⟨some 25, .indexAddr 22 (.tmp 23) (.tmp 24), 0, none⟩,
        ⟨some 26, .load 9 (.tmp 25), 9, none⟩,
        ⟨some 27, .call ⟨.builtin .len, #[(.tmp 26)], #[9]⟩, 3, none⟩,
        ⟨some 28, .binOp .neq 3 (.tmp 27) (.const (.int .i64 128)) 3, 4, none⟩])
      (.cond (.tmp 28)
        (.seq (.region false [
          ⟨some 2, .assign (.const (.bool false)), 4, none⟩])
        .ret)
        .skip)))
    (.region false [
      ⟨some 20, .move (.tmp 3), 3, none⟩,
      ⟨some 21, .binOp .add 3 (.tmp 20) (.const (.int .i64 1)) 3, 3, none⟩,
      ⟨some 3, .assign (.tmp 21), 3, none⟩]))))))
  (.seq (.seq (.region false [
  ⟨some 4, .assign (.const (.int .i64 0)), 3, none⟩])
  (.block 2
  (.loop 9
    (.seq (.seq (.region false [
      ⟨some 29, .move (.tmp 4), 3, none⟩,
      ⟨some 30, .fieldAddr 25 (.tmp 1) 1, 0, none⟩,
      ⟨some 31, .load 23 (.tmp 30), 23, none⟩,
      ⟨some 32, .call ⟨.builtin .len, #[(.tmp 31)], #[23]⟩, 3, none⟩,
      ⟨some 33, .binOp .lss 3 (.tmp 29) (.tmp 32) 3, 4, none⟩])
    (.cond (.tmp 33)
      .skip
      (.exit 2)))
    (.seq (.block 3
      (.seq (.region true [
        ⟨some 36, .fieldAddr 25 (.tmp 1) 1, 0, none⟩,
        ⟨some 37, .load 23 (.tmp 36), 23, none⟩,
        ⟨some 38, .move (.tmp 4), 3, none⟩,
        ⟨some 39, .indexAddr 23 (.tmp 37) (.tmp 38), 0, none⟩,
        ⟨some 40, .load 3 (.tmp 39), 3, none⟩,
        ⟨some 41, .binOp .lss 3 (.tmp 40) (.const (.int .i64 0)) 3, 4, none⟩,
        ⟨some 42, .move (.tmp 41), 4, none⟩,
        ⟨some 43, .fieldAddr 25 (.tmp 1) 1, 0, (some (some 42, false))⟩,
        ⟨some 44, .load 23 (.tmp 43), 23, (some (some 42, false))⟩,
        ⟨some 45, .move (.tmp 4), 3, (some (some 42, false))⟩,
        ⟨some 46, .indexAddr 23 (.tmp 44) (.tmp 45), 0, (some (some 42, false))⟩,
        ⟨some 47, .load 3 (.tmp 46), 3, (some (some 42, false))⟩,
        ⟨some 48, .fieldAddr 25 (.tmp 1) 0, 0, (some (some 42, false))⟩,
        ⟨some 49, .load 22 (.tmp 48), 22, (some (some 42, false))⟩,
        ⟨some 50, .call ⟨.builtin .len, #[(.tmp 49)], #[22]⟩, 3, (some (some 42, false))⟩,
        ⟨some 51, .binOp .geq 3 (.tmp 47) (.tmp 50) 3, 4, (some (some 42, false))⟩,
        ⟨some 52, .pick (.tmp 42) (.const (.bool true)) (.tmp 51), 4, none⟩,
        ⟨some 53, .move (.tmp 52), 4, none⟩,
        ⟨some 54, .move (.tmp 4), 3, (some (some 53, false))⟩,
        ⟨some 55, .binOp .gtr 3 (.tmp 54) (.const (.int .i64 0)) 3, 4, (some (some 53, false))⟩,
        ⟨some 56, .move (.tmp 55), 4, (some (some 53, false))⟩,
        ⟨some 57, .fieldAddr 25 (.tmp 1) 1, 0, (some (some 56, true))⟩,
        ⟨some 58, .load 23 (.tmp 57), 23, (some (some 56, true))⟩,
        ⟨some 59, .move (.tmp 4), 3, (some (some 56, true))⟩,
        ⟨some 60, .binOp .sub 3 (.tmp 59) (.const (.int .i64 1)) 3, 3, (some (some 56, true))⟩,
        ⟨some 61, .indexAddr 23 (.tmp 58) (.tmp 60), 0, (some (some 56, true))⟩,
        ⟨some 62, .load 3 (.tmp 61), 3, (some (some 56, true))⟩,
        ⟨some 63, .fieldAddr 25 (.tmp 1) 1, 0, (some (some 56, true))⟩,
        ⟨some 64, .load 23 (.tmp 63), 23, (some (some 56, true))⟩,
        ⟨some 65, .move (.tmp 4), 3, (some (some 56, true))⟩,
        ⟨some 66, .indexAddr 23 (.tmp 64) (.tmp 65), 0, (some (some 56, true))⟩,
        ⟨some 67, .load 3 (.tmp 66), 3, (some (some 56, true))⟩,
        ⟨some 68, .binOp .geq 3 (.tmp 62) (.tmp 67) 3, 4, (some (some 56, true))⟩,
        ⟨some 69, .pick (.tmp 56) (.tmp 68) (.const (.bool false)), 4, (some (some 53, false))⟩,
        ⟨some 70, .pick (.tmp 53) (.const (.bool true)) (.tmp 69), 4, none⟩])
      (.cond (.tmp 70)
        (.seq (.region false [
          ⟨some 2, .assign (.const (.bool false)), 4, none⟩])
        .ret)
        .skip)))
    (.region false [
      ⟨some 34, .move (.tmp 4), 3, none⟩,
      ⟨some 35, .binOp .add 3 (.tmp 34) (.const (.int .i64 1)) 3, 3, none⟩,
      ⟨some 4, .assign (.tmp 35), 3, none⟩]))))))
  (.seq (.region false [
  ⟨some 2, .assign (.const (.bool true)), 4, none⟩])
  .ret)))))
def r28 : List ResultVar := [.tmp 2]
theorem c28 : ∃ fn, DC.body 28 = some fn ∧ scOf fn.code = s28 ∧ fn.ntmps = 71 ∧ fn.results = r28 := ⟨_, rfl, by kernel_rfl, by kernel_rfl, by kernel_rfl⟩
@[simp] theorem k28_4 : DC.keep 28 4 = some [1, 3] := rfl
@[simp] theorem k28_9 : DC.keep 28 9 = some [1, 4] := rfl

-- 30 slices.Repeat[[]string,string] [22, 3]
def s30 : SC := (.seq (.region false [
  ⟨some 4, .assign (.const (.slice none 0 0)), 22, none⟩])
  (.seq (.seq (.region false [
  ⟨some 9, .move (.tmp 1), 3, none⟩,
  ⟨some 10, .binOp .lss 3 (.tmp 9) (.const (.int .i64 0)) 3, 4, none⟩])
  (.cond (.tmp 10)
  (.region false [
    ⟨some 11, .makeInterface 9 (.const (.string ⟨#[99, 97, 110, 110, 111, 116, 32, 98, 101, 32, 110, 101, 103, 97, 116, 105, 118, 101]⟩)), 20, none⟩,
    ⟨none, .panic (.tmp 11), 0, none⟩])
  .skip))
  (.seq (.region false [
  ⟨some 13, .move (.tmp 0), 22, none⟩,
  ⟨some 14, .call ⟨.builtin .len, #[(.tmp 13)], #[22]⟩, 3, none⟩,
  ⟨some 15, .convert 3 59 (.tmp 14), 59, none⟩,
  ⟨some 16, .move (.tmp 1), 3, none⟩,
  ⟨some 17, .convert 3 59 (.tmp 16), 59, none⟩,
  ⟨some 18, .call ⟨.value (.func 39), #[(.tmp 15), (.tmp 17)], #[59, 59]⟩, 60, none⟩,
  ⟨some 12, .move (.tmp 18), 60, none⟩,
  ⟨some 19, .extract (.tmp 12) 0, 59, none⟩,
  ⟨some 20, .extract (.tmp 12) 1, 59, none⟩,
  ⟨some 5, .assign (.tmp 19), 59, none⟩,
  ⟨some 6, .assign (.tmp 20), 59, none⟩])
  (.seq (.seq (.region false [
  ⟨some 21, .move (.tmp 5), 59, none⟩,
  ⟨some 22, .binOp .gtr 59 (.tmp 21) (.const (.int .u64 0)) 59, 4, none⟩,
  ⟨some 23, .move (.tmp 22), 4, none⟩,
  ⟨some 24, .move (.tmp 6), 59, (some (some 23, false))⟩,
  ⟨some 25, .binOp .gtr 59 (.tmp 24) (.const (.int .u64 9223372036854775807)) 59, 4, (some (some 23, false))⟩,
  ⟨some 26, .pick (.tmp 23) (.const (.bool true)) (.tmp 25), 4, none⟩])
  (.cond (.tmp 26)
  (.region false [
    ⟨some 27, .makeInterface 9 (.const (.string ⟨#[116, 104, 101, 32, 114, 101, 115, 117, 108, 116, 32, 111, 102, 32, 40, 108, 101, 110, 40, 120, 41, 32, 42, 32, 99, 111, 117, 110, 116, 41, 32, 111, 118, 101, 114, 102, 108, 111, 119, 115]⟩)), 20, none⟩,
    ⟨none, .panic (.tmp 27), 0, none⟩])
  .skip))
  (.seq (.region false [
  ⟨some 28, .move (.tmp 6), 59, none⟩,
  ⟨some 29, .convert 59 3 (.tmp 28), 3, none⟩,
  ⟨some 30, .makeSlice 22 (.tmp 29) (.tmp 29), 22, none⟩,
  ⟨some 7, .assign (.tmp 30), 22, none⟩])
  (.seq (.region false [
  ⟨some 31, .move (.tmp 7), 22, none⟩,
  ⟨some 32, .move (.tmp 0), 22, none⟩,
  ⟨some 33, .call ⟨.builtin .copy, #[(.tmp 31), (.tmp 32)], #[22, 22]⟩, 3, none⟩,
  ⟨some 8, .assign (.tmp 33), 3, none⟩])
  (.seq (.block 0
  (.loop 8
    (.seq (.seq (.region false [
      ⟨some 34, .move (.tmp 8), 3, none⟩,
      ⟨some 35, .move (.tmp 7), 22, none⟩,
      ⟨some 36, .call ⟨.builtin .len, #[(.tmp 35)], #[22]⟩, 3, none⟩,
      ⟨some 37, .binOp .lss 3 (.tmp 34) (.tmp 36) 3, 4, none⟩])
    (.cond (.tmp 37)
      .skip
      (.exit 0)))
    (.block 1
      (.region true [
        ⟨some 38, .move (.tmp 8), 3, none⟩,
        ⟨some 39, .move (.tmp 7), 22, none⟩,
        ⟨some 40, .move (.tmp 8), 3, none⟩,
        ⟨some 41, .slice 22 (.tmp 39) (some (.tmp 40)) none none, 22, none⟩,
        ⟨some 42, .move (.tmp 7), 22, none⟩,
        ⟨some 43, .move (.tmp 8), 3, none⟩,
        ⟨some 44, .slice 22 (.tmp 42) none (some (.tmp 43)) none, 22, none⟩,
        ⟨some 45, .call ⟨.builtin .copy, #[(.tmp 41), (.tmp 44)], #[22, 22]⟩, 3, none⟩,
        ⟨some 46, .binOp .add 3 (.tmp 38) (.tmp 45) 3, 3, none⟩,
        ⟨some 8, .assign (.tmp 46), 3, none⟩])))))
  (.seq (.region false [
  ⟨some 47, .move (.tmp 7), 22, none⟩,
  ⟨some 4, .assign (.tmp 47), 22, none⟩])
  .ret))))))))
def r30 : List ResultVar := [.tmp 4]
theorem c30 : ∃ fn, DC.body 30 = some fn ∧ scOf fn.code = s30 ∧ fn.ntmps = 48 ∧ fn.results = r30 := ⟨_, rfl, by kernel_rfl, by kernel_rfl, by kernel_rfl⟩
@[simp] theorem k30_8 : DC.keep 30 8 = some [7, 8] := rfl

-- 31 emulator/emulatorref15.zeros [3]
def s31 : SC := (.seq (.region false [
  ⟨some 2, .assign (.const (.string ⟨#[]⟩)), 9, none⟩])
  (.seq (.region false [
  ⟨some 3, .assign (.const (.slice none 0 0)), 50, none⟩])
  (.seq (.seq (.region false [
  ⟨some 4, .assign (.const (.int .i64 0)), 3, none⟩])
  (.block 0
  (.loop 3
    (.seq (.seq (.region false [
      ⟨some 5, .move (.tmp 4), 3, none⟩,
      ⟨some 6, .move (.tmp 0), 3, none⟩,
      ⟨some 7, .binOp .lss 3 (.tmp 5) (.tmp 6) 3, 4, none⟩])
    (.cond (.tmp 7)
      .skip
      (.exit 0)))
    (.seq (.block 1
      (.region false [
        ⟨some 10, .move (.tmp 3), 50, none⟩,
        ⟨some 11, .buildSlice 50 1 #[(0, (.const (.int .u8 0)))], 50, none⟩,
        ⟨some 12, .call ⟨.builtin .append, #[(.tmp 10), (.tmp 11)], #[50, 50]⟩, 50, none⟩,
        ⟨some 3, .assign (.tmp 12), 50, none⟩]))
    (.region false [
      ⟨some 8, .move (.tmp 4), 3, none⟩,
      ⟨some 9, .binOp .add 3 (.tmp 8) (.const (.int .i64 1)) 3, 3, none⟩,
      ⟨some 4, .assign (.tmp 9), 3, none⟩]))))))
  (.seq (.region false [
  ⟨some 13, .move (.tmp 3), 50, none⟩,
  ⟨some 14, .convert 50 9 (.tmp 13), 9, none⟩,
  ⟨some 2, .assign (.tmp 14), 9, none⟩])
  .ret))))
def r31 : List ResultVar := [.tmp 2]
theorem c31 : ∃ fn, DC.body 31 = some fn ∧ scOf fn.code = s31 ∧ fn.ntmps = 15 ∧ fn.results = r31 := ⟨_, rfl, by kernel_rfl, by kernel_rfl, by kernel_rfl⟩
@[simp] theorem k31_3 : DC.keep 31 3 = some [0, 3, 4] := rfl

-- 32 emulator/drive.has [25, 3]
def s32 : SC := (.seq (.region false [
  ⟨some 2, .box 25 (.tmp 0), 0, none⟩,
  ⟨some 4, .assign (.const (.bool false)), 4, none⟩])
  (.seq (.region false [
  ⟨some 5, .move (.tmp 1), 3, none⟩,
  ⟨some 6, .binOp .geq 3 (.tmp 5) (.const (.int .i64 0)) 3, 4, none⟩,
  ⟨some 7, .move (.tmp 6), 4, none⟩,
  ⟨some 8, .move (.tmp 1), 3, (some (some 7, true))⟩,
  ⟨some 9, .fieldAddr 25 (.tmp 2) 0, 0, (some (some 7, true))⟩,
  ⟨some 10, .load 22 (.tmp 9), 22, (some (some 7, true))⟩,
  ⟨some 11, .call ⟨.builtin .len, #[(.tmp 10)], #[22]⟩, 3, (some (some 7, true))⟩,
  ⟨some 12, .binOp .lss 3 (.tmp 8) (.tmp 11) 3, 4, (some (some 7, true))⟩,
  ⟨some 13, .pick (.tmp 7) (.tmp 12) (.const (.bool false)), 4, none⟩,
  ⟨some 4, .assign (.tmp 13), 4, none⟩])
  .ret))
def r32 : List ResultVar := [.tmp 4]
theorem c32 : ∃ fn, DC.body 32 = some fn ∧ scOf fn.code = s32 ∧ fn.ntmps = 14 ∧ fn.results = r32 := ⟨_, rfl, by kernel_rfl, by kernel_rfl, by kernel_rfl⟩

-- 33 emulator/drive.worn [25]
def s33 : SC := (.seq (.region false [
  ⟨some 1, .box 25 (.tmp 0), 0, none⟩,
  ⟨some 2, .assign (.const (.map none)), 52, none⟩])
  (.seq (.region false [
  ⟨some 6, .makeMap 52 none, 52, none⟩,
  ⟨some 3, .assign (.tmp 6), 52, none⟩])
  (.seq (.seq (.region false [
  ⟨some 7, .fieldAddr 25 (.tmp 1) 1, 0, none⟩,
  ⟨some 8, .load 23 (.tmp 7), 23, none⟩,
  ⟨some 9, .call ⟨.builtin .len, #[(.tmp 8)], #[23]⟩, 3, none⟩,
  ⟨some 10, .move (.const (.int .i64 0)), 3, none⟩])
  (.block 0
  (.loop 3
    (.seq (.region false [
      ⟨some 11, .binOp .lss 3 (.tmp 10) (.tmp 9) 3, 0, none⟩])
    (.seq (.cond (.tmp 11)
      .skip
      (.exit 0))
    (.seq (.block 1
      (.seq (.region false [
        ⟨some 12, .indexAddr 23 (.tmp 8) (.tmp 10), 0, none⟩,
        ⟨some 13, .load 3 (.tmp 12), 3, none⟩,
        ⟨some 5, .assign (.tmp 13), 3, none⟩])
      (.region false [
        ⟨some 14, .move (.tmp 3), 52, none⟩,
        ⟨some 15, .move (.tmp 5), 3, none⟩,
        ⟨none, .mapUpdate 52 (.tmp 14) (.tmp 15) (.const (.bool true)), 0, none⟩])))
    (.region false [
      ⟨some 16, .binOp .add 3 (.tmp 10) (.const (.int .i64 1)) 3, 3, none⟩,
      ⟨some 10, .move (.tmp 16), 3, none⟩])))))))
  (.seq (.region false [
  ⟨some 17, .move (.tmp 3), 52, none⟩,
  ⟨some 2, .assign (.tmp 17), 52, none⟩])
  .ret))))
def r33 : List ResultVar := [.tmp 2]
theorem c33 : ∃ fn, DC.body 33 = some fn ∧ scOf fn.code = s33 ∧ fn.ntmps = 18 ∧ fn.results = r33 := ⟨_, rfl, by kernel_rfl, by kernel_rfl, by kernel_rfl⟩
@[simp] theorem k33_3 : DC.keep 33 3 = some [3, 8, 9, 10] := rfl

-- 34 emulator/emulatorref15.Isbad [25, 3]
def s34 : SC := (.seq (.region false [
  ⟨some 2, .box 25 (.tmp 0), 0, none⟩,
  ⟨some 4, .assign (.const (.bool false)), 4, none⟩])
  (.seq (.seq (.region false [
  ⟨some 5, .assign (.const (.int .i64 0)), 3, none⟩])
  (.block 0
  (.loop 2
    (.seq (.seq (.region false [
      ⟨some 6, .move (.tmp 5), 3, none⟩,
      ⟨some 7, .fieldAddr 25 (.tmp 2) 1, 0, none⟩,
      ⟨some 8, .load 23 (.tmp 7), 23, none⟩,
      ⟨some 9, .call ⟨.builtin .len, #[(.tmp 8)], #[23]⟩, 3, none⟩,
      ⟨some 10, .binOp .lss 3 (.tmp 6) (.tmp 9) 3, 4, none⟩])
    (.cond (.tmp 10)
      .skip
      (.exit 0)))
    (.seq (.block 1
      (.seq (.region false [
        ⟨some 13, .fieldAddr 25 (.tmp 2) 1, 0, none⟩,
        ⟨some 14, .load 23 (.tmp 13), 23, none⟩,
        ⟨some 15, .move (.tmp 5), 3, none⟩,
        ⟨some 16, .indexAddr 23 (.tmp 14) (.tmp 15), 0, none⟩,
        ⟨some 17, .load 3 (.tmp 16), 3, none⟩,
        ⟨some 18, .move (.tmp 1), 3, none⟩,
        ⟨some 19, .binOp .eql 3 (.tmp 17) (.tmp 18) 3, 4, none⟩])
      (.cond (.tmp 19)
        (.seq (.region false [
          ⟨some 4, .assign (.const (.bool true)), 4, none⟩])
        .ret)
        .skip)))
    (.region false [
      ⟨some 11, .move (.tmp 5), 3, none⟩,
      ⟨some 12, .binOp .add 3 (.tmp 11) (.const (.int .i64 1)) 3, 3, none⟩,
      ⟨some 5, .assign (.tmp 12), 3, none⟩]))))))
  (.seq (.region false [
  ⟨some 4, .assign (.const (.bool false)), 4, none⟩])
  .ret)))
def r34 : List ResultVar := [.tmp 4]
theorem c34 : ∃ fn, DC.body 34 = some fn ∧ scOf fn.code = s34 ∧ fn.ntmps = 20 ∧ fn.results = r34 := ⟨_, rfl, by kernel_rfl, by kernel_rfl, by kernel_rfl⟩
@[simp] theorem k34_2 : DC.keep 34 2 = some [1, 2, 5] := rfl

-- 35 emulator/drive.copied [25]
def s35 : SC := (.seq (.region false [
  ⟨some 1, .box 25 (.tmp 0), 0, none⟩,
  ⟨some 2, .alloc 25, 0, none⟩])
  (.seq (.region true [
  ⟨some 3, .fieldAddr 25 (.tmp 1) 0, 0, none⟩,
  ⟨some 4, .load 22 (.tmp 3), 22, none⟩,
  ⟨some 5, .call ⟨.value (.func 45), #[(.tmp 4)], #[22]⟩, 22, none⟩,
  ⟨some 6, .fieldAddr 25 (.tmp 1) 1, 0, none⟩,
  ⟨some 7, .load 23 (.tmp 6), 23, none⟩,
  ⟨some 8, .call ⟨.value (.func 46), #[(.tmp 7)], #[23]⟩, 23, none⟩,
  ⟨some 9, .build 25 #[(0, (.tmp 5)), (1, (.tmp 8))], 25, none⟩,
  ⟨none, .store 25 (.tmp 2) (.tmp 9), 0, none⟩])
  .ret))
def r35 : List ResultVar := [.cell 2 25]
theorem c35 : ∃ fn, DC.body 35 = some fn ∧ scOf fn.code = s35 ∧ fn.ntmps = 10 ∧ fn.results = r35 := ⟨_, rfl, by kernel_rfl, by kernel_rfl, by kernel_rfl⟩

-- 36 slices.BinarySearch[[]int,int] [23, 3]
def s36 : SC := (.seq (.region false [
  ⟨some 4, .assign (.const (.int .i64 0)), 3, none⟩,
  ⟨some 5, .assign (.const (.bool false)), 4, none⟩])
  (.seq (.region false [
  ⟨some 10, .move (.tmp 0), 23, none⟩,
  ⟨some 11, .call ⟨.builtin .len, #[(.tmp 10)], #[23]⟩, 3, none⟩,
  ⟨some 6, .assign (.tmp 11), 3, none⟩])
  (.seq (.region false [
  ⟨some 12, .move (.tmp 6), 3, none⟩,
  ⟨some 7, .assign (.const (.int .i64 0)), 3, none⟩,
  ⟨some 8, .assign (.tmp 12), 3, none⟩])
  (.seq (.block 0
  (.loop 3
    (.seq (.seq (.region false [
      ⟨some 13, .move (.tmp 7), 3, none⟩,
      ⟨some 14, .move (.tmp 8), 3, none⟩,
      ⟨some 15, .binOp .lss 3 (.tmp 13) (.tmp 14) 3, 4, none⟩])
    (.cond (.tmp 15)
      .skip
      (.exit 0)))
    (.block 1
      (.seq (.region false [
        ⟨some 16, .move (.tmp 7), 3, none⟩,
        ⟨some 17, .move (.tmp 8), 3, none⟩,
        ⟨some 18, .binOp .add 3 (.tmp 16) (.tmp 17) 3, 3, none⟩,
        ⟨some 19, .convert 3 59 (.tmp 18), 59, none⟩,
        ⟨some 20, .binOp .shr 59 (.tmp 19) (.const (.int .u64 1)) 59, 59, none⟩,
        ⟨some 21, .convert 59 3 (.tmp 20), 3, none⟩,
        ⟨some 9, .assign (.tmp 21), 3, none⟩])
      (.seq (.region false [
        ⟨some 22, .move (.tmp 0), 23, none⟩,
        ⟨some 23, .move (.tmp 9), 3, none⟩,
        ⟨some 24, .indexAddr 23 (.tmp 22) (.tmp 23), 0, none⟩,
        ⟨some 25, .load 3 (.tmp 24), 3, none⟩,
        ⟨some 26, .move (.tmp 1), 3, none⟩,
        ⟨some 27, .call ⟨.value (.func 47), #[(.tmp 25), (.tmp 26)], #[3, 3]⟩, 4, none⟩])
      (.cond (.tmp 27)
        (.region false [
          ⟨some 28, .move (.tmp 9), 3, none⟩,
          ⟨some 29, .binOp .add 3 (.tmp 28) (.const (.int .i64 1)) 3, 3, none⟩,
          ⟨some 7, .assign (.tmp 29), 3, none⟩])
        (.region false [
          ⟨some 30, .move (.tmp 9), 3, none⟩,
          ⟨some 8, .assign (.tmp 30), 3, none⟩]))))))))
  (.seq (.region false [
  ⟨some 31, .move (.tmp 7), 3, none⟩,
  ⟨some 32, .move (.tmp 7), 3, none⟩,
  ⟨some 33, .move (.tmp 6), 3, none⟩,
  ⟨some 34, .binOp .lss 3 (.tmp 32) (.tmp 33) 3, 4, none⟩,
  ⟨some 35, .move (.tmp 34), 4, none⟩,
  ⟨some 36, .move (.tmp 0), 23, (some (some 35, true))⟩,
  ⟨some 37, .move (.tmp 7), 3, (some (some 35, true))⟩,
  ⟨some 38, .indexAddr 23 (.tmp 36) (.tmp 37), 0, (some (some 35, true))⟩,
  ⟨some 39, .load 3 (.tmp 38), 3, (some (some 35, true))⟩,
  ⟨some 40, .move (.tmp 1), 3, (some (some 35, true))⟩,
  ⟨some 41, .binOp .eql 3 (.tmp 39) (.tmp 40) 3, 4, (some (some 35, true))⟩,
  ⟨some 42, .move (.tmp 41), 4, (some (some 35, true))⟩,
  ⟨some 43, .move (.tmp 0), 23, (some (some 42, false))⟩,
  ⟨some 44, .move (.tmp 7), 3, (some (some 42, false))⟩,
  ⟨some 45, .indexAddr 23 (.tmp 43) (.tmp 44), 0, (some (some 42, false))⟩,
  ⟨some 46, .load 3 (.tmp 45), 3, (some (some 42, false))⟩,
  ⟨some 47, .call ⟨.value (.func 48), #[(.tmp 46)], #[3]⟩, 4, (some (some 42, false))⟩,
  ⟨some 48, .move (.tmp 47), 4, (some (some 42, false))⟩,
  ⟨some 49, .move (.tmp 1), 3, (some (some 48, true))⟩,
  ⟨some 50, .call ⟨.value (.func 48), #[(.tmp 49)], #[3]⟩, 4, (some (some 48, true))⟩,
  ⟨some 51, .pick (.tmp 48) (.tmp 50) (.const (.bool false)), 4, (some (some 42, false))⟩,
  ⟨some 52, .pick (.tmp 42) (.const (.bool true)) (.tmp 51), 4, (some (some 35, true))⟩,
  ⟨some 53, .pick (.tmp 35) (.tmp 52) (.const (.bool false)), 4, none⟩,
  ⟨some 4, .assign (.tmp 31), 3, none⟩,
  ⟨some 5, .assign (.tmp 53), 4, none⟩])
  .ret)))))
def r36 : List ResultVar := [.tmp 4, .tmp 5]
theorem c36 : ∃ fn, DC.body 36 = some fn ∧ scOf fn.code = s36 ∧ fn.ntmps = 54 ∧ fn.results = r36 := ⟨_, rfl, by kernel_rfl, by kernel_rfl, by kernel_rfl⟩
@[simp] theorem k36_3 : DC.keep 36 3 = some [0, 1, 6, 7, 8] := rfl

-- 38 emulator/drive.fault [25, 52, 45]
def s38 : SC := (.seq (.region false [
  ⟨some 3, .box 25 (.tmp 0), 0, none⟩,
  ⟨some 5, .box 45 (.tmp 2), 0, none⟩,
  ⟨some 6, .assign (.const (.int .i64 0)), 26, none⟩])
  (.seq (.block 0
  (.seq (.region false [
    ⟨some 8, .load 25 (.tmp 3), 25, none⟩,
    ⟨some 9, .fieldAddr 45 (.tmp 5) 0, 0, none⟩,
    ⟨some 10, .load 3 (.tmp 9), 3, none⟩,
    ⟨some 11, .call ⟨.value (.func 32), #[(.tmp 8), (.tmp 10)], #[25, 3]⟩, 4, none⟩,
    ⟨some 12, .unOp .not 4 (.tmp 11), 4, none⟩,
    ⟨some 7, .assign (.tmp 12), 4, none⟩])
  (.cond (.tmp 7)
    (.seq (.region false [
      ⟨some 6, .assign (.const (.int .i64 2)), 26, none⟩])
    .ret)
    (.seq (.region false [
      ⟨some 14, .fieldAddr 45 (.tmp 5) 1, 0, none⟩,
      ⟨some 15, .load 9 (.tmp 14), 9, none⟩,
      ⟨some 16, .call ⟨.builtin .len, #[(.tmp 15)], #[9]⟩, 3, none⟩,
      ⟨some 17, .binOp .gtr 3 (.tmp 16) (.const (.int .i64 128)) 3, 4, none⟩,
      ⟨some 13, .assign (.tmp 17), 4, none⟩])
    (.cond (.tmp 13)
      (.seq (.region false [
        ⟨some 6, .assign (.const (.int .i64 7)), 26, none⟩])
      .ret)
      (.seq (.region false [
        ⟨some 19, .move (.tmp 1), 52, none⟩,
        ⟨some 20, .fieldAddr 45 (.tmp 5) 0, 0, none⟩,
        ⟨some 21, .load 3 (.tmp 20), 3, none⟩,
        ⟨some 22, .lookup 52 (.tmp 19) (.tmp 21) false, 4, none⟩,
        ⟨some 18, .assign (.tmp 22), 4, none⟩])
      (.cond (.tmp 18)
        (.seq (.region false [
          ⟨some 6, .assign (.const (.int .i64 21)), 26, none⟩])
        .ret)
        .skip)))))))
  (.seq (.region false [
  ⟨some 6, .assign (.const (.int .i64 0)), 26, none⟩])
  .ret)))
def r38 : List ResultVar := [.tmp 6]
theorem c38 : ∃ fn, DC.body 38 = some fn ∧ scOf fn.code = s38 ∧ fn.ntmps = 23 ∧ fn.results = r38 := ⟨_, rfl, by kernel_rfl, by kernel_rfl, by kernel_rfl⟩

-- 47 cmp.Less[int] [3, 3]
def s47 : SC := (.seq (.region false [
  ⟨some 4, .assign (.const (.bool false)), 4, none⟩])
  (.seq (.region false [
  ⟨some 5, .move (.tmp 0), 3, none⟩,
  ⟨some 6, .call ⟨.value (.func 56), #[(.tmp 5)], #[3]⟩, 4, none⟩,
  ⟨some 7, .move (.tmp 6), 4, none⟩,
  ⟨some 8, .move (.tmp 1), 3, (some (some 7, true))⟩,
  ⟨some 9, .call ⟨.value (.func 56), #[(.tmp 8)], #[3]⟩, 4, (some (some 7, true))⟩,
  ⟨some 10, .unOp .not 4 (.tmp 9), 4, (some (some 7, true))⟩,
  ⟨some 11, .pick (.tmp 7) (.tmp 10) (.const (.bool false)), 4, none⟩,
  ⟨some 12, .move (.tmp 11), 4, none⟩,
  ⟨some 13, .move (.tmp 0), 3, (some (some 12, false))⟩,
  ⟨some 14, .move (.tmp 1), 3, (some (some 12, false))⟩,
  ⟨some 15, .binOp .lss 3 (.tmp 13) (.tmp 14) 3, 4, (some (some 12, false))⟩,
  ⟨some 16, .pick (.tmp 12) (.const (.bool true)) (.tmp 15), 4, none⟩,
  ⟨some 4, .assign (.tmp 16), 4, none⟩])
  .ret))
def r47 : List ResultVar := [.tmp 4]
theorem c47 : ∃ fn, DC.body 47 = some fn ∧ scOf fn.code = s47 ∧ fn.ntmps = 17 ∧ fn.results = r47 := ⟨_, rfl, by kernel_rfl, by kernel_rfl, by kernel_rfl⟩

-- 48 slices.isNaN[int] [3]
def s48 : SC := (.seq (.region false [
  ⟨some 2, .assign (.const (.bool false)), 4, none⟩])
  (.seq (.region false [
  ⟨some 3, .move (.tmp 0), 3, none⟩,
  ⟨some 4, .move (.tmp 0), 3, none⟩,
  ⟨some 5, .binOp .neq 3 (.tmp 3) (.tmp 4) 3, 4, none⟩,
  ⟨some 2, .assign (.tmp 5), 4, none⟩])
  .ret))
def r48 : List ResultVar := [.tmp 2]
theorem c48 : ∃ fn, DC.body 48 = some fn ∧ scOf fn.code = s48 ∧ fn.ntmps = 6 ∧ fn.results = r48 := ⟨_, rfl, by kernel_rfl, by kernel_rfl, by kernel_rfl⟩

-- 50 slices.rotateRight[int] [23, 3]
def s50 : SC := (.region false [
  ⟨some 4, .move (.tmp 0), 23, none⟩,
  ⟨some 5, .move (.tmp 0), 23, none⟩,
  ⟨some 6, .call ⟨.builtin .len, #[(.tmp 5)], #[23]⟩, 3, none⟩,
  ⟨some 7, .move (.tmp 1), 3, none⟩,
  ⟨some 8, .binOp .sub 3 (.tmp 6) (.tmp 7) 3, 3, none⟩,
  ⟨some 9, .call ⟨.value (.func 57), #[(.tmp 4), (.tmp 8)], #[23, 3]⟩, 0, none⟩])
def r50 : List ResultVar := []
theorem c50 : ∃ fn, DC.body 50 = some fn ∧ scOf fn.code = s50 ∧ fn.ntmps = 10 ∧ fn.results = r50 := ⟨_, rfl, by kernel_rfl, by kernel_rfl, by kernel_rfl⟩

-- 51 math/bits.Mul32 [78, 78]
def s51 : SC := (.seq (.region false [
  ⟨some 4, .assign (.const (.int .u32 0)), 78, none⟩,
  ⟨some 5, .assign (.const (.int .u32 0)), 78, none⟩])
  (.seq (.region false [
  ⟨some 7, .move (.tmp 0), 78, none⟩,
  ⟨some 8, .convert 78 81 (.tmp 7), 81, none⟩,
  ⟨some 9, .move (.tmp 1), 78, none⟩,
  ⟨some 10, .convert 78 81 (.tmp 9), 81, none⟩,
  ⟨some 11, .binOp .mul 81 (.tmp 8) (.tmp 10) 81, 81, none⟩,
  ⟨some 6, .assign (.tmp 11), 81, none⟩])
  (.seq (.region false [
  ⟨some 12, .move (.tmp 6), 81, none⟩,
  ⟨some 13, .binOp .shr 81 (.tmp 12) (.const (.int .u64 32)) 59, 81, none⟩,
  ⟨some 14, .convert 81 78 (.tmp 13), 78, none⟩,
  ⟨some 15, .move (.tmp 6), 81, none⟩,
  ⟨some 16, .convert 81 78 (.tmp 15), 78, none⟩,
  ⟨some 4, .assign (.tmp 14), 78, none⟩,
  ⟨some 5, .assign (.tmp 16), 78, none⟩])
  .ret)))
def r51 : List ResultVar := [.tmp 4, .tmp 5]
theorem c51 : ∃ fn, DC.body 51 = some fn ∧ scOf fn.code = s51 ∧ fn.ntmps = 17 ∧ fn.results = r51 := ⟨_, rfl, by kernel_rfl, by kernel_rfl, by kernel_rfl⟩

-- 52 math/bits.Mul64 [81, 81]
def s52 : SC := (.seq (.region false [
  ⟨some 4, .assign (.const (.int .u64 0)), 81, none⟩,
  ⟨some 5, .assign (.const (.int .u64 0)), 81, none⟩])
  (.seq (.region false [
  ⟨some 14, .move (.tmp 0), 81, none⟩,
  ⟨some 15, .binOp .and 81 (.tmp 14) (.const (.int .u64 4294967295)) 81, 81, none⟩,
  ⟨some 6, .assign (.tmp 15), 81, none⟩])
  (.seq (.region false [
  ⟨some 16, .move (.tmp 0), 81, none⟩,
  ⟨some 17, .binOp .shr 81 (.tmp 16) (.const (.int .u64 32)) 59, 81, none⟩,
  ⟨some 7, .assign (.tmp 17), 81, none⟩])
  (.seq (.region false [
  ⟨some 18, .move (.tmp 1), 81, none⟩,
  ⟨some 19, .binOp .and 81 (.tmp 18) (.const (.int .u64 4294967295)) 81, 81, none⟩,
  ⟨some 8, .assign (.tmp 19), 81, none⟩])
  (.seq (.region false [
  ⟨some 20, .move (.tmp 1), 81, none⟩,
  ⟨some 21, .binOp .shr 81 (.tmp 20) (.const (.int .u64 32)) 59, 81, none⟩,
  ⟨some 9, .assign (.tmp 21), 81, none⟩])
  (.seq (.region false [
  ⟨some 22, .move (.tmp 6), 81, none⟩,
  ⟨some 23, .move (.tmp 8), 81, none⟩,
  ⟨some 24, .binOp .mul 81 (.tmp 22) (.tmp 23) 81, 81, none⟩,
  ⟨some 10, .assign (.tmp 24), 81, none⟩])
  (.seq (.region false [
  ⟨some 25, .move (.tmp 7), 81, none⟩,
  ⟨some 26, .move (.tmp 8), 81, none⟩,
  ⟨some 27, .binOp .mul 81 (.tmp 25) (.tmp 26) 81, 81, none⟩,
  ⟨some 28, .move (.tmp 10), 81, none⟩,
  ⟨some 29, .binOp .shr 81 (.tmp 28) (.const (.int .u64 32)) 59, 81, none⟩,
  ⟨some 30, .binOp .add 81 (.tmp 27) (.tmp 29) 81, 81, none⟩,
  ⟨some 11, .assign (.tmp 30), 81, none⟩])
  (.seq (.region false [
  ⟨some 31, .move (.tmp 11), 81, none⟩,
  ⟨some 32, .binOp .and 81 (.tmp 31) (.const (.int .u64 4294967295)) 81, 81, none⟩,
  ⟨some 12, .assign (.tmp 32), 81, none⟩])
  (.seq (.region false [
  ⟨some 33, .move (.tmp 11), 81, none⟩,
  ⟨some 34, .binOp .shr 81 (.tmp 33) (.const (.int .u64 32)) 59, 81, none⟩,
  ⟨some 13, .assign (.tmp 34), 81, none⟩])
  (.seq (.region false [
  ⟨some 35, .move (.tmp 12), 81, none⟩,
  ⟨some 36, .move (.tmp 6), 81, none⟩,
  ⟨some 37, .move (.tmp 9), 81, none⟩,
  ⟨some 38, .binOp .mul 81 (.tmp 36) (.tmp 37) 81, 81, none⟩,
  ⟨some 39, .binOp .add 81 (.tmp 35) (.tmp 38) 81, 81, none⟩,
  ⟨some 12, .assign (.tmp 39), 81, none⟩])
  (.seq (.region false [
  ⟨some 40, .move (.tmp 7), 81, none⟩,
  ⟨some 41, .move (.tmp 9), 81, none⟩,
  ⟨some 42, .binOp .mul 81 (.tmp 40) (.tmp 41) 81, 81, none⟩,
  ⟨some 43, .move (.tmp 13), 81, none⟩,
  ⟨some 44, .binOp .add 81 (.tmp 42) (.tmp 43) 81, 81, none⟩,
  ⟨some 45, .move (.tmp 12), 81, none⟩,
  ⟨some 46, .binOp .shr 81 (.tmp 45) (.const (.int .u64 32)) 59, 81, none⟩,
  ⟨some 47, .binOp .add 81 (.tmp 44) (.tmp 46) 81, 81, none⟩,
  ⟨some 4, .assign (.tmp 47), 81, none⟩])
  (.seq (.region false [
  ⟨some 48, .move (.tmp 0), 81, none⟩,
  ⟨some 49, .move (.tmp 1), 81, none⟩,
  ⟨some 50, .binOp .mul 81 (.tmp 48) (.tmp 49) 81, 81, none⟩,
  ⟨some 5, .assign (.tmp 50), 81, none⟩])
  .ret))))))))))))
def r52 : List ResultVar := [.tmp 4, .tmp 5]
theorem c52 : ∃ fn, DC.body 52 = some fn ∧ scOf fn.code = s52 ∧ fn.ntmps = 51 ∧ fn.results = r52 := ⟨_, rfl, by kernel_rfl, by kernel_rfl, by kernel_rfl⟩

-- 56 cmp.isNaN[int] [3]
def s56 : SC := (.seq (.region false [
  ⟨some 2, .assign (.const (.bool false)), 4, none⟩])
  (.seq (.region false [
  ⟨some 3, .move (.tmp 0), 3, none⟩,
  ⟨some 4, .move (.tmp 0), 3, none⟩,
  ⟨some 5, .binOp .neq 3 (.tmp 3) (.tmp 4) 3, 4, none⟩,
  ⟨some 2, .assign (.tmp 5), 4, none⟩])
  .ret))
def r56 : List ResultVar := [.tmp 2]
theorem c56 : ∃ fn, DC.body 56 = some fn ∧ scOf fn.code = s56 ∧ fn.ntmps = 6 ∧ fn.results = r56 := ⟨_, rfl, by kernel_rfl, by kernel_rfl, by kernel_rfl⟩

-- 57 slices.rotateLeft[int] [23, 3]
def s57 : SC := (.seq (.region false [
  ⟨some 4, .move (.tmp 0), 23, none⟩,
  ⟨some 5, .move (.tmp 1), 3, none⟩,
  ⟨some 6, .slice 23 (.tmp 4) none (some (.tmp 5)) none, 23, none⟩,
  ⟨some 7, .call ⟨.value (.func 60), #[(.tmp 6)], #[23]⟩, 0, none⟩])
  (.seq (.region false [
  ⟨some 8, .move (.tmp 0), 23, none⟩,
  ⟨some 9, .move (.tmp 1), 3, none⟩,
  ⟨some 10, .slice 23 (.tmp 8) (some (.tmp 9)) none none, 23, none⟩,
  ⟨some 11, .call ⟨.value (.func 60), #[(.tmp 10)], #[23]⟩, 0, none⟩])
  (.region false [
  ⟨some 12, .move (.tmp 0), 23, none⟩,
  ⟨some 13, .call ⟨.value (.func 60), #[(.tmp 12)], #[23]⟩, 0, none⟩])))
def r57 : List ResultVar := []
theorem c57 : ∃ fn, DC.body 57 = some fn ∧ scOf fn.code = s57 ∧ fn.ntmps = 14 ∧ fn.results = r57 := ⟨_, rfl, by kernel_rfl, by kernel_rfl, by kernel_rfl⟩

-- 60 slices.Reverse[[]int,int] [23]
def s60 : SC := (.seq (.region false [
  ⟨some 4, .move (.tmp 0), 23, none⟩,
  ⟨some 5, .call ⟨.builtin .len, #[(.tmp 4)], #[23]⟩, 3, none⟩,
  ⟨some 6, .binOp .sub 3 (.tmp 5) (.const (.int .i64 1)) 3, 3, none⟩,
  ⟨some 2, .assign (.const (.int .i64 0)), 3, none⟩,
  ⟨some 3, .assign (.tmp 6), 3, none⟩])
  (.block 0
  (.loop 1
    (.seq (.seq (.region false [
      ⟨some 7, .move (.tmp 2), 3, none⟩,
      ⟨some 8, .move (.tmp 3), 3, none⟩,
      ⟨some 9, .binOp .lss 3 (.tmp 7) (.tmp 8) 3, 4, none⟩])
    (.cond (.tmp 9)
      .skip
      (.exit 0)))
    (.seq (.block 1
      (.region true [
        ⟨some 14, .move (.tmp 0), 23, none⟩,
        ⟨some 15, .move (.tmp 2), 3, none⟩,
        ⟨some 16, .move (.tmp 0), 23, none⟩,
        ⟨some 17, .move (.tmp 3), 3, none⟩,
        ⟨some 18, .move (.tmp 0), 23, none⟩,
        ⟨some 19, .move (.tmp 3), 3, none⟩,
        ⟨some 20, .indexAddr 23 (.tmp 18) (.tmp 19), 0, none⟩,
        ⟨some 21, .load 3 (.tmp 20), 3, none⟩,
        ⟨some 22, .move (.tmp 0), 23, none⟩,
        ⟨some 23, .move (.tmp 2), 3, none⟩,
        ⟨some 24, .indexAddr 23 (.tmp 22) (.tmp 23), 0, none⟩,
        ⟨some 25, .load 3 (.tmp 24), 3, none⟩,
        ⟨some 26, .indexAddr 23 (.tmp 14) (.tmp 15), 0, none⟩,
        ⟨none, .store 3 (.tmp 26) (.tmp 21), 0, none⟩,
        ⟨some 27, .indexAddr 23 (.tmp 16) (.tmp 17), 0, none⟩,
        ⟨none, .store 3 (.tmp 27) (.tmp 25), 0, none⟩]))
    (.region false [
      ⟨some 10, .move (.tmp 2), 3, none⟩,
      ⟨some 11, .binOp .add 3 (.tmp 10) (.const (.int .i64 1)) 3, 3, none⟩,
      ⟨some 12, .move (.tmp 3), 3, none⟩,
      ⟨some 13, .binOp .sub 3 (.tmp 12) (.const (.int .i64 1)) 3, 3, none⟩,
      ⟨some 2, .assign (.tmp 11), 3, none⟩,
      ⟨some 3, .assign (.tmp 13), 3, none⟩]))))))
def r60 : List ResultVar := []
theorem c60 : ∃ fn, DC.body 60 = some fn ∧ scOf fn.code = s60 ∧ fn.ntmps = 28 ∧ fn.results = r60 := ⟨_, rfl, by kernel_rfl, by kernel_rfl, by kernel_rfl⟩
@[simp] theorem k60_1 : DC.keep 60 1 = some [0, 2, 3] := rfl
end Go.Abs
