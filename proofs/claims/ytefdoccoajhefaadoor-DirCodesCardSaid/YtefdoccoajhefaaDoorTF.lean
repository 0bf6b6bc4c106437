/- Proved here: facts of the types. No condition but those that each theorem states. -/
import Derived.Test.YtefdoccoajhefaaDoorDC
namespace Go.Abs
open Go.Proofs
set_option maxRecDepth 100000
set_option linter.unusedVariables false
set_option linter.unusedSimpArgs false

@[simp] theorem inf1 : Tryd.prog.info? 1 = some Tryd.t1 := by kernel_rfl
@[simp] theorem tsz1 : Tryd.t1.size = 1 := by kernel_rfl
@[simp] theorem tby1 : Tryd.t1.bytes = 8 := by kernel_rfl
@[simp] theorem agg1 : aggT Tryd.prog 1 = some false := by kernel_rfl
@[simp] theorem slot1 : slotSize Tryd.prog 1 = 0 := by kernel_rfl
attribute [simp] Tryd.underlying1
@[simp] theorem zero1 : zeroV Tryd.prog 1 = some (.nilx 1) := by kernel_rfl
@[simp] theorem inf2 : Tryd.prog.info? 2 = some Tryd.t2 := by kernel_rfl
@[simp] theorem tsz2 : Tryd.t2.size = 1 := by kernel_rfl
@[simp] theorem tby2 : Tryd.t2.bytes = 8 := by kernel_rfl
@[simp] theorem agg2 : aggT Tryd.prog 2 = some false := by kernel_rfl
@[simp] theorem slot2 : slotSize Tryd.prog 2 = 0 := by kernel_rfl
attribute [simp] Tryd.underlying2
@[simp] theorem zero2 : zeroV Tryd.prog 2 = some (.int .i64 0) := by kernel_rfl
@[simp] theorem inf3 : Tryd.prog.info? 3 = some Tryd.t3 := by kernel_rfl
@[simp] theorem tsz3 : Tryd.t3.size = 1 := by kernel_rfl
@[simp] theorem tby3 : Tryd.t3.bytes = 8 := by kernel_rfl
@[simp] theorem agg3 : aggT Tryd.prog 3 = some false := by kernel_rfl
@[simp] theorem slot3 : slotSize Tryd.prog 3 = 0 := by kernel_rfl
attribute [simp] Tryd.underlying3
@[simp] theorem zero3 : zeroV Tryd.prog 3 = some (.int .i64 0) := by kernel_rfl
@[simp] theorem inf4 : Tryd.prog.info? 4 = some Tryd.t4 := by kernel_rfl
@[simp] theorem tsz4 : Tryd.t4.size = 1 := by kernel_rfl
@[simp] theorem tby4 : Tryd.t4.bytes = 1 := by kernel_rfl
@[simp] theorem agg4 : aggT Tryd.prog 4 = some false := by kernel_rfl
@[simp] theorem slot4 : slotSize Tryd.prog 4 = 0 := by kernel_rfl
attribute [simp] Tryd.underlying4
@[simp] theorem zero4 : zeroV Tryd.prog 4 = some (.bool false) := by kernel_rfl
@[simp] theorem inf5 : Tryd.prog.info? 5 = some Tryd.t5 := by kernel_rfl
@[simp] theorem tsz5 : Tryd.t5.size = 1 := by kernel_rfl
@[simp] theorem tby5 : Tryd.t5.bytes = 1 := by kernel_rfl
@[simp] theorem agg5 : aggT Tryd.prog 5 = some false := by kernel_rfl
@[simp] theorem slot5 : slotSize Tryd.prog 5 = 0 := by kernel_rfl
attribute [simp] Tryd.underlying5
@[simp] theorem zero5 : zeroV Tryd.prog 5 = some (.int .u8 0) := by kernel_rfl
@[simp] theorem inf6 : Tryd.prog.info? 6 = some Tryd.t6 := by kernel_rfl
@[simp] theorem tsz6 : Tryd.t6.size = 1 := by kernel_rfl
@[simp] theorem tby6 : Tryd.t6.bytes = 1 := by kernel_rfl
@[simp] theorem agg6 : aggT Tryd.prog 6 = some false := by kernel_rfl
@[simp] theorem slot6 : slotSize Tryd.prog 6 = 0 := by kernel_rfl
attribute [simp] Tryd.underlying6
@[simp] theorem zero6 : zeroV Tryd.prog 6 = some (.int .u8 0) := by kernel_rfl
@[simp] theorem inf7 : Tryd.prog.info? 7 = some Tryd.t7 := by kernel_rfl
@[simp] theorem tsz7 : Tryd.t7.size = 4 := by kernel_rfl
@[simp] theorem tby7 : Tryd.t7.bytes = 24 := by kernel_rfl
@[simp] theorem agg7 : aggT Tryd.prog 7 = some true := by kernel_rfl
@[simp] theorem slot7 : slotSize Tryd.prog 7 = 0 := by kernel_rfl
attribute [simp] Tryd.underlying7
@[simp] theorem zero7 : zeroV Tryd.prog 7 = some (.agg [(.int .i64 0), (.int .i64 0), (.bool false), (.int .u8 0)]) := by kernel_rfl
@[simp] theorem slots7 : slotSizes Tryd.prog 7 = [0, 0, 0, 0] := by kernel_rfl
noncomputable def F7_0 : Field := (fieldOf Tryd.prog 7 0).getD default
@[simp] theorem fo7_0 : fieldOf Tryd.prog 7 0 = some F7_0 := by kernel_rfl
@[simp] theorem ft7_0 : F7_0.type = 2 := by kernel_rfl
@[simp] theorem fx7_0 : F7_0.offset = 0 := by kernel_rfl
noncomputable def F7_1 : Field := (fieldOf Tryd.prog 7 1).getD default
@[simp] theorem fo7_1 : fieldOf Tryd.prog 7 1 = some F7_1 := by kernel_rfl
@[simp] theorem ft7_1 : F7_1.type = 3 := by kernel_rfl
@[simp] theorem fx7_1 : F7_1.offset = 1 := by kernel_rfl
noncomputable def F7_2 : Field := (fieldOf Tryd.prog 7 2).getD default
@[simp] theorem fo7_2 : fieldOf Tryd.prog 7 2 = some F7_2 := by kernel_rfl
@[simp] theorem ft7_2 : F7_2.type = 4 := by kernel_rfl
@[simp] theorem fx7_2 : F7_2.offset = 2 := by kernel_rfl
noncomputable def F7_3 : Field := (fieldOf Tryd.prog 7 3).getD default
@[simp] theorem fo7_3 : fieldOf Tryd.prog 7 3 = some F7_3 := by kernel_rfl
@[simp] theorem ft7_3 : F7_3.type = 6 := by kernel_rfl
@[simp] theorem fx7_3 : F7_3.offset = 3 := by kernel_rfl
@[simp] theorem inf8 : Tryd.prog.info? 8 = some Tryd.t8 := by kernel_rfl
@[simp] theorem tsz8 : Tryd.t8.size = 4 := by kernel_rfl
@[simp] theorem tby8 : Tryd.t8.bytes = 24 := by kernel_rfl
@[simp] theorem agg8 : aggT Tryd.prog 8 = some true := by kernel_rfl
@[simp] theorem slot8 : slotSize Tryd.prog 8 = 0 := by kernel_rfl
attribute [simp] Tryd.underlying8
@[simp] theorem zero8 : zeroV Tryd.prog 8 = some (.agg [(.int .i64 0), (.int .i64 0), (.bool false), (.int .u8 0)]) := by kernel_rfl
@[simp] theorem slots8 : slotSizes Tryd.prog 8 = [0, 0, 0, 0] := by kernel_rfl
noncomputable def F8_0 : Field := (fieldOf Tryd.prog 8 0).getD default
@[simp] theorem fo8_0 : fieldOf Tryd.prog 8 0 = some F8_0 := by kernel_rfl
@[simp] theorem ft8_0 : F8_0.type = 2 := by kernel_rfl
@[simp] theorem fx8_0 : F8_0.offset = 0 := by kernel_rfl
noncomputable def F8_1 : Field := (fieldOf Tryd.prog 8 1).getD default
@[simp] theorem fo8_1 : fieldOf Tryd.prog 8 1 = some F8_1 := by kernel_rfl
@[simp] theorem ft8_1 : F8_1.type = 3 := by kernel_rfl
@[simp] theorem fx8_1 : F8_1.offset = 1 := by kernel_rfl
noncomputable def F8_2 : Field := (fieldOf Tryd.prog 8 2).getD default
@[simp] theorem fo8_2 : fieldOf Tryd.prog 8 2 = some F8_2 := by kernel_rfl
@[simp] theorem ft8_2 : F8_2.type = 4 := by kernel_rfl
@[simp] theorem fx8_2 : F8_2.offset = 2 := by kernel_rfl
noncomputable def F8_3 : Field := (fieldOf Tryd.prog 8 3).getD default
@[simp] theorem fo8_3 : fieldOf Tryd.prog 8 3 = some F8_3 := by kernel_rfl
@[simp] theorem ft8_3 : F8_3.type = 6 := by kernel_rfl
@[simp] theorem fx8_3 : F8_3.offset = 3 := by kernel_rfl
@[simp] theorem inf9 : Tryd.prog.info? 9 = some Tryd.t9 := by kernel_rfl
@[simp] theorem tsz9 : Tryd.t9.size = 1 := by kernel_rfl
@[simp] theorem tby9 : Tryd.t9.bytes = 16 := by kernel_rfl
@[simp] theorem agg9 : aggT Tryd.prog 9 = some false := by kernel_rfl
@[simp] theorem slot9 : slotSize Tryd.prog 9 = 0 := by kernel_rfl
attribute [simp] Tryd.underlying9
@[simp] theorem zero9 : zeroV Tryd.prog 9 = some (.str []) := by kernel_rfl
@[simp] theorem inf10 : Tryd.prog.info? 10 = some Tryd.t10 := by kernel_rfl
@[simp] theorem tsz10 : Tryd.t10.size = 1 := by kernel_rfl
@[simp] theorem tby10 : Tryd.t10.bytes = 16 := by kernel_rfl
@[simp] theorem agg10 : aggT Tryd.prog 10 = some false := by kernel_rfl
@[simp] theorem slot10 : slotSize Tryd.prog 10 = 0 := by kernel_rfl
attribute [simp] Tryd.underlying10
@[simp] theorem zero10 : zeroV Tryd.prog 10 = some (.str []) := by kernel_rfl
@[simp] theorem inf11 : Tryd.prog.info? 11 = some Tryd.t11 := by kernel_rfl
@[simp] theorem tsz11 : Tryd.t11.size = 1 := by kernel_rfl
@[simp] theorem tby11 : Tryd.t11.bytes = 16 := by kernel_rfl
@[simp] theorem agg11 : aggT Tryd.prog 11 = some false := by kernel_rfl
@[simp] theorem slot11 : slotSize Tryd.prog 11 = 0 := by kernel_rfl
attribute [simp] Tryd.underlying11
@[simp] theorem zero11 : zeroV Tryd.prog 11 = some (.str []) := by kernel_rfl
@[simp] theorem inf12 : Tryd.prog.info? 12 = some Tryd.t12 := by kernel_rfl
@[simp] theorem tsz12 : Tryd.t12.size = 1 := by kernel_rfl
@[simp] theorem tby12 : Tryd.t12.bytes = 8 := by kernel_rfl
@[simp] theorem agg12 : aggT Tryd.prog 12 = some false := by kernel_rfl
@[simp] theorem slot12 : slotSize Tryd.prog 12 = 0 := by kernel_rfl
attribute [simp] Tryd.underlying12
@[simp] theorem zero12 : zeroV Tryd.prog 12 = some (.int .u64 0) := by kernel_rfl
@[simp] theorem inf13 : Tryd.prog.info? 13 = some Tryd.t13 := by kernel_rfl
@[simp] theorem tsz13 : Tryd.t13.size = 2 := by kernel_rfl
@[simp] theorem tby13 : Tryd.t13.bytes = 24 := by kernel_rfl
@[simp] theorem agg13 : aggT Tryd.prog 13 = some true := by kernel_rfl
@[simp] theorem slot13 : slotSize Tryd.prog 13 = 0 := by kernel_rfl
attribute [simp] Tryd.underlying13
@[simp] theorem zero13 : zeroV Tryd.prog 13 = some (.agg [(.str []), (.int .u64 0)]) := by kernel_rfl
@[simp] theorem slots13 : slotSizes Tryd.prog 13 = [0, 0] := by kernel_rfl
noncomputable def F13_0 : Field := (fieldOf Tryd.prog 13 0).getD default
@[simp] theorem fo13_0 : fieldOf Tryd.prog 13 0 = some F13_0 := by kernel_rfl
@[simp] theorem ft13_0 : F13_0.type = 9 := by kernel_rfl
@[simp] theorem fx13_0 : F13_0.offset = 0 := by kernel_rfl
noncomputable def F13_1 : Field := (fieldOf Tryd.prog 13 1).getD default
@[simp] theorem fo13_1 : fieldOf Tryd.prog 13 1 = some F13_1 := by kernel_rfl
@[simp] theorem ft13_1 : F13_1.type = 12 := by kernel_rfl
@[simp] theorem fx13_1 : F13_1.offset = 1 := by kernel_rfl
@[simp] theorem inf14 : Tryd.prog.info? 14 = some Tryd.t14 := by kernel_rfl
@[simp] theorem tsz14 : Tryd.t14.size = 2 := by kernel_rfl
@[simp] theorem tby14 : Tryd.t14.bytes = 24 := by kernel_rfl
@[simp] theorem agg14 : aggT Tryd.prog 14 = some true := by kernel_rfl
@[simp] theorem slot14 : slotSize Tryd.prog 14 = 0 := by kernel_rfl
attribute [simp] Tryd.underlying14
@[simp] theorem zero14 : zeroV Tryd.prog 14 = some (.agg [(.str []), (.int .u64 0)]) := by kernel_rfl
@[simp] theorem slots14 : slotSizes Tryd.prog 14 = [0, 0] := by kernel_rfl
noncomputable def F14_0 : Field := (fieldOf Tryd.prog 14 0).getD default
@[simp] theorem fo14_0 : fieldOf Tryd.prog 14 0 = some F14_0 := by kernel_rfl
@[simp] theorem ft14_0 : F14_0.type = 9 := by kernel_rfl
@[simp] theorem fx14_0 : F14_0.offset = 0 := by kernel_rfl
noncomputable def F14_1 : Field := (fieldOf Tryd.prog 14 1).getD default
@[simp] theorem fo14_1 : fieldOf Tryd.prog 14 1 = some F14_1 := by kernel_rfl
@[simp] theorem ft14_1 : F14_1.type = 12 := by kernel_rfl
@[simp] theorem fx14_1 : F14_1.offset = 1 := by kernel_rfl
@[simp] theorem inf15 : Tryd.prog.info? 15 = some Tryd.t15 := by kernel_rfl
@[simp] theorem tsz15 : Tryd.t15.size = 1 := by kernel_rfl
@[simp] theorem tby15 : Tryd.t15.bytes = 8 := by kernel_rfl
@[simp] theorem agg15 : aggT Tryd.prog 15 = some false := by kernel_rfl
@[simp] theorem slot15 : slotSize Tryd.prog 15 = 0 := by kernel_rfl
attribute [simp] Tryd.underlying15
@[simp] theorem zero15 : zeroV Tryd.prog 15 = some (.nilx 0) := by kernel_rfl
@[simp] theorem inf16 : Tryd.prog.info? 16 = some Tryd.t16 := by kernel_rfl
@[simp] theorem tsz16 : Tryd.t16.size = 1 := by kernel_rfl
@[simp] theorem tby16 : Tryd.t16.bytes = 8 := by kernel_rfl
@[simp] theorem agg16 : aggT Tryd.prog 16 = some false := by kernel_rfl
@[simp] theorem slot16 : slotSize Tryd.prog 16 = 0 := by kernel_rfl
attribute [simp] Tryd.underlying16
@[simp] theorem zero16 : zeroV Tryd.prog 16 = some (.nilx 0) := by kernel_rfl
@[simp] theorem inf17 : Tryd.prog.info? 17 = some Tryd.t17 := by kernel_rfl
@[simp] theorem tsz17 : Tryd.t17.size = 1 := by kernel_rfl
@[simp] theorem tby17 : Tryd.t17.bytes = 8 := by kernel_rfl
@[simp] theorem agg17 : aggT Tryd.prog 17 = some false := by kernel_rfl
@[simp] theorem slot17 : slotSize Tryd.prog 17 = 0 := by kernel_rfl
attribute [simp] Tryd.underlying17
@[simp] theorem zero17 : zeroV Tryd.prog 17 = some (.nilx 0) := by kernel_rfl
@[simp] theorem inf18 : Tryd.prog.info? 18 = some Tryd.t18 := by kernel_rfl
@[simp] theorem tsz18 : Tryd.t18.size = 1 := by kernel_rfl
@[simp] theorem tby18 : Tryd.t18.bytes = 8 := by kernel_rfl
@[simp] theorem agg18 : aggT Tryd.prog 18 = some true := by kernel_rfl
@[simp] theorem slot18 : slotSize Tryd.prog 18 = 0 := by kernel_rfl
attribute [simp] Tryd.underlying18
@[simp] theorem zero18 : zeroV Tryd.prog 18 = some (.agg [(.nilx 0)]) := by kernel_rfl
@[simp] theorem slots18 : slotSizes Tryd.prog 18 = [0] := by kernel_rfl
noncomputable def F18_0 : Field := (fieldOf Tryd.prog 18 0).getD default
@[simp] theorem fo18_0 : fieldOf Tryd.prog 18 0 = some F18_0 := by kernel_rfl
@[simp] theorem ft18_0 : F18_0.type = 17 := by kernel_rfl
@[simp] theorem fx18_0 : F18_0.offset = 0 := by kernel_rfl
@[simp] theorem inf19 : Tryd.prog.info? 19 = some Tryd.t19 := by kernel_rfl
@[simp] theorem tsz19 : Tryd.t19.size = 1 := by kernel_rfl
@[simp] theorem tby19 : Tryd.t19.bytes = 8 := by kernel_rfl
@[simp] theorem agg19 : aggT Tryd.prog 19 = some true := by kernel_rfl
@[simp] theorem slot19 : slotSize Tryd.prog 19 = 0 := by kernel_rfl
attribute [simp] Tryd.underlying19
@[simp] theorem zero19 : zeroV Tryd.prog 19 = some (.agg [(.nilx 0)]) := by kernel_rfl
@[simp] theorem slots19 : slotSizes Tryd.prog 19 = [0] := by kernel_rfl
noncomputable def F19_0 : Field := (fieldOf Tryd.prog 19 0).getD default
@[simp] theorem fo19_0 : fieldOf Tryd.prog 19 0 = some F19_0 := by kernel_rfl
@[simp] theorem ft19_0 : F19_0.type = 17 := by kernel_rfl
@[simp] theorem fx19_0 : F19_0.offset = 0 := by kernel_rfl
@[simp] theorem inf21 : Tryd.prog.info? 21 = some Tryd.t21 := by kernel_rfl
@[simp] theorem tsz21 : Tryd.t21.size = 1 := by kernel_rfl
@[simp] theorem tby21 : Tryd.t21.bytes = 4 := by kernel_rfl
@[simp] theorem agg21 : aggT Tryd.prog 21 = some false := by kernel_rfl
@[simp] theorem slot21 : slotSize Tryd.prog 21 = 0 := by kernel_rfl
attribute [simp] Tryd.underlying21
@[simp] theorem zero21 : zeroV Tryd.prog 21 = some (.int .i32 0) := by kernel_rfl
@[simp] theorem inf22 : Tryd.prog.info? 22 = some Tryd.t22 := by kernel_rfl
@[simp] theorem tsz22 : Tryd.t22.size = 1 := by kernel_rfl
@[simp] theorem tby22 : Tryd.t22.bytes = 8 := by kernel_rfl
@[simp] theorem agg22 : aggT Tryd.prog 22 = some false := by kernel_rfl
@[simp] theorem slot22 : slotSize Tryd.prog 22 = 0 := by kernel_rfl
attribute [simp] Tryd.underlying22
@[simp] theorem zero22 : zeroV Tryd.prog 22 = some (.nilx 1) := by kernel_rfl
@[simp] theorem inf23 : Tryd.prog.info? 23 = some Tryd.t23 := by kernel_rfl
@[simp] theorem tsz23 : Tryd.t23.size = 1 := by kernel_rfl
@[simp] theorem tby23 : Tryd.t23.bytes = 24 := by kernel_rfl
@[simp] theorem agg23 : aggT Tryd.prog 23 = some false := by kernel_rfl
@[simp] theorem slot23 : slotSize Tryd.prog 23 = 1 := by kernel_rfl
attribute [simp] Tryd.underlying23
@[simp] theorem zero23 : zeroV Tryd.prog 23 = some .nils := by kernel_rfl
@[simp] theorem elem23 : elemT Tryd.prog 23 = some Tryd.t9 := by kernel_rfl
@[simp] theorem inf24 : Tryd.prog.info? 24 = some Tryd.t24 := by kernel_rfl
@[simp] theorem tsz24 : Tryd.t24.size = 1 := by kernel_rfl
@[simp] theorem tby24 : Tryd.t24.bytes = 8 := by kernel_rfl
@[simp] theorem agg24 : aggT Tryd.prog 24 = some false := by kernel_rfl
@[simp] theorem slot24 : slotSize Tryd.prog 24 = 0 := by kernel_rfl
attribute [simp] Tryd.underlying24
@[simp] theorem zero24 : zeroV Tryd.prog 24 = some (.int .i64 0) := by kernel_rfl
@[simp] theorem inf26 : Tryd.prog.info? 26 = some Tryd.t26 := by kernel_rfl
@[simp] theorem tsz26 : Tryd.t26.size = 1 := by kernel_rfl
@[simp] theorem tby26 : Tryd.t26.bytes = 8 := by kernel_rfl
@[simp] theorem agg26 : aggT Tryd.prog 26 = some false := by kernel_rfl
@[simp] theorem slot26 : slotSize Tryd.prog 26 = 0 := by kernel_rfl
attribute [simp] Tryd.underlying26
@[simp] theorem zero26 : zeroV Tryd.prog 26 = some (.nilx 1) := by kernel_rfl
@[simp] theorem inf27 : Tryd.prog.info? 27 = some Tryd.t27 := by kernel_rfl
@[simp] theorem tsz27 : Tryd.t27.size = 1 := by kernel_rfl
@[simp] theorem tby27 : Tryd.t27.bytes = 8 := by kernel_rfl
@[simp] theorem agg27 : aggT Tryd.prog 27 = some false := by kernel_rfl
@[simp] theorem slot27 : slotSize Tryd.prog 27 = 0 := by kernel_rfl
attribute [simp] Tryd.underlying27
@[simp] theorem zero27 : zeroV Tryd.prog 27 = some (.nilx 1) := by kernel_rfl
@[simp] theorem inf28 : Tryd.prog.info? 28 = some Tryd.t28 := by kernel_rfl
@[simp] theorem tsz28 : Tryd.t28.size = 1 := by kernel_rfl
@[simp] theorem tby28 : Tryd.t28.bytes = 24 := by kernel_rfl
@[simp] theorem agg28 : aggT Tryd.prog 28 = some false := by kernel_rfl
@[simp] theorem slot28 : slotSize Tryd.prog 28 = 2 := by kernel_rfl
attribute [simp] Tryd.underlying28
@[simp] theorem zero28 : zeroV Tryd.prog 28 = some .nils := by kernel_rfl
@[simp] theorem elem28 : elemT Tryd.prog 28 = some Tryd.t42 := by kernel_rfl
@[simp] theorem inf29 : Tryd.prog.info? 29 = some Tryd.t29 := by kernel_rfl
@[simp] theorem tsz29 : Tryd.t29.size = 1 := by kernel_rfl
@[simp] theorem tby29 : Tryd.t29.bytes = 8 := by kernel_rfl
@[simp] theorem agg29 : aggT Tryd.prog 29 = some false := by kernel_rfl
@[simp] theorem slot29 : slotSize Tryd.prog 29 = 0 := by kernel_rfl
attribute [simp] Tryd.underlying29
@[simp] theorem zero29 : zeroV Tryd.prog 29 = some (.nilx 1) := by kernel_rfl
@[simp] theorem inf31 : Tryd.prog.info? 31 = some Tryd.t31 := by kernel_rfl
@[simp] theorem tsz31 : Tryd.t31.size = 1 := by kernel_rfl
@[simp] theorem tby31 : Tryd.t31.bytes = 8 := by kernel_rfl
@[simp] theorem agg31 : aggT Tryd.prog 31 = some false := by kernel_rfl
@[simp] theorem slot31 : slotSize Tryd.prog 31 = 0 := by kernel_rfl
attribute [simp] Tryd.underlying31
@[simp] theorem zero31 : zeroV Tryd.prog 31 = some (.nilx 1) := by kernel_rfl
@[simp] theorem inf33 : Tryd.prog.info? 33 = some Tryd.t33 := by kernel_rfl
@[simp] theorem tsz33 : Tryd.t33.size = 1 := by kernel_rfl
@[simp] theorem tby33 : Tryd.t33.bytes = 8 := by kernel_rfl
@[simp] theorem agg33 : aggT Tryd.prog 33 = some false := by kernel_rfl
@[simp] theorem slot33 : slotSize Tryd.prog 33 = 0 := by kernel_rfl
attribute [simp] Tryd.underlying33
@[simp] theorem zero33 : zeroV Tryd.prog 33 = some (.nilx 1) := by kernel_rfl
@[simp] theorem inf34 : Tryd.prog.info? 34 = some Tryd.t34 := by kernel_rfl
@[simp] theorem tsz34 : Tryd.t34.size = 1 := by kernel_rfl
@[simp] theorem tby34 : Tryd.t34.bytes = 8 := by kernel_rfl
@[simp] theorem agg34 : aggT Tryd.prog 34 = some false := by kernel_rfl
@[simp] theorem slot34 : slotSize Tryd.prog 34 = 0 := by kernel_rfl
attribute [simp] Tryd.underlying34
@[simp] theorem zero34 : zeroV Tryd.prog 34 = some (.nilx 1) := by kernel_rfl
@[simp] theorem inf35 : Tryd.prog.info? 35 = some Tryd.t35 := by kernel_rfl
@[simp] theorem tsz35 : Tryd.t35.size = 1 := by kernel_rfl
@[simp] theorem tby35 : Tryd.t35.bytes = 8 := by kernel_rfl
@[simp] theorem agg35 : aggT Tryd.prog 35 = some false := by kernel_rfl
@[simp] theorem slot35 : slotSize Tryd.prog 35 = 0 := by kernel_rfl
attribute [simp] Tryd.underlying35
@[simp] theorem zero35 : zeroV Tryd.prog 35 = some (.nilx 1) := by kernel_rfl
@[simp] theorem inf37 : Tryd.prog.info? 37 = some Tryd.t37 := by kernel_rfl
@[simp] theorem tsz37 : Tryd.t37.size = 1 := by kernel_rfl
@[simp] theorem tby37 : Tryd.t37.bytes = 8 := by kernel_rfl
@[simp] theorem agg37 : aggT Tryd.prog 37 = some false := by kernel_rfl
@[simp] theorem slot37 : slotSize Tryd.prog 37 = 0 := by kernel_rfl
attribute [simp] Tryd.underlying37
@[simp] theorem zero37 : zeroV Tryd.prog 37 = some (.nilx 1) := by kernel_rfl
@[simp] theorem inf38 : Tryd.prog.info? 38 = some Tryd.t38 := by kernel_rfl
@[simp] theorem tsz38 : Tryd.t38.size = 1 := by kernel_rfl
@[simp] theorem tby38 : Tryd.t38.bytes = 8 := by kernel_rfl
@[simp] theorem agg38 : aggT Tryd.prog 38 = some false := by kernel_rfl
@[simp] theorem slot38 : slotSize Tryd.prog 38 = 0 := by kernel_rfl
attribute [simp] Tryd.underlying38
@[simp] theorem zero38 : zeroV Tryd.prog 38 = some (.nilx 1) := by kernel_rfl
@[simp] theorem inf39 : Tryd.prog.info? 39 = some Tryd.t39 := by kernel_rfl
@[simp] theorem tsz39 : Tryd.t39.size = 1 := by kernel_rfl
@[simp] theorem tby39 : Tryd.t39.bytes = 8 := by kernel_rfl
@[simp] theorem agg39 : aggT Tryd.prog 39 = some false := by kernel_rfl
@[simp] theorem slot39 : slotSize Tryd.prog 39 = 0 := by kernel_rfl
attribute [simp] Tryd.underlying39
@[simp] theorem zero39 : zeroV Tryd.prog 39 = some (.nilx 1) := by kernel_rfl
@[simp] theorem inf40 : Tryd.prog.info? 40 = some Tryd.t40 := by kernel_rfl
@[simp] theorem tsz40 : Tryd.t40.size = 1 := by kernel_rfl
@[simp] theorem tby40 : Tryd.t40.bytes = 8 := by kernel_rfl
@[simp] theorem agg40 : aggT Tryd.prog 40 = some false := by kernel_rfl
@[simp] theorem slot40 : slotSize Tryd.prog 40 = 0 := by kernel_rfl
attribute [simp] Tryd.underlying40
@[simp] theorem zero40 : zeroV Tryd.prog 40 = some (.nilx 1) := by kernel_rfl
@[simp] theorem inf41 : Tryd.prog.info? 41 = some Tryd.t41 := by kernel_rfl
@[simp] theorem tsz41 : Tryd.t41.size = 2 := by kernel_rfl
@[simp] theorem tby41 : Tryd.t41.bytes = 24 := by kernel_rfl
@[simp] theorem agg41 : aggT Tryd.prog 41 = some true := by kernel_rfl
@[simp] theorem slot41 : slotSize Tryd.prog 41 = 0 := by kernel_rfl
attribute [simp] Tryd.underlying41
@[simp] theorem zero41 : zeroV Tryd.prog 41 = some (.agg [(.str []), (.int .i64 0)]) := by kernel_rfl
@[simp] theorem slots41 : slotSizes Tryd.prog 41 = [0, 0] := by kernel_rfl
noncomputable def F41_0 : Field := (fieldOf Tryd.prog 41 0).getD default
@[simp] theorem fo41_0 : fieldOf Tryd.prog 41 0 = some F41_0 := by kernel_rfl
@[simp] theorem ft41_0 : F41_0.type = 9 := by kernel_rfl
@[simp] theorem fx41_0 : F41_0.offset = 0 := by kernel_rfl
noncomputable def F41_1 : Field := (fieldOf Tryd.prog 41 1).getD default
@[simp] theorem fo41_1 : fieldOf Tryd.prog 41 1 = some F41_1 := by kernel_rfl
@[simp] theorem ft41_1 : F41_1.type = 3 := by kernel_rfl
@[simp] theorem fx41_1 : F41_1.offset = 1 := by kernel_rfl
@[simp] theorem inf42 : Tryd.prog.info? 42 = some Tryd.t42 := by kernel_rfl
@[simp] theorem tsz42 : Tryd.t42.size = 2 := by kernel_rfl
@[simp] theorem tby42 : Tryd.t42.bytes = 24 := by kernel_rfl
@[simp] theorem agg42 : aggT Tryd.prog 42 = some true := by kernel_rfl
@[simp] theorem slot42 : slotSize Tryd.prog 42 = 0 := by kernel_rfl
attribute [simp] Tryd.underlying42
@[simp] theorem zero42 : zeroV Tryd.prog 42 = some (.agg [(.str []), (.int .i64 0)]) := by kernel_rfl
@[simp] theorem slots42 : slotSizes Tryd.prog 42 = [0, 0] := by kernel_rfl
noncomputable def F42_0 : Field := (fieldOf Tryd.prog 42 0).getD default
@[simp] theorem fo42_0 : fieldOf Tryd.prog 42 0 = some F42_0 := by kernel_rfl
@[simp] theorem ft42_0 : F42_0.type = 9 := by kernel_rfl
@[simp] theorem fx42_0 : F42_0.offset = 0 := by kernel_rfl
noncomputable def F42_1 : Field := (fieldOf Tryd.prog 42 1).getD default
@[simp] theorem fo42_1 : fieldOf Tryd.prog 42 1 = some F42_1 := by kernel_rfl
@[simp] theorem ft42_1 : F42_1.type = 3 := by kernel_rfl
@[simp] theorem fx42_1 : F42_1.offset = 1 := by kernel_rfl
@[simp] theorem inf43 : Tryd.prog.info? 43 = some Tryd.t43 := by kernel_rfl
@[simp] theorem tsz43 : Tryd.t43.size = 1 := by kernel_rfl
@[simp] theorem tby43 : Tryd.t43.bytes = 8 := by kernel_rfl
@[simp] theorem agg43 : aggT Tryd.prog 43 = some false := by kernel_rfl
@[simp] theorem slot43 : slotSize Tryd.prog 43 = 0 := by kernel_rfl
attribute [simp] Tryd.underlying43
@[simp] theorem zero43 : zeroV Tryd.prog 43 = some (.nilx 1) := by kernel_rfl
@[simp] theorem inf44 : Tryd.prog.info? 44 = some Tryd.t44 := by kernel_rfl
@[simp] theorem tsz44 : Tryd.t44.size = 1 := by kernel_rfl
@[simp] theorem tby44 : Tryd.t44.bytes = 24 := by kernel_rfl
@[simp] theorem agg44 : aggT Tryd.prog 44 = some false := by kernel_rfl
@[simp] theorem slot44 : slotSize Tryd.prog 44 = 1 := by kernel_rfl
attribute [simp] Tryd.underlying44
@[simp] theorem zero44 : zeroV Tryd.prog 44 = some .nils := by kernel_rfl
@[simp] theorem elem44 : elemT Tryd.prog 44 = some Tryd.t5 := by kernel_rfl
@[simp] theorem inf45 : Tryd.prog.info? 45 = some Tryd.t45 := by kernel_rfl
@[simp] theorem tsz45 : Tryd.t45.size = 1 := by kernel_rfl
@[simp] theorem tby45 : Tryd.t45.bytes = 8 := by kernel_rfl
@[simp] theorem agg45 : aggT Tryd.prog 45 = some false := by kernel_rfl
@[simp] theorem slot45 : slotSize Tryd.prog 45 = 0 := by kernel_rfl
attribute [simp] Tryd.underlying45
@[simp] theorem zero45 : zeroV Tryd.prog 45 = some (.nilx 1) := by kernel_rfl
@[simp] theorem inf46 : Tryd.prog.info? 46 = some Tryd.t46 := by kernel_rfl
@[simp] theorem tsz46 : Tryd.t46.size = 1 := by kernel_rfl
@[simp] theorem tby46 : Tryd.t46.bytes = 8 := by kernel_rfl
@[simp] theorem agg46 : aggT Tryd.prog 46 = some false := by kernel_rfl
@[simp] theorem slot46 : slotSize Tryd.prog 46 = 0 := by kernel_rfl
attribute [simp] Tryd.underlying46
@[simp] theorem zero46 : zeroV Tryd.prog 46 = some (.nilx 1) := by kernel_rfl
@[simp] theorem inf47 : Tryd.prog.info? 47 = some Tryd.t47 := by kernel_rfl
@[simp] theorem tsz47 : Tryd.t47.size = 1 := by kernel_rfl
@[simp] theorem tby47 : Tryd.t47.bytes = 8 := by kernel_rfl
@[simp] theorem agg47 : aggT Tryd.prog 47 = some false := by kernel_rfl
@[simp] theorem slot47 : slotSize Tryd.prog 47 = 0 := by kernel_rfl
attribute [simp] Tryd.underlying47
@[simp] theorem zero47 : zeroV Tryd.prog 47 = some (.nilx 0) := by kernel_rfl
@[simp] theorem inf48 : Tryd.prog.info? 48 = some Tryd.t48 := by kernel_rfl
@[simp] theorem tsz48 : Tryd.t48.size = 2 := by kernel_rfl
@[simp] theorem tby48 : Tryd.t48.bytes = 32 := by kernel_rfl
@[simp] theorem agg48 : aggT Tryd.prog 48 = some true := by kernel_rfl
@[simp] theorem slot48 : slotSize Tryd.prog 48 = 0 := by kernel_rfl
attribute [simp] Tryd.underlying48
@[simp] theorem zero48 : zeroV Tryd.prog 48 = some (.agg [(.nilx 0), .nils]) := by kernel_rfl
@[simp] theorem slots48 : slotSizes Tryd.prog 48 = [0, 1] := by kernel_rfl
noncomputable def F48_0 : Field := (fieldOf Tryd.prog 48 0).getD default
@[simp] theorem fo48_0 : fieldOf Tryd.prog 48 0 = some F48_0 := by kernel_rfl
@[simp] theorem ft48_0 : F48_0.type = 47 := by kernel_rfl
@[simp] theorem fx48_0 : F48_0.offset = 0 := by kernel_rfl
noncomputable def F48_1 : Field := (fieldOf Tryd.prog 48 1).getD default
@[simp] theorem fo48_1 : fieldOf Tryd.prog 48 1 = some F48_1 := by kernel_rfl
@[simp] theorem ft48_1 : F48_1.type = 44 := by kernel_rfl
@[simp] theorem fx48_1 : F48_1.offset = 1 := by kernel_rfl
@[simp] theorem inf49 : Tryd.prog.info? 49 = some Tryd.t49 := by kernel_rfl
@[simp] theorem tsz49 : Tryd.t49.size = 2 := by kernel_rfl
@[simp] theorem tby49 : Tryd.t49.bytes = 32 := by kernel_rfl
@[simp] theorem agg49 : aggT Tryd.prog 49 = some true := by kernel_rfl
@[simp] theorem slot49 : slotSize Tryd.prog 49 = 0 := by kernel_rfl
attribute [simp] Tryd.underlying49
@[simp] theorem zero49 : zeroV Tryd.prog 49 = some (.agg [(.nilx 0), .nils]) := by kernel_rfl
@[simp] theorem slots49 : slotSizes Tryd.prog 49 = [0, 1] := by kernel_rfl
noncomputable def F49_0 : Field := (fieldOf Tryd.prog 49 0).getD default
@[simp] theorem fo49_0 : fieldOf Tryd.prog 49 0 = some F49_0 := by kernel_rfl
@[simp] theorem ft49_0 : F49_0.type = 47 := by kernel_rfl
@[simp] theorem fx49_0 : F49_0.offset = 0 := by kernel_rfl
noncomputable def F49_1 : Field := (fieldOf Tryd.prog 49 1).getD default
@[simp] theorem fo49_1 : fieldOf Tryd.prog 49 1 = some F49_1 := by kernel_rfl
@[simp] theorem ft49_1 : F49_1.type = 44 := by kernel_rfl
@[simp] theorem fx49_1 : F49_1.offset = 1 := by kernel_rfl
@[simp] theorem inf53 : Tryd.prog.info? 53 = some Tryd.t53 := by kernel_rfl
@[simp] theorem tsz53 : Tryd.t53.size = 1 := by kernel_rfl
@[simp] theorem tby53 : Tryd.t53.bytes = 8 := by kernel_rfl
@[simp] theorem agg53 : aggT Tryd.prog 53 = some false := by kernel_rfl
@[simp] theorem slot53 : slotSize Tryd.prog 53 = 0 := by kernel_rfl
attribute [simp] Tryd.underlying53
@[simp] theorem zero53 : zeroV Tryd.prog 53 = some (.nilx 1) := by kernel_rfl
@[simp] theorem inf54 : Tryd.prog.info? 54 = some Tryd.t54 := by kernel_rfl
@[simp] theorem tsz54 : Tryd.t54.size = 1 := by kernel_rfl
@[simp] theorem tby54 : Tryd.t54.bytes = 8 := by kernel_rfl
@[simp] theorem agg54 : aggT Tryd.prog 54 = some false := by kernel_rfl
@[simp] theorem slot54 : slotSize Tryd.prog 54 = 0 := by kernel_rfl
attribute [simp] Tryd.underlying54
@[simp] theorem zero54 : zeroV Tryd.prog 54 = some (.nilx 1) := by kernel_rfl
@[simp] theorem inf55 : Tryd.prog.info? 55 = some Tryd.t55 := by kernel_rfl
@[simp] theorem tsz55 : Tryd.t55.size = 1 := by kernel_rfl
@[simp] theorem tby55 : Tryd.t55.bytes = 8 := by kernel_rfl
@[simp] theorem agg55 : aggT Tryd.prog 55 = some false := by kernel_rfl
@[simp] theorem slot55 : slotSize Tryd.prog 55 = 0 := by kernel_rfl
attribute [simp] Tryd.underlying55
@[simp] theorem zero55 : zeroV Tryd.prog 55 = some (.nilx 1) := by kernel_rfl
@[simp] theorem inf56 : Tryd.prog.info? 56 = some Tryd.t56 := by kernel_rfl
@[simp] theorem tsz56 : Tryd.t56.size = 1 := by kernel_rfl
@[simp] theorem tby56 : Tryd.t56.bytes = 8 := by kernel_rfl
@[simp] theorem agg56 : aggT Tryd.prog 56 = some false := by kernel_rfl
@[simp] theorem slot56 : slotSize Tryd.prog 56 = 0 := by kernel_rfl
attribute [simp] Tryd.underlying56
@[simp] theorem zero56 : zeroV Tryd.prog 56 = some (.nilx 1) := by kernel_rfl
@[simp] theorem inf58 : Tryd.prog.info? 58 = some Tryd.t58 := by kernel_rfl
@[simp] theorem tsz58 : Tryd.t58.size = 1 := by kernel_rfl
@[simp] theorem tby58 : Tryd.t58.bytes = 8 := by kernel_rfl
@[simp] theorem agg58 : aggT Tryd.prog 58 = some false := by kernel_rfl
@[simp] theorem slot58 : slotSize Tryd.prog 58 = 0 := by kernel_rfl
attribute [simp] Tryd.underlying58
@[simp] theorem zero58 : zeroV Tryd.prog 58 = some (.nilx 1) := by kernel_rfl
@[simp] theorem inf59 : Tryd.prog.info? 59 = some Tryd.t59 := by kernel_rfl
@[simp] theorem tsz59 : Tryd.t59.size = 1 := by kernel_rfl
@[simp] theorem tby59 : Tryd.t59.bytes = 8 := by kernel_rfl
@[simp] theorem agg59 : aggT Tryd.prog 59 = some false := by kernel_rfl
@[simp] theorem slot59 : slotSize Tryd.prog 59 = 0 := by kernel_rfl
attribute [simp] Tryd.underlying59
@[simp] theorem zero59 : zeroV Tryd.prog 59 = some (.nilx 1) := by kernel_rfl
@[simp] theorem inf60 : Tryd.prog.info? 60 = some Tryd.t60 := by kernel_rfl
@[simp] theorem tsz60 : Tryd.t60.size = 1 := by kernel_rfl
@[simp] theorem tby60 : Tryd.t60.bytes = 8 := by kernel_rfl
@[simp] theorem agg60 : aggT Tryd.prog 60 = some false := by kernel_rfl
@[simp] theorem slot60 : slotSize Tryd.prog 60 = 0 := by kernel_rfl
attribute [simp] Tryd.underlying60
@[simp] theorem zero60 : zeroV Tryd.prog 60 = some (.nilx 1) := by kernel_rfl
@[simp] theorem inf61 : Tryd.prog.info? 61 = some Tryd.t61 := by kernel_rfl
@[simp] theorem tsz61 : Tryd.t61.size = 1 := by kernel_rfl
@[simp] theorem tby61 : Tryd.t61.bytes = 8 := by kernel_rfl
@[simp] theorem agg61 : aggT Tryd.prog 61 = some false := by kernel_rfl
@[simp] theorem slot61 : slotSize Tryd.prog 61 = 0 := by kernel_rfl
attribute [simp] Tryd.underlying61
@[simp] theorem zero61 : zeroV Tryd.prog 61 = some (.nilx 1) := by kernel_rfl
@[simp] theorem inf62 : Tryd.prog.info? 62 = some Tryd.t62 := by kernel_rfl
@[simp] theorem tsz62 : Tryd.t62.size = 1 := by kernel_rfl
@[simp] theorem tby62 : Tryd.t62.bytes = 8 := by kernel_rfl
@[simp] theorem agg62 : aggT Tryd.prog 62 = some false := by kernel_rfl
@[simp] theorem slot62 : slotSize Tryd.prog 62 = 0 := by kernel_rfl
attribute [simp] Tryd.underlying62
@[simp] theorem zero62 : zeroV Tryd.prog 62 = some (.nilx 1) := by kernel_rfl
@[simp] theorem inf63 : Tryd.prog.info? 63 = some Tryd.t63 := by kernel_rfl
@[simp] theorem tsz63 : Tryd.t63.size = 1 := by kernel_rfl
@[simp] theorem tby63 : Tryd.t63.bytes = 8 := by kernel_rfl
@[simp] theorem agg63 : aggT Tryd.prog 63 = some false := by kernel_rfl
@[simp] theorem slot63 : slotSize Tryd.prog 63 = 0 := by kernel_rfl
attribute [simp] Tryd.underlying63
@[simp] theorem zero63 : zeroV Tryd.prog 63 = some (.nilx 1) := by kernel_rfl
@[simp] theorem inf64 : Tryd.prog.info? 64 = some Tryd.t64 := by kernel_rfl
@[simp] theorem tsz64 : Tryd.t64.size = 1 := by kernel_rfl
@[simp] theorem tby64 : Tryd.t64.bytes = 8 := by kernel_rfl
@[simp] theorem agg64 : aggT Tryd.prog 64 = some false := by kernel_rfl
@[simp] theorem slot64 : slotSize Tryd.prog 64 = 0 := by kernel_rfl
attribute [simp] Tryd.underlying64
@[simp] theorem zero64 : zeroV Tryd.prog 64 = some (.nilx 1) := by kernel_rfl
@[simp] theorem inf66 : Tryd.prog.info? 66 = some Tryd.t66 := by kernel_rfl
@[simp] theorem tsz66 : Tryd.t66.size = 1 := by kernel_rfl
@[simp] theorem tby66 : Tryd.t66.bytes = 8 := by kernel_rfl
@[simp] theorem agg66 : aggT Tryd.prog 66 = some false := by kernel_rfl
@[simp] theorem slot66 : slotSize Tryd.prog 66 = 0 := by kernel_rfl
attribute [simp] Tryd.underlying66
@[simp] theorem zero66 : zeroV Tryd.prog 66 = some (.nilx 1) := by kernel_rfl
@[simp] theorem inf67 : Tryd.prog.info? 67 = some Tryd.t67 := by kernel_rfl
@[simp] theorem tsz67 : Tryd.t67.size = 1 := by kernel_rfl
@[simp] theorem tby67 : Tryd.t67.bytes = 8 := by kernel_rfl
@[simp] theorem agg67 : aggT Tryd.prog 67 = some false := by kernel_rfl
@[simp] theorem slot67 : slotSize Tryd.prog 67 = 0 := by kernel_rfl
attribute [simp] Tryd.underlying67
@[simp] theorem zero67 : zeroV Tryd.prog 67 = some (.int .u64 0) := by kernel_rfl
@[simp] theorem inf69 : Tryd.prog.info? 69 = some Tryd.t69 := by kernel_rfl
@[simp] theorem tsz69 : Tryd.t69.size = 1 := by kernel_rfl
@[simp] theorem tby69 : Tryd.t69.bytes = 8 := by kernel_rfl
@[simp] theorem agg69 : aggT Tryd.prog 69 = some false := by kernel_rfl
@[simp] theorem slot69 : slotSize Tryd.prog 69 = 0 := by kernel_rfl
attribute [simp] Tryd.underlying69
@[simp] theorem zero69 : zeroV Tryd.prog 69 = some (.nilx 1) := by kernel_rfl
@[simp] theorem inf70 : Tryd.prog.info? 70 = some Tryd.t70 := by kernel_rfl
@[simp] theorem tsz70 : Tryd.t70.size = 1 := by kernel_rfl
@[simp] theorem tby70 : Tryd.t70.bytes = 8 := by kernel_rfl
@[simp] theorem agg70 : aggT Tryd.prog 70 = some false := by kernel_rfl
@[simp] theorem slot70 : slotSize Tryd.prog 70 = 0 := by kernel_rfl
attribute [simp] Tryd.underlying70
@[simp] theorem zero70 : zeroV Tryd.prog 70 = some (.nilx 1) := by kernel_rfl
@[simp] theorem inf71 : Tryd.prog.info? 71 = some Tryd.t71 := by kernel_rfl
@[simp] theorem tsz71 : Tryd.t71.size = 1 := by kernel_rfl
@[simp] theorem tby71 : Tryd.t71.bytes = 8 := by kernel_rfl
@[simp] theorem agg71 : aggT Tryd.prog 71 = some false := by kernel_rfl
@[simp] theorem slot71 : slotSize Tryd.prog 71 = 0 := by kernel_rfl
attribute [simp] Tryd.underlying71
@[simp] theorem zero71 : zeroV Tryd.prog 71 = some (.nilx 1) := by kernel_rfl
@[simp] theorem inf72 : Tryd.prog.info? 72 = some Tryd.t72 := by kernel_rfl
@[simp] theorem tsz72 : Tryd.t72.size = 1 := by kernel_rfl
@[simp] theorem tby72 : Tryd.t72.bytes = 8 := by kernel_rfl
@[simp] theorem agg72 : aggT Tryd.prog 72 = some false := by kernel_rfl
@[simp] theorem slot72 : slotSize Tryd.prog 72 = 0 := by kernel_rfl
attribute [simp] Tryd.underlying72
@[simp] theorem zero72 : zeroV Tryd.prog 72 = some (.nilx 1) := by kernel_rfl
@[simp] theorem inf73 : Tryd.prog.info? 73 = some Tryd.t73 := by kernel_rfl
@[simp] theorem tsz73 : Tryd.t73.size = 1 := by kernel_rfl
@[simp] theorem tby73 : Tryd.t73.bytes = 8 := by kernel_rfl
@[simp] theorem agg73 : aggT Tryd.prog 73 = some false := by kernel_rfl
@[simp] theorem slot73 : slotSize Tryd.prog 73 = 0 := by kernel_rfl
attribute [simp] Tryd.underlying73
@[simp] theorem zero73 : zeroV Tryd.prog 73 = some (.nilx 0) := by kernel_rfl
@[simp] theorem inf74 : Tryd.prog.info? 74 = some Tryd.t74 := by kernel_rfl
@[simp] theorem tsz74 : Tryd.t74.size = 1 := by kernel_rfl
@[simp] theorem tby74 : Tryd.t74.bytes = 8 := by kernel_rfl
@[simp] theorem agg74 : aggT Tryd.prog 74 = some false := by kernel_rfl
@[simp] theorem slot74 : slotSize Tryd.prog 74 = 0 := by kernel_rfl
attribute [simp] Tryd.underlying74
@[simp] theorem zero74 : zeroV Tryd.prog 74 = some (.nilx 1) := by kernel_rfl
@[simp] theorem inf75 : Tryd.prog.info? 75 = some Tryd.t75 := by kernel_rfl
@[simp] theorem tsz75 : Tryd.t75.size = 1 := by kernel_rfl
@[simp] theorem tby75 : Tryd.t75.bytes = 8 := by kernel_rfl
@[simp] theorem agg75 : aggT Tryd.prog 75 = some false := by kernel_rfl
@[simp] theorem slot75 : slotSize Tryd.prog 75 = 0 := by kernel_rfl
attribute [simp] Tryd.underlying75
@[simp] theorem zero75 : zeroV Tryd.prog 75 = some (.nilx 1) := by kernel_rfl
@[simp] theorem inf76 : Tryd.prog.info? 76 = some Tryd.t76 := by kernel_rfl
@[simp] theorem tsz76 : Tryd.t76.size = 256 := by kernel_rfl
@[simp] theorem tby76 : Tryd.t76.bytes = 256 := by kernel_rfl
@[simp] theorem agg76 : aggT Tryd.prog 76 = some true := by kernel_rfl
@[simp] theorem slot76 : slotSize Tryd.prog 76 = 0 := by kernel_rfl
attribute [simp] Tryd.underlying76
@[simp] theorem zero76 : zeroV Tryd.prog 76 = some (.agg [(.bool false), (.bool false), (.bool false), (.bool false), (.bool false), (.bool false), (.bool false), (.bool false), (.bool false), (.bool false), (.bool false), (.bool false), (.bool false), (.bool false), (.bool false), (.bool false), (.bool false), (.bool false), (.bool false), (.bool false), (.bool false), (.bool false), (.bool false), (.bool false), (.bool false), (.bool false), (.bool false), (.bool false), (.bool false), (.bool false), (.bool false), (.bool false), (.bool false), (.bool false), (.bool false), (.bool false), (.bool false), (.bool false), (.bool false), (.bool false), (.bool false), (.bool false), (.bool false), (.bool false), (.bool false), (.bool false), (.bool false), (.bool false), (.bool false), (.bool false), (.bool false), (.bool false), (.bool false), (.bool false), (.bool false), (.bool false), (.bool false), (.bool false), (.bool false), (.bool false), (.bool false), (.bool false), (.bool false), (.bool false), (.bool false), (.bool false), (.bool false), (.bool false), (.bool false), (.bool false), (.bool false), (.bool false), (.bool false), (.bool false), (.bool false), (.bool false), (.bool false), (.bool false), (.bool false), (.bool false), (.bool false), (.bool false), (.bool false), (.bool false), (.bool false), (.bool false), (.bool false), (.bool false), (.bool false), (.bool false), (.bool false), (.bool false), (.bool false), (.bool false), (.bool false), (.bool false), (.bool false), (.bool false), (.bool false), (.bool false), (.bool false), (.bool false), (.bool false), (.bool false), (.bool false), (.bool false), (.bool false), (.bool false), (.bool false), (.bool false), (.bool false), (.bool false), (.bool false), (.bool false), (.bool false), (.bool false), (.bool false), (.bool false), (.bool false), (.bool false), (.bool false), (.bool false), (.bool false), (.bool false), (.bool false), (.bool false), (.bool false), (.bool false), (.bool false), (.bool false), (.bool false), (.bool false), (.bool false), (.bool false), (.bool false), (.bool false), (.bool false), (.bool false), (.bool false), (.bool false), (.bool false), (.bool false), (.bool false), (.bool false), (.bool false), (.bool false), (.bool false), (.bool false), (.bool false), (.bool false), (.bool false), (.bool false), (.bool false), (.bool false), (.bool false), (.bool false), (.bool false), (.bool false), (.bool false), (.bool false), (.bool false), (.bool false), (.bool false), (.bool false), (.bool false), (.bool false), (.bool false), (.bool false), (.bool false), (.bool false), (.bool false), (.bool false), (.bool false), (.bool false), (.bool false), (.bool false), (.bool false), (.bool false), (.bool false), (.bool false), (.bool false), (.bool false), (.bool false), (.bool false), (.bool false), (.bool false), (.bool false), (.bool false), (.bool false), (.bool false), (.bool false), (.bool false), (.bool false), (.bool false), (.bool false), (.bool false), (.bool false), (.bool false), (.bool false), (.bool false), (.bool false), (.bool false), (.bool false), (.bool false), (.bool false), (.bool false), (.bool false), (.bool false), (.bool false), (.bool false), (.bool false), (.bool false), (.bool false), (.bool false), (.bool false), (.bool false), (.bool false), (.bool false), (.bool false), (.bool false), (.bool false), (.bool false), (.bool false), (.bool false), (.bool false), (.bool false), (.bool false), (.bool false), (.bool false), (.bool false), (.bool false), (.bool false), (.bool false), (.bool false), (.bool false), (.bool false), (.bool false), (.bool false), (.bool false), (.bool false), (.bool false), (.bool false), (.bool false), (.bool false), (.bool false), (.bool false), (.bool false), (.bool false), (.bool false), (.bool false), (.bool false), (.bool false), (.bool false), (.bool false), (.bool false), (.bool false)]) := by kernel_rfl
@[simp] theorem inf77 : Tryd.prog.info? 77 = some Tryd.t77 := by kernel_rfl
@[simp] theorem tsz77 : Tryd.t77.size = 256 := by kernel_rfl
@[simp] theorem tby77 : Tryd.t77.bytes = 256 := by kernel_rfl
@[simp] theorem agg77 : aggT Tryd.prog 77 = some true := by kernel_rfl
@[simp] theorem slot77 : slotSize Tryd.prog 77 = 0 := by kernel_rfl
attribute [simp] Tryd.underlying77
@[simp] theorem zero77 : zeroV Tryd.prog 77 = some (.agg [(.bool false), (.bool false), (.bool false), (.bool false), (.bool false), (.bool false), (.bool false), (.bool false), (.bool false), (.bool false), (.bool false), (.bool false), (.bool false), (.bool false), (.bool false), (.bool false), (.bool false), (.bool false), (.bool false), (.bool false), (.bool false), (.bool false), (.bool false), (.bool false), (.bool false), (.bool false), (.bool false), (.bool false), (.bool false), (.bool false), (.bool false), (.bool false), (.bool false), (.bool false), (.bool false), (.bool false), (.bool false), (.bool false), (.bool false), (.bool false), (.bool false), (.bool false), (.bool false), (.bool false), (.bool false), (.bool false), (.bool false), (.bool false), (.bool false), (.bool false), (.bool false), (.bool false), (.bool false), (.bool false), (.bool false), (.bool false), (.bool false), (.bool false), (.bool false), (.bool false), (.bool false), (.bool false), (.bool false), (.bool false), (.bool false), (.bool false), (.bool false), (.bool false), (.bool false), (.bool false), (.bool false), (.bool false), (.bool false), (.bool false), (.bool false), (.bool false), (.bool false), (.bool false), (.bool false), (.bool false), (.bool false), (.bool false), (.bool false), (.bool false), (.bool false), (.bool false), (.bool false), (.bool false), (.bool false), (.bool false), (.bool false), (.bool false), (.bool false), (.bool false), (.bool false), (.bool false), (.bool false), (.bool false), (.bool false), (.bool false), (.bool false), (.bool false), (.bool false), (.bool false), (.bool false), (.bool false), (.bool false), (.bool false), (.bool false), (.bool false), (.bool false), (.bool false), (.bool false), (.bool false), (.bool false), (.bool false), (.bool false), (.bool false), (.bool false), (.bool false), (.bool false), (.bool false), (.bool false), (.bool false), (.bool false), (.bool false), (.bool false), (.bool false), (.bool false), (.bool false), (.bool false), (.bool false), (.bool false), (.bool false), (.bool false), (.bool false), (.bool false), (.bool false), (.bool false), (.bool false), (.bool false), (.bool false), (.bool false), (.bool false), (.bool false), (.bool false), (.bool false), (.bool false), (.bool false), (.bool false), (.bool false), (.bool false), (.bool false), (.bool false), (.bool false), (.bool false), (.bool false), (.bool false), (.bool false), (.bool false), (.bool false), (.bool false), (.bool false), (.bool false), (.bool false), (.bool false), (.bool false), (.bool false), (.bool false), (.bool false), (.bool false), (.bool false), (.bool false), (.bool false), (.bool false), (.bool false), (.bool false), (.bool false), (.bool false), (.bool false), (.bool false), (.bool false), (.bool false), (.bool false), (.bool false), (.bool false), (.bool false), (.bool false), (.bool false), (.bool false), (.bool false), (.bool false), (.bool false), (.bool false), (.bool false), (.bool false), (.bool false), (.bool false), (.bool false), (.bool false), (.bool false), (.bool false), (.bool false), (.bool false), (.bool false), (.bool false), (.bool false), (.bool false), (.bool false), (.bool false), (.bool false), (.bool false), (.bool false), (.bool false), (.bool false), (.bool false), (.bool false), (.bool false), (.bool false), (.bool false), (.bool false), (.bool false), (.bool false), (.bool false), (.bool false), (.bool false), (.bool false), (.bool false), (.bool false), (.bool false), (.bool false), (.bool false), (.bool false), (.bool false), (.bool false), (.bool false), (.bool false), (.bool false), (.bool false), (.bool false), (.bool false), (.bool false), (.bool false), (.bool false), (.bool false), (.bool false), (.bool false), (.bool false), (.bool false), (.bool false), (.bool false), (.bool false), (.bool false), (.bool false), (.bool false), (.bool false)]) := by kernel_rfl
@[simp] theorem inf79 : Tryd.prog.info? 79 = some Tryd.t79 := by kernel_rfl
@[simp] theorem tsz79 : Tryd.t79.size = 1 := by kernel_rfl
@[simp] theorem tby79 : Tryd.t79.bytes = 8 := by kernel_rfl
@[simp] theorem agg79 : aggT Tryd.prog 79 = some false := by kernel_rfl
@[simp] theorem slot79 : slotSize Tryd.prog 79 = 0 := by kernel_rfl
attribute [simp] Tryd.underlying79
@[simp] theorem zero79 : zeroV Tryd.prog 79 = some (.nilx 1) := by kernel_rfl
@[simp] theorem inf80 : Tryd.prog.info? 80 = some Tryd.t80 := by kernel_rfl
@[simp] theorem tsz80 : Tryd.t80.size = 1 := by kernel_rfl
@[simp] theorem tby80 : Tryd.t80.bytes = 8 := by kernel_rfl
@[simp] theorem agg80 : aggT Tryd.prog 80 = some false := by kernel_rfl
@[simp] theorem slot80 : slotSize Tryd.prog 80 = 0 := by kernel_rfl
attribute [simp] Tryd.underlying80
@[simp] theorem zero80 : zeroV Tryd.prog 80 = some (.nilx 1) := by kernel_rfl
@[simp] theorem inf81 : Tryd.prog.info? 81 = some Tryd.t81 := by kernel_rfl
@[simp] theorem tsz81 : Tryd.t81.size = 1 := by kernel_rfl
@[simp] theorem tby81 : Tryd.t81.bytes = 8 := by kernel_rfl
@[simp] theorem agg81 : aggT Tryd.prog 81 = some false := by kernel_rfl
@[simp] theorem slot81 : slotSize Tryd.prog 81 = 0 := by kernel_rfl
attribute [simp] Tryd.underlying81
@[simp] theorem zero81 : zeroV Tryd.prog 81 = some (.nilx 0) := by kernel_rfl
@[simp] theorem inf82 : Tryd.prog.info? 82 = some Tryd.t82 := by kernel_rfl
@[simp] theorem tsz82 : Tryd.t82.size = 1 := by kernel_rfl
@[simp] theorem tby82 : Tryd.t82.bytes = 8 := by kernel_rfl
@[simp] theorem agg82 : aggT Tryd.prog 82 = some false := by kernel_rfl
@[simp] theorem slot82 : slotSize Tryd.prog 82 = 0 := by kernel_rfl
attribute [simp] Tryd.underlying82
@[simp] theorem zero82 : zeroV Tryd.prog 82 = some (.nilx 1) := by kernel_rfl
@[simp] theorem inf83 : Tryd.prog.info? 83 = some Tryd.t83 := by kernel_rfl
@[simp] theorem tsz83 : Tryd.t83.size = 1 := by kernel_rfl
@[simp] theorem tby83 : Tryd.t83.bytes = 8 := by kernel_rfl
@[simp] theorem agg83 : aggT Tryd.prog 83 = some false := by kernel_rfl
@[simp] theorem slot83 : slotSize Tryd.prog 83 = 0 := by kernel_rfl
attribute [simp] Tryd.underlying83
@[simp] theorem zero83 : zeroV Tryd.prog 83 = some (.nilx 1) := by kernel_rfl
@[simp] theorem inf84 : Tryd.prog.info? 84 = some Tryd.t84 := by kernel_rfl
@[simp] theorem tsz84 : Tryd.t84.size = 1 := by kernel_rfl
@[simp] theorem tby84 : Tryd.t84.bytes = 8 := by kernel_rfl
@[simp] theorem agg84 : aggT Tryd.prog 84 = some false := by kernel_rfl
@[simp] theorem slot84 : slotSize Tryd.prog 84 = 0 := by kernel_rfl
attribute [simp] Tryd.underlying84
@[simp] theorem zero84 : zeroV Tryd.prog 84 = some (.nilx 1) := by kernel_rfl
@[simp] theorem inf85 : Tryd.prog.info? 85 = some Tryd.t85 := by kernel_rfl
@[simp] theorem tsz85 : Tryd.t85.size = 1 := by kernel_rfl
@[simp] theorem tby85 : Tryd.t85.bytes = 8 := by kernel_rfl
@[simp] theorem agg85 : aggT Tryd.prog 85 = some false := by kernel_rfl
@[simp] theorem slot85 : slotSize Tryd.prog 85 = 0 := by kernel_rfl
attribute [simp] Tryd.underlying85
@[simp] theorem zero85 : zeroV Tryd.prog 85 = some (.nilx 1) := by kernel_rfl
@[simp] theorem inf87 : Tryd.prog.info? 87 = some Tryd.t87 := by kernel_rfl
@[simp] theorem tsz87 : Tryd.t87.size = 1 := by kernel_rfl
@[simp] theorem tby87 : Tryd.t87.bytes = 8 := by kernel_rfl
@[simp] theorem agg87 : aggT Tryd.prog 87 = some false := by kernel_rfl
@[simp] theorem slot87 : slotSize Tryd.prog 87 = 0 := by kernel_rfl
attribute [simp] Tryd.underlying87
@[simp] theorem zero87 : zeroV Tryd.prog 87 = some (.nilx 1) := by kernel_rfl
@[simp] theorem inf88 : Tryd.prog.info? 88 = some Tryd.t88 := by kernel_rfl
@[simp] theorem tsz88 : Tryd.t88.size = 1 := by kernel_rfl
@[simp] theorem tby88 : Tryd.t88.bytes = 4 := by kernel_rfl
@[simp] theorem agg88 : aggT Tryd.prog 88 = some false := by kernel_rfl
@[simp] theorem slot88 : slotSize Tryd.prog 88 = 0 := by kernel_rfl
attribute [simp] Tryd.underlying88
@[simp] theorem zero88 : zeroV Tryd.prog 88 = some (.int .u32 0) := by kernel_rfl
@[simp] theorem inf90 : Tryd.prog.info? 90 = some Tryd.t90 := by kernel_rfl
@[simp] theorem tsz90 : Tryd.t90.size = 1 := by kernel_rfl
@[simp] theorem tby90 : Tryd.t90.bytes = 8 := by kernel_rfl
@[simp] theorem agg90 : aggT Tryd.prog 90 = some false := by kernel_rfl
@[simp] theorem slot90 : slotSize Tryd.prog 90 = 0 := by kernel_rfl
attribute [simp] Tryd.underlying90
@[simp] theorem zero90 : zeroV Tryd.prog 90 = some (.nilx 1) := by kernel_rfl
@[simp] theorem inf91 : Tryd.prog.info? 91 = some Tryd.t91 := by kernel_rfl
@[simp] theorem tsz91 : Tryd.t91.size = 1 := by kernel_rfl
@[simp] theorem tby91 : Tryd.t91.bytes = 8 := by kernel_rfl
@[simp] theorem agg91 : aggT Tryd.prog 91 = some false := by kernel_rfl
@[simp] theorem slot91 : slotSize Tryd.prog 91 = 0 := by kernel_rfl
attribute [simp] Tryd.underlying91
@[simp] theorem zero91 : zeroV Tryd.prog 91 = some (.int .u64 0) := by kernel_rfl
@[simp] theorem inf93 : Tryd.prog.info? 93 = some Tryd.t93 := by kernel_rfl
@[simp] theorem tsz93 : Tryd.t93.size = 1 := by kernel_rfl
@[simp] theorem tby93 : Tryd.t93.bytes = 8 := by kernel_rfl
@[simp] theorem agg93 : aggT Tryd.prog 93 = some false := by kernel_rfl
@[simp] theorem slot93 : slotSize Tryd.prog 93 = 0 := by kernel_rfl
attribute [simp] Tryd.underlying93
@[simp] theorem zero93 : zeroV Tryd.prog 93 = some (.nilx 1) := by kernel_rfl
@[simp] theorem inf94 : Tryd.prog.info? 94 = some Tryd.t94 := by kernel_rfl
@[simp] theorem tsz94 : Tryd.t94.size = 1 := by kernel_rfl
@[simp] theorem tby94 : Tryd.t94.bytes = 8 := by kernel_rfl
@[simp] theorem agg94 : aggT Tryd.prog 94 = some false := by kernel_rfl
@[simp] theorem slot94 : slotSize Tryd.prog 94 = 0 := by kernel_rfl
attribute [simp] Tryd.underlying94
@[simp] theorem zero94 : zeroV Tryd.prog 94 = some (.nilx 1) := by kernel_rfl
@[simp] theorem inf96 : Tryd.prog.info? 96 = some Tryd.t96 := by kernel_rfl
@[simp] theorem tsz96 : Tryd.t96.size = 1 := by kernel_rfl
@[simp] theorem tby96 : Tryd.t96.bytes = 8 := by kernel_rfl
@[simp] theorem agg96 : aggT Tryd.prog 96 = some false := by kernel_rfl
@[simp] theorem slot96 : slotSize Tryd.prog 96 = 0 := by kernel_rfl
attribute [simp] Tryd.underlying96
@[simp] theorem zero96 : zeroV Tryd.prog 96 = some (.nilx 1) := by kernel_rfl
@[simp] theorem inf97 : Tryd.prog.info? 97 = some Tryd.t97 := by kernel_rfl
@[simp] theorem tsz97 : Tryd.t97.size = 1 := by kernel_rfl
@[simp] theorem tby97 : Tryd.t97.bytes = 8 := by kernel_rfl
@[simp] theorem agg97 : aggT Tryd.prog 97 = some false := by kernel_rfl
@[simp] theorem slot97 : slotSize Tryd.prog 97 = 0 := by kernel_rfl
attribute [simp] Tryd.underlying97
@[simp] theorem zero97 : zeroV Tryd.prog 97 = some (.nilx 1) := by kernel_rfl
@[simp] theorem inf98 : Tryd.prog.info? 98 = some Tryd.t98 := by kernel_rfl
@[simp] theorem tsz98 : Tryd.t98.size = 1 := by kernel_rfl
@[simp] theorem tby98 : Tryd.t98.bytes = 8 := by kernel_rfl
@[simp] theorem agg98 : aggT Tryd.prog 98 = some false := by kernel_rfl
@[simp] theorem slot98 : slotSize Tryd.prog 98 = 0 := by kernel_rfl
attribute [simp] Tryd.underlying98
@[simp] theorem zero98 : zeroV Tryd.prog 98 = some (.nilx 1) := by kernel_rfl
@[simp] theorem inf99 : Tryd.prog.info? 99 = some Tryd.t99 := by kernel_rfl
@[simp] theorem tsz99 : Tryd.t99.size = 1 := by kernel_rfl
@[simp] theorem tby99 : Tryd.t99.bytes = 8 := by kernel_rfl
@[simp] theorem agg99 : aggT Tryd.prog 99 = some false := by kernel_rfl
@[simp] theorem slot99 : slotSize Tryd.prog 99 = 0 := by kernel_rfl
attribute [simp] Tryd.underlying99
@[simp] theorem zero99 : zeroV Tryd.prog 99 = some (.nilx 1) := by kernel_rfl
@[simp] theorem inf100 : Tryd.prog.info? 100 = some Tryd.t100 := by kernel_rfl
@[simp] theorem tsz100 : Tryd.t100.size = 1 := by kernel_rfl
@[simp] theorem tby100 : Tryd.t100.bytes = 8 := by kernel_rfl
@[simp] theorem agg100 : aggT Tryd.prog 100 = some false := by kernel_rfl
@[simp] theorem slot100 : slotSize Tryd.prog 100 = 0 := by kernel_rfl
attribute [simp] Tryd.underlying100
@[simp] theorem zero100 : zeroV Tryd.prog 100 = some (.nilx 1) := by kernel_rfl
@[simp] theorem inf101 : Tryd.prog.info? 101 = some Tryd.t101 := by kernel_rfl
@[simp] theorem tsz101 : Tryd.t101.size = 1 := by kernel_rfl
@[simp] theorem tby101 : Tryd.t101.bytes = 8 := by kernel_rfl
@[simp] theorem agg101 : aggT Tryd.prog 101 = some false := by kernel_rfl
@[simp] theorem slot101 : slotSize Tryd.prog 101 = 0 := by kernel_rfl
attribute [simp] Tryd.underlying101
@[simp] theorem zero101 : zeroV Tryd.prog 101 = some (.nilx 1) := by kernel_rfl
@[simp] theorem inf102 : Tryd.prog.info? 102 = some Tryd.t102 := by kernel_rfl
@[simp] theorem tsz102 : Tryd.t102.size = 1 := by kernel_rfl
@[simp] theorem tby102 : Tryd.t102.bytes = 8 := by kernel_rfl
@[simp] theorem agg102 : aggT Tryd.prog 102 = some false := by kernel_rfl
@[simp] theorem slot102 : slotSize Tryd.prog 102 = 0 := by kernel_rfl
attribute [simp] Tryd.underlying102
@[simp] theorem zero102 : zeroV Tryd.prog 102 = some (.nilx 1) := by kernel_rfl
@[simp] theorem inf103 : Tryd.prog.info? 103 = some Tryd.t103 := by kernel_rfl
@[simp] theorem tsz103 : Tryd.t103.size = 1 := by kernel_rfl
@[simp] theorem tby103 : Tryd.t103.bytes = 8 := by kernel_rfl
@[simp] theorem agg103 : aggT Tryd.prog 103 = some false := by kernel_rfl
@[simp] theorem slot103 : slotSize Tryd.prog 103 = 0 := by kernel_rfl
attribute [simp] Tryd.underlying103
@[simp] theorem zero103 : zeroV Tryd.prog 103 = some (.nilx 1) := by kernel_rfl
@[simp] theorem inf104 : Tryd.prog.info? 104 = some Tryd.t104 := by kernel_rfl
@[simp] theorem tsz104 : Tryd.t104.size = 1 := by kernel_rfl
@[simp] theorem tby104 : Tryd.t104.bytes = 8 := by kernel_rfl
@[simp] theorem agg104 : aggT Tryd.prog 104 = some false := by kernel_rfl
@[simp] theorem slot104 : slotSize Tryd.prog 104 = 0 := by kernel_rfl
attribute [simp] Tryd.underlying104
@[simp] theorem zero104 : zeroV Tryd.prog 104 = some (.nilx 1) := by kernel_rfl
@[simp] theorem inf105 : Tryd.prog.info? 105 = some Tryd.t105 := by kernel_rfl
@[simp] theorem tsz105 : Tryd.t105.size = 256 := by kernel_rfl
@[simp] theorem tby105 : Tryd.t105.bytes = 256 := by kernel_rfl
@[simp] theorem agg105 : aggT Tryd.prog 105 = some true := by kernel_rfl
@[simp] theorem slot105 : slotSize Tryd.prog 105 = 0 := by kernel_rfl
attribute [simp] Tryd.underlying105
@[simp] theorem zero105 : zeroV Tryd.prog 105 = some (.agg [(.int .u8 0), (.int .u8 0), (.int .u8 0), (.int .u8 0), (.int .u8 0), (.int .u8 0), (.int .u8 0), (.int .u8 0), (.int .u8 0), (.int .u8 0), (.int .u8 0), (.int .u8 0), (.int .u8 0), (.int .u8 0), (.int .u8 0), (.int .u8 0), (.int .u8 0), (.int .u8 0), (.int .u8 0), (.int .u8 0), (.int .u8 0), (.int .u8 0), (.int .u8 0), (.int .u8 0), (.int .u8 0), (.int .u8 0), (.int .u8 0), (.int .u8 0), (.int .u8 0), (.int .u8 0), (.int .u8 0), (.int .u8 0), (.int .u8 0), (.int .u8 0), (.int .u8 0), (.int .u8 0), (.int .u8 0), (.int .u8 0), (.int .u8 0), (.int .u8 0), (.int .u8 0), (.int .u8 0), (.int .u8 0), (.int .u8 0), (.int .u8 0), (.int .u8 0), (.int .u8 0), (.int .u8 0), (.int .u8 0), (.int .u8 0), (.int .u8 0), (.int .u8 0), (.int .u8 0), (.int .u8 0), (.int .u8 0), (.int .u8 0), (.int .u8 0), (.int .u8 0), (.int .u8 0), (.int .u8 0), (.int .u8 0), (.int .u8 0), (.int .u8 0), (.int .u8 0), (.int .u8 0), (.int .u8 0), (.int .u8 0), (.int .u8 0), (.int .u8 0), (.int .u8 0), (.int .u8 0), (.int .u8 0), (.int .u8 0), (.int .u8 0), (.int .u8 0), (.int .u8 0), (.int .u8 0), (.int .u8 0), (.int .u8 0), (.int .u8 0), (.int .u8 0), (.int .u8 0), (.int .u8 0), (.int .u8 0), (.int .u8 0), (.int .u8 0), (.int .u8 0), (.int .u8 0), (.int .u8 0), (.int .u8 0), (.int .u8 0), (.int .u8 0), (.int .u8 0), (.int .u8 0), (.int .u8 0), (.int .u8 0), (.int .u8 0), (.int .u8 0), (.int .u8 0), (.int .u8 0), (.int .u8 0), (.int .u8 0), (.int .u8 0), (.int .u8 0), (.int .u8 0), (.int .u8 0), (.int .u8 0), (.int .u8 0), (.int .u8 0), (.int .u8 0), (.int .u8 0), (.int .u8 0), (.int .u8 0), (.int .u8 0), (.int .u8 0), (.int .u8 0), (.int .u8 0), (.int .u8 0), (.int .u8 0), (.int .u8 0), (.int .u8 0), (.int .u8 0), (.int .u8 0), (.int .u8 0), (.int .u8 0), (.int .u8 0), (.int .u8 0), (.int .u8 0), (.int .u8 0), (.int .u8 0), (.int .u8 0), (.int .u8 0), (.int .u8 0), (.int .u8 0), (.int .u8 0), (.int .u8 0), (.int .u8 0), (.int .u8 0), (.int .u8 0), (.int .u8 0), (.int .u8 0), (.int .u8 0), (.int .u8 0), (.int .u8 0), (.int .u8 0), (.int .u8 0), (.int .u8 0), (.int .u8 0), (.int .u8 0), (.int .u8 0), (.int .u8 0), (.int .u8 0), (.int .u8 0), (.int .u8 0), (.int .u8 0), (.int .u8 0), (.int .u8 0), (.int .u8 0), (.int .u8 0), (.int .u8 0), (.int .u8 0), (.int .u8 0), (.int .u8 0), (.int .u8 0), (.int .u8 0), (.int .u8 0), (.int .u8 0), (.int .u8 0), (.int .u8 0), (.int .u8 0), (.int .u8 0), (.int .u8 0), (.int .u8 0), (.int .u8 0), (.int .u8 0), (.int .u8 0), (.int .u8 0), (.int .u8 0), (.int .u8 0), (.int .u8 0), (.int .u8 0), (.int .u8 0), (.int .u8 0), (.int .u8 0), (.int .u8 0), (.int .u8 0), (.int .u8 0), (.int .u8 0), (.int .u8 0), (.int .u8 0), (.int .u8 0), (.int .u8 0), (.int .u8 0), (.int .u8 0), (.int .u8 0), (.int .u8 0), (.int .u8 0), (.int .u8 0), (.int .u8 0), (.int .u8 0), (.int .u8 0), (.int .u8 0), (.int .u8 0), (.int .u8 0), (.int .u8 0), (.int .u8 0), (.int .u8 0), (.int .u8 0), (.int .u8 0), (.int .u8 0), (.int .u8 0), (.int .u8 0), (.int .u8 0), (.int .u8 0), (.int .u8 0), (.int .u8 0), (.int .u8 0), (.int .u8 0), (.int .u8 0), (.int .u8 0), (.int .u8 0), (.int .u8 0), (.int .u8 0), (.int .u8 0), (.int .u8 0), (.int .u8 0), (.int .u8 0), (.int .u8 0), (.int .u8 0), (.int .u8 0), (.int .u8 0), (.int .u8 0), (.int .u8 0), (.int .u8 0), (.int .u8 0), (.int .u8 0), (.int .u8 0), (.int .u8 0), (.int .u8 0), (.int .u8 0), (.int .u8 0), (.int .u8 0), (.int .u8 0), (.int .u8 0), (.int .u8 0), (.int .u8 0), (.int .u8 0), (.int .u8 0), (.int .u8 0), (.int .u8 0), (.int .u8 0), (.int .u8 0), (.int .u8 0), (.int .u8 0), (.int .u8 0), (.int .u8 0)]) := by kernel_rfl
@[simp] theorem inf106 : Tryd.prog.info? 106 = some Tryd.t106 := by kernel_rfl
@[simp] theorem tsz106 : Tryd.t106.size = 2 := by kernel_rfl
@[simp] theorem tby106 : Tryd.t106.bytes = 2 := by kernel_rfl
@[simp] theorem agg106 : aggT Tryd.prog 106 = some true := by kernel_rfl
@[simp] theorem slot106 : slotSize Tryd.prog 106 = 0 := by kernel_rfl
attribute [simp] Tryd.underlying106
@[simp] theorem zero106 : zeroV Tryd.prog 106 = some (.agg [(.int .u8 0), (.int .u8 0)]) := by kernel_rfl
@[simp] theorem slots106 : slotSizes Tryd.prog 106 = [0, 0] := by kernel_rfl
noncomputable def F106_0 : Field := (fieldOf Tryd.prog 106 0).getD default
@[simp] theorem fo106_0 : fieldOf Tryd.prog 106 0 = some F106_0 := by kernel_rfl
@[simp] theorem ft106_0 : F106_0.type = 5 := by kernel_rfl
@[simp] theorem fx106_0 : F106_0.offset = 0 := by kernel_rfl
noncomputable def F106_1 : Field := (fieldOf Tryd.prog 106 1).getD default
@[simp] theorem fo106_1 : fieldOf Tryd.prog 106 1 = some F106_1 := by kernel_rfl
@[simp] theorem ft106_1 : F106_1.type = 5 := by kernel_rfl
@[simp] theorem fx106_1 : F106_1.offset = 1 := by kernel_rfl
@[simp] theorem inf107 : Tryd.prog.info? 107 = some Tryd.t107 := by kernel_rfl
@[simp] theorem tsz107 : Tryd.t107.size = 2 := by kernel_rfl
@[simp] theorem tby107 : Tryd.t107.bytes = 2 := by kernel_rfl
@[simp] theorem agg107 : aggT Tryd.prog 107 = some true := by kernel_rfl
@[simp] theorem slot107 : slotSize Tryd.prog 107 = 0 := by kernel_rfl
attribute [simp] Tryd.underlying107
@[simp] theorem zero107 : zeroV Tryd.prog 107 = some (.agg [(.int .u8 0), (.int .u8 0)]) := by kernel_rfl
@[simp] theorem slots107 : slotSizes Tryd.prog 107 = [0, 0] := by kernel_rfl
noncomputable def F107_0 : Field := (fieldOf Tryd.prog 107 0).getD default
@[simp] theorem fo107_0 : fieldOf Tryd.prog 107 0 = some F107_0 := by kernel_rfl
@[simp] theorem ft107_0 : F107_0.type = 5 := by kernel_rfl
@[simp] theorem fx107_0 : F107_0.offset = 0 := by kernel_rfl
noncomputable def F107_1 : Field := (fieldOf Tryd.prog 107 1).getD default
@[simp] theorem fo107_1 : fieldOf Tryd.prog 107 1 = some F107_1 := by kernel_rfl
@[simp] theorem ft107_1 : F107_1.type = 5 := by kernel_rfl
@[simp] theorem fx107_1 : F107_1.offset = 1 := by kernel_rfl
@[simp] theorem inf108 : Tryd.prog.info? 108 = some Tryd.t108 := by kernel_rfl
@[simp] theorem tsz108 : Tryd.t108.size = 32 := by kernel_rfl
@[simp] theorem tby108 : Tryd.t108.bytes = 32 := by kernel_rfl
@[simp] theorem agg108 : aggT Tryd.prog 108 = some true := by kernel_rfl
@[simp] theorem slot108 : slotSize Tryd.prog 108 = 0 := by kernel_rfl
attribute [simp] Tryd.underlying108
@[simp] theorem zero108 : zeroV Tryd.prog 108 = some (.agg [(.int .u8 0), (.int .u8 0), (.int .u8 0), (.int .u8 0), (.int .u8 0), (.int .u8 0), (.int .u8 0), (.int .u8 0), (.int .u8 0), (.int .u8 0), (.int .u8 0), (.int .u8 0), (.int .u8 0), (.int .u8 0), (.int .u8 0), (.int .u8 0), (.int .u8 0), (.int .u8 0), (.int .u8 0), (.int .u8 0), (.int .u8 0), (.int .u8 0), (.int .u8 0), (.int .u8 0), (.int .u8 0), (.int .u8 0), (.int .u8 0), (.int .u8 0), (.int .u8 0), (.int .u8 0), (.int .u8 0), (.int .u8 0)]) := by kernel_rfl
@[simp] theorem inf109 : Tryd.prog.info? 109 = some Tryd.t109 := by kernel_rfl
@[simp] theorem tsz109 : Tryd.t109.size = 4 := by kernel_rfl
@[simp] theorem tby109 : Tryd.t109.bytes = 40 := by kernel_rfl
@[simp] theorem agg109 : aggT Tryd.prog 109 = some true := by kernel_rfl
@[simp] theorem slot109 : slotSize Tryd.prog 109 = 0 := by kernel_rfl
attribute [simp] Tryd.underlying109
@[simp] theorem zero109 : zeroV Tryd.prog 109 = some (.agg [(.nilx 0), (.nilx 0), (.nilx 0), (.str [])]) := by kernel_rfl
@[simp] theorem slots109 : slotSizes Tryd.prog 109 = [0, 0, 0, 0] := by kernel_rfl
noncomputable def F109_0 : Field := (fieldOf Tryd.prog 109 0).getD default
@[simp] theorem fo109_0 : fieldOf Tryd.prog 109 0 = some F109_0 := by kernel_rfl
@[simp] theorem ft109_0 : F109_0.type = 17 := by kernel_rfl
@[simp] theorem fx109_0 : F109_0.offset = 0 := by kernel_rfl
noncomputable def F109_1 : Field := (fieldOf Tryd.prog 109 1).getD default
@[simp] theorem fo109_1 : fieldOf Tryd.prog 109 1 = some F109_1 := by kernel_rfl
@[simp] theorem ft109_1 : F109_1.type = 17 := by kernel_rfl
@[simp] theorem fx109_1 : F109_1.offset = 1 := by kernel_rfl
noncomputable def F109_2 : Field := (fieldOf Tryd.prog 109 2).getD default
@[simp] theorem fo109_2 : fieldOf Tryd.prog 109 2 = some F109_2 := by kernel_rfl
@[simp] theorem ft109_2 : F109_2.type = 17 := by kernel_rfl
@[simp] theorem fx109_2 : F109_2.offset = 2 := by kernel_rfl
noncomputable def F109_3 : Field := (fieldOf Tryd.prog 109 3).getD default
@[simp] theorem fo109_3 : fieldOf Tryd.prog 109 3 = some F109_3 := by kernel_rfl
@[simp] theorem ft109_3 : F109_3.type = 9 := by kernel_rfl
@[simp] theorem fx109_3 : F109_3.offset = 3 := by kernel_rfl
@[simp] theorem inf110 : Tryd.prog.info? 110 = some Tryd.t110 := by kernel_rfl
@[simp] theorem tsz110 : Tryd.t110.size = 4 := by kernel_rfl
@[simp] theorem tby110 : Tryd.t110.bytes = 40 := by kernel_rfl
@[simp] theorem agg110 : aggT Tryd.prog 110 = some true := by kernel_rfl
@[simp] theorem slot110 : slotSize Tryd.prog 110 = 0 := by kernel_rfl
attribute [simp] Tryd.underlying110
@[simp] theorem zero110 : zeroV Tryd.prog 110 = some (.agg [(.nilx 0), (.nilx 0), (.nilx 0), (.str [])]) := by kernel_rfl
@[simp] theorem slots110 : slotSizes Tryd.prog 110 = [0, 0, 0, 0] := by kernel_rfl
noncomputable def F110_0 : Field := (fieldOf Tryd.prog 110 0).getD default
@[simp] theorem fo110_0 : fieldOf Tryd.prog 110 0 = some F110_0 := by kernel_rfl
@[simp] theorem ft110_0 : F110_0.type = 17 := by kernel_rfl
@[simp] theorem fx110_0 : F110_0.offset = 0 := by kernel_rfl
noncomputable def F110_1 : Field := (fieldOf Tryd.prog 110 1).getD default
@[simp] theorem fo110_1 : fieldOf Tryd.prog 110 1 = some F110_1 := by kernel_rfl
@[simp] theorem ft110_1 : F110_1.type = 17 := by kernel_rfl
@[simp] theorem fx110_1 : F110_1.offset = 1 := by kernel_rfl
noncomputable def F110_2 : Field := (fieldOf Tryd.prog 110 2).getD default
@[simp] theorem fo110_2 : fieldOf Tryd.prog 110 2 = some F110_2 := by kernel_rfl
@[simp] theorem ft110_2 : F110_2.type = 17 := by kernel_rfl
@[simp] theorem fx110_2 : F110_2.offset = 2 := by kernel_rfl
noncomputable def F110_3 : Field := (fieldOf Tryd.prog 110 3).getD default
@[simp] theorem fo110_3 : fieldOf Tryd.prog 110 3 = some F110_3 := by kernel_rfl
@[simp] theorem ft110_3 : F110_3.type = 9 := by kernel_rfl
@[simp] theorem fx110_3 : F110_3.offset = 3 := by kernel_rfl
@[simp] theorem inf111 : Tryd.prog.info? 111 = some Tryd.t111 := by kernel_rfl
@[simp] theorem tsz111 : Tryd.t111.size = 0 := by kernel_rfl
@[simp] theorem tby111 : Tryd.t111.bytes = 0 := by kernel_rfl
@[simp] theorem agg111 : aggT Tryd.prog 111 = some true := by kernel_rfl
@[simp] theorem slot111 : slotSize Tryd.prog 111 = 0 := by kernel_rfl
attribute [simp] Tryd.underlying111
@[simp] theorem zero111 : zeroV Tryd.prog 111 = some (.agg []) := by kernel_rfl
@[simp] theorem inf112 : Tryd.prog.info? 112 = some Tryd.t112 := by kernel_rfl
@[simp] theorem tsz112 : Tryd.t112.size = 0 := by kernel_rfl
@[simp] theorem tby112 : Tryd.t112.bytes = 0 := by kernel_rfl
@[simp] theorem agg112 : aggT Tryd.prog 112 = some true := by kernel_rfl
@[simp] theorem slot112 : slotSize Tryd.prog 112 = 0 := by kernel_rfl
attribute [simp] Tryd.underlying112
@[simp] theorem zero112 : zeroV Tryd.prog 112 = some (.agg []) := by kernel_rfl
@[simp] theorem slots112 : slotSizes Tryd.prog 112 = [] := by kernel_rfl
noncomputable def F112_0 : Field := (fieldOf Tryd.prog 112 0).getD default
@[simp] theorem fo112_0 : fieldOf Tryd.prog 112 0 = some F112_0 := by kernel_rfl
@[simp] theorem ft112_0 : F112_0.type = 111 := by kernel_rfl
@[simp] theorem fx112_0 : F112_0.offset = 0 := by kernel_rfl
@[simp] theorem inf113 : Tryd.prog.info? 113 = some Tryd.t113 := by kernel_rfl
@[simp] theorem tsz113 : Tryd.t113.size = 0 := by kernel_rfl
@[simp] theorem tby113 : Tryd.t113.bytes = 0 := by kernel_rfl
@[simp] theorem agg113 : aggT Tryd.prog 113 = some true := by kernel_rfl
@[simp] theorem slot113 : slotSize Tryd.prog 113 = 0 := by kernel_rfl
attribute [simp] Tryd.underlying113
@[simp] theorem zero113 : zeroV Tryd.prog 113 = some (.agg []) := by kernel_rfl
@[simp] theorem slots113 : slotSizes Tryd.prog 113 = [] := by kernel_rfl
noncomputable def F113_0 : Field := (fieldOf Tryd.prog 113 0).getD default
@[simp] theorem fo113_0 : fieldOf Tryd.prog 113 0 = some F113_0 := by kernel_rfl
@[simp] theorem ft113_0 : F113_0.type = 111 := by kernel_rfl
@[simp] theorem fx113_0 : F113_0.offset = 0 := by kernel_rfl
@[simp] theorem inf114 : Tryd.prog.info? 114 = some Tryd.t114 := by kernel_rfl
@[simp] theorem tsz114 : Tryd.t114.size = 1 := by kernel_rfl
@[simp] theorem tby114 : Tryd.t114.bytes = 1 := by kernel_rfl
@[simp] theorem agg114 : aggT Tryd.prog 114 = some false := by kernel_rfl
@[simp] theorem slot114 : slotSize Tryd.prog 114 = 0 := by kernel_rfl
attribute [simp] Tryd.underlying114
@[simp] theorem zero114 : zeroV Tryd.prog 114 = some (.int .u8 0) := by kernel_rfl
@[simp] theorem inf115 : Tryd.prog.info? 115 = some Tryd.t115 := by kernel_rfl
@[simp] theorem tsz115 : Tryd.t115.size = 1 := by kernel_rfl
@[simp] theorem tby115 : Tryd.t115.bytes = 1 := by kernel_rfl
@[simp] theorem agg115 : aggT Tryd.prog 115 = some false := by kernel_rfl
@[simp] theorem slot115 : slotSize Tryd.prog 115 = 0 := by kernel_rfl
attribute [simp] Tryd.underlying115
@[simp] theorem zero115 : zeroV Tryd.prog 115 = some (.int .u8 0) := by kernel_rfl
@[simp] theorem inf116 : Tryd.prog.info? 116 = some Tryd.t116 := by kernel_rfl
@[simp] theorem tsz116 : Tryd.t116.size = 1 := by kernel_rfl
@[simp] theorem tby116 : Tryd.t116.bytes = 8 := by kernel_rfl
@[simp] theorem agg116 : aggT Tryd.prog 116 = some false := by kernel_rfl
@[simp] theorem slot116 : slotSize Tryd.prog 116 = 0 := by kernel_rfl
attribute [simp] Tryd.underlying116
@[simp] theorem zero116 : zeroV Tryd.prog 116 = some (.nilx 1) := by kernel_rfl
@[simp] theorem inf117 : Tryd.prog.info? 117 = some Tryd.t117 := by kernel_rfl
@[simp] theorem tsz117 : Tryd.t117.size = 1 := by kernel_rfl
@[simp] theorem tby117 : Tryd.t117.bytes = 4 := by kernel_rfl
@[simp] theorem agg117 : aggT Tryd.prog 117 = some false := by kernel_rfl
@[simp] theorem slot117 : slotSize Tryd.prog 117 = 0 := by kernel_rfl
attribute [simp] Tryd.underlying117
@[simp] theorem zero117 : zeroV Tryd.prog 117 = some (.int .i32 0) := by kernel_rfl
@[simp] theorem inf118 : Tryd.prog.info? 118 = some Tryd.t118 := by kernel_rfl
@[simp] theorem tsz118 : Tryd.t118.size = 1 := by kernel_rfl
@[simp] theorem tby118 : Tryd.t118.bytes = 4 := by kernel_rfl
@[simp] theorem agg118 : aggT Tryd.prog 118 = some false := by kernel_rfl
@[simp] theorem slot118 : slotSize Tryd.prog 118 = 0 := by kernel_rfl
attribute [simp] Tryd.underlying118
@[simp] theorem zero118 : zeroV Tryd.prog 118 = some (.int .i32 0) := by kernel_rfl
@[simp] theorem inf119 : Tryd.prog.info? 119 = some Tryd.t119 := by kernel_rfl
@[simp] theorem tsz119 : Tryd.t119.size = 11 := by kernel_rfl
@[simp] theorem tby119 : Tryd.t119.bytes = 48 := by kernel_rfl
@[simp] theorem agg119 : aggT Tryd.prog 119 = some true := by kernel_rfl
@[simp] theorem slot119 : slotSize Tryd.prog 119 = 0 := by kernel_rfl
attribute [simp] Tryd.underlying119
@[simp] theorem zero119 : zeroV Tryd.prog 119 = some (.agg [(.int .u64 0), (.int .u64 0), (.int .u32 0), (.int .u8 0), (.int .u8 0), (.int .u8 0), (.int .u8 0), (.nilx 1), (.nilx 0), (.int .i32 0), (.int .i32 0)]) := by kernel_rfl
@[simp] theorem slots119 : slotSizes Tryd.prog 119 = [0, 0, 0, 0, 0, 0, 0, 0, 0, 0, 0] := by kernel_rfl
noncomputable def F119_0 : Field := (fieldOf Tryd.prog 119 0).getD default
@[simp] theorem fo119_0 : fieldOf Tryd.prog 119 0 = some F119_0 := by kernel_rfl
@[simp] theorem ft119_0 : F119_0.type = 12 := by kernel_rfl
@[simp] theorem fx119_0 : F119_0.offset = 0 := by kernel_rfl
noncomputable def F119_1 : Field := (fieldOf Tryd.prog 119 1).getD default
@[simp] theorem fo119_1 : fieldOf Tryd.prog 119 1 = some F119_1 := by kernel_rfl
@[simp] theorem ft119_1 : F119_1.type = 12 := by kernel_rfl
@[simp] theorem fx119_1 : F119_1.offset = 1 := by kernel_rfl
noncomputable def F119_2 : Field := (fieldOf Tryd.prog 119 2).getD default
@[simp] theorem fo119_2 : fieldOf Tryd.prog 119 2 = some F119_2 := by kernel_rfl
@[simp] theorem ft119_2 : F119_2.type = 88 := by kernel_rfl
@[simp] theorem fx119_2 : F119_2.offset = 2 := by kernel_rfl
noncomputable def F119_3 : Field := (fieldOf Tryd.prog 119 3).getD default
@[simp] theorem fo119_3 : fieldOf Tryd.prog 119 3 = some F119_3 := by kernel_rfl
@[simp] theorem ft119_3 : F119_3.type = 114 := by kernel_rfl
@[simp] theorem fx119_3 : F119_3.offset = 3 := by kernel_rfl
noncomputable def F119_4 : Field := (fieldOf Tryd.prog 119 4).getD default
@[simp] theorem fo119_4 : fieldOf Tryd.prog 119 4 = some F119_4 := by kernel_rfl
@[simp] theorem ft119_4 : F119_4.type = 5 := by kernel_rfl
@[simp] theorem fx119_4 : F119_4.offset = 4 := by kernel_rfl
noncomputable def F119_5 : Field := (fieldOf Tryd.prog 119 5).getD default
@[simp] theorem fo119_5 : fieldOf Tryd.prog 119 5 = some F119_5 := by kernel_rfl
@[simp] theorem ft119_5 : F119_5.type = 5 := by kernel_rfl
@[simp] theorem fx119_5 : F119_5.offset = 5 := by kernel_rfl
noncomputable def F119_6 : Field := (fieldOf Tryd.prog 119 6).getD default
@[simp] theorem fo119_6 : fieldOf Tryd.prog 119 6 = some F119_6 := by kernel_rfl
@[simp] theorem ft119_6 : F119_6.type = 115 := by kernel_rfl
@[simp] theorem fx119_6 : F119_6.offset = 6 := by kernel_rfl
noncomputable def F119_7 : Field := (fieldOf Tryd.prog 119 7).getD default
@[simp] theorem fo119_7 : fieldOf Tryd.prog 119 7 = some F119_7 := by kernel_rfl
@[simp] theorem ft119_7 : F119_7.type = 116 := by kernel_rfl
@[simp] theorem fx119_7 : F119_7.offset = 7 := by kernel_rfl
noncomputable def F119_8 : Field := (fieldOf Tryd.prog 119 8).getD default
@[simp] theorem fo119_8 : fieldOf Tryd.prog 119 8 = some F119_8 := by kernel_rfl
@[simp] theorem ft119_8 : F119_8.type = 73 := by kernel_rfl
@[simp] theorem fx119_8 : F119_8.offset = 8 := by kernel_rfl
noncomputable def F119_9 : Field := (fieldOf Tryd.prog 119 9).getD default
@[simp] theorem fo119_9 : fieldOf Tryd.prog 119 9 = some F119_9 := by kernel_rfl
@[simp] theorem ft119_9 : F119_9.type = 117 := by kernel_rfl
@[simp] theorem fx119_9 : F119_9.offset = 9 := by kernel_rfl
noncomputable def F119_10 : Field := (fieldOf Tryd.prog 119 10).getD default
@[simp] theorem fo119_10 : fieldOf Tryd.prog 119 10 = some F119_10 := by kernel_rfl
@[simp] theorem ft119_10 : F119_10.type = 118 := by kernel_rfl
@[simp] theorem fx119_10 : F119_10.offset = 10 := by kernel_rfl
@[simp] theorem inf120 : Tryd.prog.info? 120 = some Tryd.t120 := by kernel_rfl
@[simp] theorem tsz120 : Tryd.t120.size = 11 := by kernel_rfl
@[simp] theorem tby120 : Tryd.t120.bytes = 48 := by kernel_rfl
@[simp] theorem agg120 : aggT Tryd.prog 120 = some true := by kernel_rfl
@[simp] theorem slot120 : slotSize Tryd.prog 120 = 0 := by kernel_rfl
attribute [simp] Tryd.underlying120
@[simp] theorem zero120 : zeroV Tryd.prog 120 = some (.agg [(.int .u64 0), (.int .u64 0), (.int .u32 0), (.int .u8 0), (.int .u8 0), (.int .u8 0), (.int .u8 0), (.nilx 1), (.nilx 0), (.int .i32 0), (.int .i32 0)]) := by kernel_rfl
@[simp] theorem slots120 : slotSizes Tryd.prog 120 = [0, 0, 0, 0, 0, 0, 0, 0, 0, 0, 0] := by kernel_rfl
noncomputable def F120_0 : Field := (fieldOf Tryd.prog 120 0).getD default
@[simp] theorem fo120_0 : fieldOf Tryd.prog 120 0 = some F120_0 := by kernel_rfl
@[simp] theorem ft120_0 : F120_0.type = 12 := by kernel_rfl
@[simp] theorem fx120_0 : F120_0.offset = 0 := by kernel_rfl
noncomputable def F120_1 : Field := (fieldOf Tryd.prog 120 1).getD default
@[simp] theorem fo120_1 : fieldOf Tryd.prog 120 1 = some F120_1 := by kernel_rfl
@[simp] theorem ft120_1 : F120_1.type = 12 := by kernel_rfl
@[simp] theorem fx120_1 : F120_1.offset = 1 := by kernel_rfl
noncomputable def F120_2 : Field := (fieldOf Tryd.prog 120 2).getD default
@[simp] theorem fo120_2 : fieldOf Tryd.prog 120 2 = some F120_2 := by kernel_rfl
@[simp] theorem ft120_2 : F120_2.type = 88 := by kernel_rfl
@[simp] theorem fx120_2 : F120_2.offset = 2 := by kernel_rfl
noncomputable def F120_3 : Field := (fieldOf Tryd.prog 120 3).getD default
@[simp] theorem fo120_3 : fieldOf Tryd.prog 120 3 = some F120_3 := by kernel_rfl
@[simp] theorem ft120_3 : F120_3.type = 114 := by kernel_rfl
@[simp] theorem fx120_3 : F120_3.offset = 3 := by kernel_rfl
noncomputable def F120_4 : Field := (fieldOf Tryd.prog 120 4).getD default
@[simp] theorem fo120_4 : fieldOf Tryd.prog 120 4 = some F120_4 := by kernel_rfl
@[simp] theorem ft120_4 : F120_4.type = 5 := by kernel_rfl
@[simp] theorem fx120_4 : F120_4.offset = 4 := by kernel_rfl
noncomputable def F120_5 : Field := (fieldOf Tryd.prog 120 5).getD default
@[simp] theorem fo120_5 : fieldOf Tryd.prog 120 5 = some F120_5 := by kernel_rfl
@[simp] theorem ft120_5 : F120_5.type = 5 := by kernel_rfl
@[simp] theorem fx120_5 : F120_5.offset = 5 := by kernel_rfl
noncomputable def F120_6 : Field := (fieldOf Tryd.prog 120 6).getD default
@[simp] theorem fo120_6 : fieldOf Tryd.prog 120 6 = some F120_6 := by kernel_rfl
@[simp] theorem ft120_6 : F120_6.type = 115 := by kernel_rfl
@[simp] theorem fx120_6 : F120_6.offset = 6 := by kernel_rfl
noncomputable def F120_7 : Field := (fieldOf Tryd.prog 120 7).getD default
@[simp] theorem fo120_7 : fieldOf Tryd.prog 120 7 = some F120_7 := by kernel_rfl
@[simp] theorem ft120_7 : F120_7.type = 116 := by kernel_rfl
@[simp] theorem fx120_7 : F120_7.offset = 7 := by kernel_rfl
noncomputable def F120_8 : Field := (fieldOf Tryd.prog 120 8).getD default
@[simp] theorem fo120_8 : fieldOf Tryd.prog 120 8 = some F120_8 := by kernel_rfl
@[simp] theorem ft120_8 : F120_8.type = 73 := by kernel_rfl
@[simp] theorem fx120_8 : F120_8.offset = 8 := by kernel_rfl
noncomputable def F120_9 : Field := (fieldOf Tryd.prog 120 9).getD default
@[simp] theorem fo120_9 : fieldOf Tryd.prog 120 9 = some F120_9 := by kernel_rfl
@[simp] theorem ft120_9 : F120_9.type = 117 := by kernel_rfl
@[simp] theorem fx120_9 : F120_9.offset = 9 := by kernel_rfl
noncomputable def F120_10 : Field := (fieldOf Tryd.prog 120 10).getD default
@[simp] theorem fo120_10 : fieldOf Tryd.prog 120 10 = some F120_10 := by kernel_rfl
@[simp] theorem ft120_10 : F120_10.type = 118 := by kernel_rfl
@[simp] theorem fx120_10 : F120_10.offset = 10 := by kernel_rfl
-- T 0 ()
-- T 1 func()
-- T 2 int64
-- T 3 int
-- T 4 bool
-- T 5 uint8
-- T 6 abi.BoundsErrorCode
-- T 7 struct { x int64; y int; signed bool; code abi.BoundsErrorCode }
-- T 8 runtime.boundsError
-- T 9 string
-- T 10 runtime.errorString
-- T 11 runtime.plainError
-- T 12 uintptr
-- T 13 struct { msg string; addr uintptr }
-- T 14 runtime.errorAddressString
-- T 15 *runtime.TypeAssertionError
-- T 16 *runtime.PanicNilError
-- T 17 *abi.Type
-- T 18 struct { typ *abi.Type }
-- T 19 maps.unhashableTypeError
-- T 20 interface {}
-- T 21 int32
-- T 22 func() bool
-- T 23 []string
-- T 24 api.Errno
-- T 25 (bool, []string, api.Errno)
-- T 26 func(string) (bool, []string, api.Errno)
-- T 27 func(string) bool
-- T 28 []api.Entry
-- T 29 func([]api.Entry) bool
-- T 30 (string, api.Errno)
-- T 31 func([]api.Entry) (string, api.Errno)
-- T 32 ([]api.Entry, api.Errno)
-- T 33 func(string) ([]api.Entry, api.Errno)
-- T 34 func([]api.Entry, []api.Entry) bool
-- T 35 func([]api.Entry, string) bool
-- T 36 (int, bool)
-- T 37 func([]api.Entry, string) (int, bool)
-- T 38 func([]api.Entry, string, int) ([]api.Entry, api.Errno)
-- T 39 func([]api.Entry, string) ([]api.Entry, api.Errno)
-- T 40 func([]api.Entry, string, int) bool
-- T 41 struct { Name string; Inode int }
-- T 42 api.Entry
-- T 43 func([]api.Entry, string, uint8) bool
-- T 44 []uint8
-- T 45 func(func(string) bool)
-- T 46 func(string) func(func(string) bool)
-- T 47 *strings.Builder
-- T 48 struct { addr *strings.Builder; buf []uint8 }
-- T 49 strings.Builder
-- T 50 interface { Error() string }
-- T 51 error
-- T 52 (int, error)
-- T 53 func(string) (int, error)
-- T 54 func(int, int) string
-- T 55 func(string, int) string
-- T 56 func() string
-- T 57 (int, int, api.Errno)
-- T 58 func(string, int, int) (int, int, api.Errno)
-- T 59 func(string, string) string
-- T 60 func([]api.Entry, string) int
-- T 61 func(int) bool
-- T 62 func([]api.Entry, int, ...api.Entry) []api.Entry
-- T 63 func([]api.Entry) []api.Entry
-- T 64 func([]api.Entry, int, int) []api.Entry
-- T 65 (string, string, bool)
-- T 66 func(string, string) (string, string, bool)
-- T 67 uint
-- T 68 (uint, uint)
-- T 69 func(uint, uint) (uint, uint)
-- T 70 func(string, string) bool
-- T 71 func(int)
-- T 72 func() int
-- T 73 *uint8
-- T 74 func(api.Entry) bool
-- T 75 func(string, uint8) string
-- T 76 [256]bool
-- T 77 strings.asciiSet
-- T 78 (strings.asciiSet, bool)
-- T 79 func(string) (strings.asciiSet, bool)
-- T 80 func(string, *strings.asciiSet) string
-- T 81 *strings.asciiSet
-- T 82 func([]api.Entry, string, func(api.Entry, string) int) (int, bool)
-- T 83 func(string, string) int
-- T 84 func(api.Entry, string) int
-- T 85 func([]api.Entry, int)
-- T 86 unsafe.Pointer
-- T 87 func(unsafe.Pointer) unsafe.Pointer
-- T 88 uint32
-- T 89 (uint32, uint32)
-- T 90 func(uint32, uint32) (uint32, uint32)
-- T 91 uint64
-- T 92 (uint64, uint64)
-- T 93 func(uint64, uint64) (uint64, uint64)
-- T 94 func(uint8) bool
-- T 95 (int32, int)
-- T 96 func(string) (int32, int)
-- T 97 func(string, int32) bool
-- T 98 func(int) []uint8
-- T 99 func(string, int32) int
-- T 100 func([]api.Entry)
-- T 101 func(string, uint8) int
-- T 102 func(int) int
-- T 103 func(int32) bool
-- T 104 func(string) (uint32, uint32)
-- T 105 [256]uint8
-- T 106 struct { lo uint8; hi uint8 }
-- T 107 utf8.acceptRange
-- T 108 [16]utf8.acceptRange
-- T 109 struct { _interface *abi.Type; concrete *abi.Type; asserted *abi.Type; missingMethod string }
-- T 110 runtime.TypeAssertionError
-- T 111 [0]*runtime.PanicNilError
-- T 112 struct { _ [0]*runtime.PanicNilError }
-- T 113 runtime.PanicNilError
-- T 114 abi.TFlag
-- T 115 abi.Kind
-- T 116 func(unsafe.Pointer, unsafe.Pointer) bool
-- T 117 abi.NameOff
-- T 118 abi.TypeOff
-- T 119 struct { Size_ uintptr; PtrBytes uintptr; Hash uint32; TFlag abi.TFlag; Align_ uint8; FieldAlign_ uint8; Kind_ abi.Kind; Equal func(unsafe.Pointer, unsafe.Pointer) bool; GCData *uint8; Str abi.NameOff; PtrToThis abi.TypeOff }
-- T 120 abi.Type
-- LOUD [28, 48]
@[simp] theorem k3_8 : DC.keep 3 8 = some [4, 7, 9] := rfl
@[simp] theorem k7_13 : DC.keep 7 13 = some [0, 7, 17] := rfl
@[simp] theorem k10_8 : DC.keep 10 8 = some [0, 5, 6, 7] := rfl
@[simp] theorem k11_4 : DC.keep 11 4 = some [21, 22, 23] := rfl
@[simp] theorem k12_4 : DC.keep 12 4 = some [0, 3] := rfl
@[simp] theorem k13_4 : DC.keep 13 4 = some [0, 3] := rfl
@[simp] theorem k14_7 : DC.keep 14 7 = some [4, 15, 16, 17] := rfl
@[simp] theorem k15_7 : DC.keep 15 7 = some [0, 4, 5] := rfl
@[simp] theorem k15_11 : DC.keep 15 11 = some [0, 4, 5, 6] := rfl
@[simp] theorem k16_5 : DC.keep 16 5 = some [0, 4, 5] := rfl
@[simp] theorem k17_5 : DC.keep 17 5 = some [0, 4, 5] := rfl
@[simp] theorem k17_11 : DC.keep 17 11 = some [0, 4, 5, 6, 7, 8] := rfl
@[simp] theorem k18_4 : DC.keep 18 4 = some [0, 1, 5] := rfl
@[simp] theorem k19_2 : DC.keep 19 2 = some [1, 8, 9, 10] := rfl
@[simp] theorem k23_10 : DC.keep 23 10 = some [0, 1, 2, 8] := rfl
@[simp] theorem k27_3 : DC.keep 27 3 = some [0, 3, 6, 7, 8] := rfl
@[simp] theorem k29_3 : DC.keep 29 3 = some [0, 5, 12, 13] := rfl
@[simp] theorem k32_2 : DC.keep 32 2 = some [0, 3] := rfl
@[simp] theorem k33_5 : DC.keep 33 5 = some [0, 1, 5, 6] := rfl
@[simp] theorem k34_7 : DC.keep 34 7 = some [0, 1, 2, 9, 10] := rfl
@[simp] theorem k36_7 : DC.keep 36 7 = some [0, 1, 2, 9, 10] := rfl
@[simp] theorem k37_2 : DC.keep 37 2 = some [0, 1, 5] := rfl
@[simp] theorem k43_0 : DC.keep 43 0 = some [0, 1] := rfl
@[simp] theorem k51_1 : DC.keep 51 1 = some [0, 1] := rfl
@[simp] theorem k52_2 : DC.keep 52 2 = some [0, 2, 4] := rfl
@[simp] theorem k53_1 : DC.keep 53 1 = some [0, 1] := rfl
@[simp] theorem k54_1 : DC.keep 54 1 = some [0, 1] := rfl
@[simp] theorem k55_3 : DC.keep 55 3 = some [0, 1, 2, 8, 9, 10] := rfl
@[simp] theorem k67_10 : DC.keep 67 10 = some [0, 4, 5, 6] := rfl
@[simp] theorem k71_15 : DC.keep 71 15 = some [0, 1, 5, 6, 7, 8, 9, 10] := rfl
@[simp] theorem k77_1 : DC.keep 77 1 = some [0, 2, 3] := rfl
@[simp] theorem k81_5 : DC.keep 81 5 = some [0, 1, 5, 6, 7, 8, 9] := rfl
@[simp] theorem k81_11 : DC.keep 81 11 = some [0, 1, 5, 6, 7, 8, 10] := rfl
@[simp] theorem k86_3 : DC.keep 86 3 = some [0, 4, 5] := rfl
@[simp] theorem k86_8 : DC.keep 86 8 = some [4, 6, 7, 8] := rfl
@[simp] theorem bldT49 : bldT Tryd.prog 49 = some 5 := by kernel_rfl
end Go.Abs
