/- Proved here: facts of the types. No condition but those that each theorem states. -/
import Derived.Test.YthpkihimboiglaaDC
namespace Go.Abs
open Go.Proofs
set_option maxRecDepth 100000
set_option linter.unusedVariables false
set_option linter.unusedSimpArgs false

@[simp] theorem inf1 : Try.prog.info? 1 = some Try.t1 := by kernel_rfl
@[simp] theorem tsz1 : Try.t1.size = 1 := by kernel_rfl
@[simp] theorem tby1 : Try.t1.bytes = 8 := by kernel_rfl
@[simp] theorem agg1 : aggT Try.prog 1 = some false := by kernel_rfl
@[simp] theorem slot1 : slotSize Try.prog 1 = 0 := by kernel_rfl
attribute [simp] Try.underlying1
@[simp] theorem zero1 : zeroV Try.prog 1 = some (.nilx 1) := by kernel_rfl
@[simp] theorem inf2 : Try.prog.info? 2 = some Try.t2 := by kernel_rfl
@[simp] theorem tsz2 : Try.t2.size = 1 := by kernel_rfl
@[simp] theorem tby2 : Try.t2.bytes = 8 := by kernel_rfl
@[simp] theorem agg2 : aggT Try.prog 2 = some false := by kernel_rfl
@[simp] theorem slot2 : slotSize Try.prog 2 = 0 := by kernel_rfl
attribute [simp] Try.underlying2
@[simp] theorem zero2 : zeroV Try.prog 2 = some (.int .i64 0) := by kernel_rfl
@[simp] theorem inf3 : Try.prog.info? 3 = some Try.t3 := by kernel_rfl
@[simp] theorem tsz3 : Try.t3.size = 1 := by kernel_rfl
@[simp] theorem tby3 : Try.t3.bytes = 8 := by kernel_rfl
@[simp] theorem agg3 : aggT Try.prog 3 = some false := by kernel_rfl
@[simp] theorem slot3 : slotSize Try.prog 3 = 0 := by kernel_rfl
attribute [simp] Try.underlying3
@[simp] theorem zero3 : zeroV Try.prog 3 = some (.int .i64 0) := by kernel_rfl
@[simp] theorem inf4 : Try.prog.info? 4 = some Try.t4 := by kernel_rfl
@[simp] theorem tsz4 : Try.t4.size = 1 := by kernel_rfl
@[simp] theorem tby4 : Try.t4.bytes = 1 := by kernel_rfl
@[simp] theorem agg4 : aggT Try.prog 4 = some false := by kernel_rfl
@[simp] theorem slot4 : slotSize Try.prog 4 = 0 := by kernel_rfl
attribute [simp] Try.underlying4
@[simp] theorem zero4 : zeroV Try.prog 4 = some (.bool false) := by kernel_rfl
@[simp] theorem inf5 : Try.prog.info? 5 = some Try.t5 := by kernel_rfl
@[simp] theorem tsz5 : Try.t5.size = 1 := by kernel_rfl
@[simp] theorem tby5 : Try.t5.bytes = 1 := by kernel_rfl
@[simp] theorem agg5 : aggT Try.prog 5 = some false := by kernel_rfl
@[simp] theorem slot5 : slotSize Try.prog 5 = 0 := by kernel_rfl
attribute [simp] Try.underlying5
@[simp] theorem zero5 : zeroV Try.prog 5 = some (.int .u8 0) := by kernel_rfl
@[simp] theorem inf6 : Try.prog.info? 6 = some Try.t6 := by kernel_rfl
@[simp] theorem tsz6 : Try.t6.size = 1 := by kernel_rfl
@[simp] theorem tby6 : Try.t6.bytes = 1 := by kernel_rfl
@[simp] theorem agg6 : aggT Try.prog 6 = some false := by kernel_rfl
@[simp] theorem slot6 : slotSize Try.prog 6 = 0 := by kernel_rfl
attribute [simp] Try.underlying6
@[simp] theorem zero6 : zeroV Try.prog 6 = some (.int .u8 0) := by kernel_rfl
@[simp] theorem inf7 : Try.prog.info? 7 = some Try.t7 := by kernel_rfl
@[simp] theorem tsz7 : Try.t7.size = 4 := by kernel_rfl
@[simp] theorem tby7 : Try.t7.bytes = 24 := by kernel_rfl
@[simp] theorem agg7 : aggT Try.prog 7 = some true := by kernel_rfl
@[simp] theorem slot7 : slotSize Try.prog 7 = 0 := by kernel_rfl
attribute [simp] Try.underlying7
@[simp] theorem zero7 : zeroV Try.prog 7 = some (.agg [(.int .i64 0), (.int .i64 0), (.bool false), (.int .u8 0)]) := by kernel_rfl
@[simp] theorem slots7 : slotSizes Try.prog 7 = [0, 0, 0, 0] := by kernel_rfl
noncomputable def F7_0 : Field := (fieldOf Try.prog 7 0).getD default
@[simp] theorem fo7_0 : fieldOf Try.prog 7 0 = some F7_0 := by kernel_rfl
@[simp] theorem ft7_0 : F7_0.type = 2 := by kernel_rfl
@[simp] theorem fx7_0 : F7_0.offset = 0 := by kernel_rfl
noncomputable def F7_1 : Field := (fieldOf Try.prog 7 1).getD default
@[simp] theorem fo7_1 : fieldOf Try.prog 7 1 = some F7_1 := by kernel_rfl
@[simp] theorem ft7_1 : F7_1.type = 3 := by kernel_rfl
@[simp] theorem fx7_1 : F7_1.offset = 1 := by kernel_rfl
noncomputable def F7_2 : Field := (fieldOf Try.prog 7 2).getD default
@[simp] theorem fo7_2 : fieldOf Try.prog 7 2 = some F7_2 := by kernel_rfl
@[simp] theorem ft7_2 : F7_2.type = 4 := by kernel_rfl
@[simp] theorem fx7_2 : F7_2.offset = 2 := by kernel_rfl
noncomputable def F7_3 : Field := (fieldOf Try.prog 7 3).getD default
@[simp] theorem fo7_3 : fieldOf Try.prog 7 3 = some F7_3 := by kernel_rfl
@[simp] theorem ft7_3 : F7_3.type = 6 := by kernel_rfl
@[simp] theorem fx7_3 : F7_3.offset = 3 := by kernel_rfl
@[simp] theorem inf8 : Try.prog.info? 8 = some Try.t8 := by kernel_rfl
@[simp] theorem tsz8 : Try.t8.size = 4 := by kernel_rfl
@[simp] theorem tby8 : Try.t8.bytes = 24 := by kernel_rfl
@[simp] theorem agg8 : aggT Try.prog 8 = some true := by kernel_rfl
@[simp] theorem slot8 : slotSize Try.prog 8 = 0 := by kernel_rfl
attribute [simp] Try.underlying8
@[simp] theorem zero8 : zeroV Try.prog 8 = some (.agg [(.int .i64 0), (.int .i64 0), (.bool false), (.int .u8 0)]) := by kernel_rfl
@[simp] theorem slots8 : slotSizes Try.prog 8 = [0, 0, 0, 0] := by kernel_rfl
noncomputable def F8_0 : Field := (fieldOf Try.prog 8 0).getD default
@[simp] theorem fo8_0 : fieldOf Try.prog 8 0 = some F8_0 := by kernel_rfl
@[simp] theorem ft8_0 : F8_0.type = 2 := by kernel_rfl
@[simp] theorem fx8_0 : F8_0.offset = 0 := by kernel_rfl
noncomputable def F8_1 : Field := (fieldOf Try.prog 8 1).getD default
@[simp] theorem fo8_1 : fieldOf Try.prog 8 1 = some F8_1 := by kernel_rfl
@[simp] theorem ft8_1 : F8_1.type = 3 := by kernel_rfl
@[simp] theorem fx8_1 : F8_1.offset = 1 := by kernel_rfl
noncomputable def F8_2 : Field := (fieldOf Try.prog 8 2).getD default
@[simp] theorem fo8_2 : fieldOf Try.prog 8 2 = some F8_2 := by kernel_rfl
@[simp] theorem ft8_2 : F8_2.type = 4 := by kernel_rfl
@[simp] theorem fx8_2 : F8_2.offset = 2 := by kernel_rfl
noncomputable def F8_3 : Field := (fieldOf Try.prog 8 3).getD default
@[simp] theorem fo8_3 : fieldOf Try.prog 8 3 = some F8_3 := by kernel_rfl
@[simp] theorem ft8_3 : F8_3.type = 6 := by kernel_rfl
@[simp] theorem fx8_3 : F8_3.offset = 3 := by kernel_rfl
@[simp] theorem inf9 : Try.prog.info? 9 = some Try.t9 := by kernel_rfl
@[simp] theorem tsz9 : Try.t9.size = 1 := by kernel_rfl
@[simp] theorem tby9 : Try.t9.bytes = 16 := by kernel_rfl
@[simp] theorem agg9 : aggT Try.prog 9 = some false := by kernel_rfl
@[simp] theorem slot9 : slotSize Try.prog 9 = 0 := by kernel_rfl
attribute [simp] Try.underlying9
@[simp] theorem zero9 : zeroV Try.prog 9 = some (.str []) := by kernel_rfl
@[simp] theorem inf10 : Try.prog.info? 10 = some Try.t10 := by kernel_rfl
@[simp] theorem tsz10 : Try.t10.size = 1 := by kernel_rfl
@[simp] theorem tby10 : Try.t10.bytes = 16 := by kernel_rfl
@[simp] theorem agg10 : aggT Try.prog 10 = some false := by kernel_rfl
@[simp] theorem slot10 : slotSize Try.prog 10 = 0 := by kernel_rfl
attribute [simp] Try.underlying10
@[simp] theorem zero10 : zeroV Try.prog 10 = some (.str []) := by kernel_rfl
@[simp] theorem inf11 : Try.prog.info? 11 = some Try.t11 := by kernel_rfl
@[simp] theorem tsz11 : Try.t11.size = 1 := by kernel_rfl
@[simp] theorem tby11 : Try.t11.bytes = 16 := by kernel_rfl
@[simp] theorem agg11 : aggT Try.prog 11 = some false := by kernel_rfl
@[simp] theorem slot11 : slotSize Try.prog 11 = 0 := by kernel_rfl
attribute [simp] Try.underlying11
@[simp] theorem zero11 : zeroV Try.prog 11 = some (.str []) := by kernel_rfl
@[simp] theorem inf12 : Try.prog.info? 12 = some Try.t12 := by kernel_rfl
@[simp] theorem tsz12 : Try.t12.size = 1 := by kernel_rfl
@[simp] theorem tby12 : Try.t12.bytes = 8 := by kernel_rfl
@[simp] theorem agg12 : aggT Try.prog 12 = some false := by kernel_rfl
@[simp] theorem slot12 : slotSize Try.prog 12 = 0 := by kernel_rfl
attribute [simp] Try.underlying12
@[simp] theorem zero12 : zeroV Try.prog 12 = some (.int .u64 0) := by kernel_rfl
@[simp] theorem inf13 : Try.prog.info? 13 = some Try.t13 := by kernel_rfl
@[simp] theorem tsz13 : Try.t13.size = 2 := by kernel_rfl
@[simp] theorem tby13 : Try.t13.bytes = 24 := by kernel_rfl
@[simp] theorem agg13 : aggT Try.prog 13 = some true := by kernel_rfl
@[simp] theorem slot13 : slotSize Try.prog 13 = 0 := by kernel_rfl
attribute [simp] Try.underlying13
@[simp] theorem zero13 : zeroV Try.prog 13 = some (.agg [(.str []), (.int .u64 0)]) := by kernel_rfl
@[simp] theorem slots13 : slotSizes Try.prog 13 = [0, 0] := by kernel_rfl
noncomputable def F13_0 : Field := (fieldOf Try.prog 13 0).getD default
@[simp] theorem fo13_0 : fieldOf Try.prog 13 0 = some F13_0 := by kernel_rfl
@[simp] theorem ft13_0 : F13_0.type = 9 := by kernel_rfl
@[simp] theorem fx13_0 : F13_0.offset = 0 := by kernel_rfl
noncomputable def F13_1 : Field := (fieldOf Try.prog 13 1).getD default
@[simp] theorem fo13_1 : fieldOf Try.prog 13 1 = some F13_1 := by kernel_rfl
@[simp] theorem ft13_1 : F13_1.type = 12 := by kernel_rfl
@[simp] theorem fx13_1 : F13_1.offset = 1 := by kernel_rfl
@[simp] theorem inf14 : Try.prog.info? 14 = some Try.t14 := by kernel_rfl
@[simp] theorem tsz14 : Try.t14.size = 2 := by kernel_rfl
@[simp] theorem tby14 : Try.t14.bytes = 24 := by kernel_rfl
@[simp] theorem agg14 : aggT Try.prog 14 = some true := by kernel_rfl
@[simp] theorem slot14 : slotSize Try.prog 14 = 0 := by kernel_rfl
attribute [simp] Try.underlying14
@[simp] theorem zero14 : zeroV Try.prog 14 = some (.agg [(.str []), (.int .u64 0)]) := by kernel_rfl
@[simp] theorem slots14 : slotSizes Try.prog 14 = [0, 0] := by kernel_rfl
noncomputable def F14_0 : Field := (fieldOf Try.prog 14 0).getD default
@[simp] theorem fo14_0 : fieldOf Try.prog 14 0 = some F14_0 := by kernel_rfl
@[simp] theorem ft14_0 : F14_0.type = 9 := by kernel_rfl
@[simp] theorem fx14_0 : F14_0.offset = 0 := by kernel_rfl
noncomputable def F14_1 : Field := (fieldOf Try.prog 14 1).getD default
@[simp] theorem fo14_1 : fieldOf Try.prog 14 1 = some F14_1 := by kernel_rfl
@[simp] theorem ft14_1 : F14_1.type = 12 := by kernel_rfl
@[simp] theorem fx14_1 : F14_1.offset = 1 := by kernel_rfl
@[simp] theorem inf15 : Try.prog.info? 15 = some Try.t15 := by kernel_rfl
@[simp] theorem tsz15 : Try.t15.size = 1 := by kernel_rfl
@[simp] theorem tby15 : Try.t15.bytes = 8 := by kernel_rfl
@[simp] theorem agg15 : aggT Try.prog 15 = some false := by kernel_rfl
@[simp] theorem slot15 : slotSize Try.prog 15 = 0 := by kernel_rfl
attribute [simp] Try.underlying15
@[simp] theorem zero15 : zeroV Try.prog 15 = some (.nilx 0) := by kernel_rfl
@[simp] theorem inf16 : Try.prog.info? 16 = some Try.t16 := by kernel_rfl
@[simp] theorem tsz16 : Try.t16.size = 1 := by kernel_rfl
@[simp] theorem tby16 : Try.t16.bytes = 8 := by kernel_rfl
@[simp] theorem agg16 : aggT Try.prog 16 = some false := by kernel_rfl
@[simp] theorem slot16 : slotSize Try.prog 16 = 0 := by kernel_rfl
attribute [simp] Try.underlying16
@[simp] theorem zero16 : zeroV Try.prog 16 = some (.nilx 0) := by kernel_rfl
@[simp] theorem inf17 : Try.prog.info? 17 = some Try.t17 := by kernel_rfl
@[simp] theorem tsz17 : Try.t17.size = 1 := by kernel_rfl
@[simp] theorem tby17 : Try.t17.bytes = 8 := by kernel_rfl
@[simp] theorem agg17 : aggT Try.prog 17 = some false := by kernel_rfl
@[simp] theorem slot17 : slotSize Try.prog 17 = 0 := by kernel_rfl
attribute [simp] Try.underlying17
@[simp] theorem zero17 : zeroV Try.prog 17 = some (.nilx 0) := by kernel_rfl
@[simp] theorem inf18 : Try.prog.info? 18 = some Try.t18 := by kernel_rfl
@[simp] theorem tsz18 : Try.t18.size = 1 := by kernel_rfl
@[simp] theorem tby18 : Try.t18.bytes = 8 := by kernel_rfl
@[simp] theorem agg18 : aggT Try.prog 18 = some true := by kernel_rfl
@[simp] theorem slot18 : slotSize Try.prog 18 = 0 := by kernel_rfl
attribute [simp] Try.underlying18
@[simp] theorem zero18 : zeroV Try.prog 18 = some (.agg [(.nilx 0)]) := by kernel_rfl
@[simp] theorem slots18 : slotSizes Try.prog 18 = [0] := by kernel_rfl
noncomputable def F18_0 : Field := (fieldOf Try.prog 18 0).getD default
@[simp] theorem fo18_0 : fieldOf Try.prog 18 0 = some F18_0 := by kernel_rfl
@[simp] theorem ft18_0 : F18_0.type = 17 := by kernel_rfl
@[simp] theorem fx18_0 : F18_0.offset = 0 := by kernel_rfl
@[simp] theorem inf19 : Try.prog.info? 19 = some Try.t19 := by kernel_rfl
@[simp] theorem tsz19 : Try.t19.size = 1 := by kernel_rfl
@[simp] theorem tby19 : Try.t19.bytes = 8 := by kernel_rfl
@[simp] theorem agg19 : aggT Try.prog 19 = some true := by kernel_rfl
@[simp] theorem slot19 : slotSize Try.prog 19 = 0 := by kernel_rfl
attribute [simp] Try.underlying19
@[simp] theorem zero19 : zeroV Try.prog 19 = some (.agg [(.nilx 0)]) := by kernel_rfl
@[simp] theorem slots19 : slotSizes Try.prog 19 = [0] := by kernel_rfl
noncomputable def F19_0 : Field := (fieldOf Try.prog 19 0).getD default
@[simp] theorem fo19_0 : fieldOf Try.prog 19 0 = some F19_0 := by kernel_rfl
@[simp] theorem ft19_0 : F19_0.type = 17 := by kernel_rfl
@[simp] theorem fx19_0 : F19_0.offset = 0 := by kernel_rfl
@[simp] theorem inf21 : Try.prog.info? 21 = some Try.t21 := by kernel_rfl
@[simp] theorem tsz21 : Try.t21.size = 1 := by kernel_rfl
@[simp] theorem tby21 : Try.t21.bytes = 4 := by kernel_rfl
@[simp] theorem agg21 : aggT Try.prog 21 = some false := by kernel_rfl
@[simp] theorem slot21 : slotSize Try.prog 21 = 0 := by kernel_rfl
attribute [simp] Try.underlying21
@[simp] theorem zero21 : zeroV Try.prog 21 = some (.int .i32 0) := by kernel_rfl
@[simp] theorem inf22 : Try.prog.info? 22 = some Try.t22 := by kernel_rfl
@[simp] theorem tsz22 : Try.t22.size = 1 := by kernel_rfl
@[simp] theorem tby22 : Try.t22.bytes = 24 := by kernel_rfl
@[simp] theorem agg22 : aggT Try.prog 22 = some false := by kernel_rfl
@[simp] theorem slot22 : slotSize Try.prog 22 = 2 := by kernel_rfl
attribute [simp] Try.underlying22
@[simp] theorem zero22 : zeroV Try.prog 22 = some .nils := by kernel_rfl
@[simp] theorem elem22 : elemT Try.prog 22 = some Try.t24 := by kernel_rfl
@[simp] theorem inf23 : Try.prog.info? 23 = some Try.t23 := by kernel_rfl
@[simp] theorem tsz23 : Try.t23.size = 2 := by kernel_rfl
@[simp] theorem tby23 : Try.t23.bytes = 16 := by kernel_rfl
@[simp] theorem agg23 : aggT Try.prog 23 = some true := by kernel_rfl
@[simp] theorem slot23 : slotSize Try.prog 23 = 0 := by kernel_rfl
attribute [simp] Try.underlying23
@[simp] theorem zero23 : zeroV Try.prog 23 = some (.agg [(.int .i64 0), (.int .i64 0)]) := by kernel_rfl
@[simp] theorem slots23 : slotSizes Try.prog 23 = [0, 0] := by kernel_rfl
noncomputable def F23_0 : Field := (fieldOf Try.prog 23 0).getD default
@[simp] theorem fo23_0 : fieldOf Try.prog 23 0 = some F23_0 := by kernel_rfl
@[simp] theorem ft23_0 : F23_0.type = 3 := by kernel_rfl
@[simp] theorem fx23_0 : F23_0.offset = 0 := by kernel_rfl
noncomputable def F23_1 : Field := (fieldOf Try.prog 23 1).getD default
@[simp] theorem fo23_1 : fieldOf Try.prog 23 1 = some F23_1 := by kernel_rfl
@[simp] theorem ft23_1 : F23_1.type = 3 := by kernel_rfl
@[simp] theorem fx23_1 : F23_1.offset = 1 := by kernel_rfl
@[simp] theorem inf24 : Try.prog.info? 24 = some Try.t24 := by kernel_rfl
@[simp] theorem tsz24 : Try.t24.size = 2 := by kernel_rfl
@[simp] theorem tby24 : Try.t24.bytes = 16 := by kernel_rfl
@[simp] theorem agg24 : aggT Try.prog 24 = some true := by kernel_rfl
@[simp] theorem slot24 : slotSize Try.prog 24 = 0 := by kernel_rfl
attribute [simp] Try.underlying24
@[simp] theorem zero24 : zeroV Try.prog 24 = some (.agg [(.int .i64 0), (.int .i64 0)]) := by kernel_rfl
@[simp] theorem slots24 : slotSizes Try.prog 24 = [0, 0] := by kernel_rfl
noncomputable def F24_0 : Field := (fieldOf Try.prog 24 0).getD default
@[simp] theorem fo24_0 : fieldOf Try.prog 24 0 = some F24_0 := by kernel_rfl
@[simp] theorem ft24_0 : F24_0.type = 3 := by kernel_rfl
@[simp] theorem fx24_0 : F24_0.offset = 0 := by kernel_rfl
noncomputable def F24_1 : Field := (fieldOf Try.prog 24 1).getD default
@[simp] theorem fo24_1 : fieldOf Try.prog 24 1 = some F24_1 := by kernel_rfl
@[simp] theorem ft24_1 : F24_1.type = 3 := by kernel_rfl
@[simp] theorem fx24_1 : F24_1.offset = 1 := by kernel_rfl
@[simp] theorem inf25 : Try.prog.info? 25 = some Try.t25 := by kernel_rfl
@[simp] theorem tsz25 : Try.t25.size = 1 := by kernel_rfl
@[simp] theorem tby25 : Try.t25.bytes = 8 := by kernel_rfl
@[simp] theorem agg25 : aggT Try.prog 25 = some false := by kernel_rfl
@[simp] theorem slot25 : slotSize Try.prog 25 = 0 := by kernel_rfl
attribute [simp] Try.underlying25
@[simp] theorem zero25 : zeroV Try.prog 25 = some (.nilx 1) := by kernel_rfl
@[simp] theorem inf26 : Try.prog.info? 26 = some Try.t26 := by kernel_rfl
@[simp] theorem tsz26 : Try.t26.size = 1 := by kernel_rfl
@[simp] theorem tby26 : Try.t26.bytes = 8 := by kernel_rfl
@[simp] theorem agg26 : aggT Try.prog 26 = some false := by kernel_rfl
@[simp] theorem slot26 : slotSize Try.prog 26 = 0 := by kernel_rfl
attribute [simp] Try.underlying26
@[simp] theorem zero26 : zeroV Try.prog 26 = some (.nilx 1) := by kernel_rfl
@[simp] theorem inf28 : Try.prog.info? 28 = some Try.t28 := by kernel_rfl
@[simp] theorem tsz28 : Try.t28.size = 1 := by kernel_rfl
@[simp] theorem tby28 : Try.t28.bytes = 8 := by kernel_rfl
@[simp] theorem agg28 : aggT Try.prog 28 = some false := by kernel_rfl
@[simp] theorem slot28 : slotSize Try.prog 28 = 0 := by kernel_rfl
attribute [simp] Try.underlying28
@[simp] theorem zero28 : zeroV Try.prog 28 = some (.nilx 1) := by kernel_rfl
@[simp] theorem inf29 : Try.prog.info? 29 = some Try.t29 := by kernel_rfl
@[simp] theorem tsz29 : Try.t29.size = 1 := by kernel_rfl
@[simp] theorem tby29 : Try.t29.bytes = 8 := by kernel_rfl
@[simp] theorem agg29 : aggT Try.prog 29 = some false := by kernel_rfl
@[simp] theorem slot29 : slotSize Try.prog 29 = 0 := by kernel_rfl
attribute [simp] Try.underlying29
@[simp] theorem zero29 : zeroV Try.prog 29 = some (.nilx 1) := by kernel_rfl
@[simp] theorem inf30 : Try.prog.info? 30 = some Try.t30 := by kernel_rfl
@[simp] theorem tsz30 : Try.t30.size = 1 := by kernel_rfl
@[simp] theorem tby30 : Try.t30.bytes = 8 := by kernel_rfl
@[simp] theorem agg30 : aggT Try.prog 30 = some false := by kernel_rfl
@[simp] theorem slot30 : slotSize Try.prog 30 = 0 := by kernel_rfl
attribute [simp] Try.underlying30
@[simp] theorem zero30 : zeroV Try.prog 30 = some (.nilx 1) := by kernel_rfl
@[simp] theorem inf31 : Try.prog.info? 31 = some Try.t31 := by kernel_rfl
@[simp] theorem tsz31 : Try.t31.size = 6 := by kernel_rfl
@[simp] theorem tby31 : Try.t31.bytes = 48 := by kernel_rfl
@[simp] theorem agg31 : aggT Try.prog 31 = some true := by kernel_rfl
@[simp] theorem slot31 : slotSize Try.prog 31 = 0 := by kernel_rfl
attribute [simp] Try.underlying31
@[simp] theorem zero31 : zeroV Try.prog 31 = some (.agg [(.int .i64 0), (.int .i64 0), (.int .i64 0), (.int .i64 0), (.int .i64 0), (.int .i64 0)]) := by kernel_rfl
@[simp] theorem inf32 : Try.prog.info? 32 = some Try.t32 := by kernel_rfl
@[simp] theorem tsz32 : Try.t32.size = 2 := by kernel_rfl
@[simp] theorem tby32 : Try.t32.bytes = 16 := by kernel_rfl
@[simp] theorem agg32 : aggT Try.prog 32 = some true := by kernel_rfl
@[simp] theorem slot32 : slotSize Try.prog 32 = 0 := by kernel_rfl
attribute [simp] Try.underlying32
@[simp] theorem zero32 : zeroV Try.prog 32 = some (.agg [(.int .i64 0), (.int .i64 0)]) := by kernel_rfl
@[simp] theorem inf33 : Try.prog.info? 33 = some Try.t33 := by kernel_rfl
@[simp] theorem tsz33 : Try.t33.size = 10 := by kernel_rfl
@[simp] theorem tby33 : Try.t33.bytes = 80 := by kernel_rfl
@[simp] theorem agg33 : aggT Try.prog 33 = some true := by kernel_rfl
@[simp] theorem slot33 : slotSize Try.prog 33 = 0 := by kernel_rfl
attribute [simp] Try.underlying33
@[simp] theorem zero33 : zeroV Try.prog 33 = some (.agg [(.int .i64 0), (.int .i64 0), (.int .i64 0), (.int .i64 0), (.int .i64 0), (.int .i64 0), (.int .i64 0), (.int .i64 0), (.int .i64 0), (.int .i64 0)]) := by kernel_rfl
@[simp] theorem slots33 : slotSizes Try.prog 33 = [0, 0, 0, 0, 0, 0, 0, 0, 0, 0] := by kernel_rfl
noncomputable def F33_0 : Field := (fieldOf Try.prog 33 0).getD default
@[simp] theorem fo33_0 : fieldOf Try.prog 33 0 = some F33_0 := by kernel_rfl
@[simp] theorem ft33_0 : F33_0.type = 31 := by kernel_rfl
@[simp] theorem fx33_0 : F33_0.offset = 0 := by kernel_rfl
noncomputable def F33_1 : Field := (fieldOf Try.prog 33 1).getD default
@[simp] theorem fo33_1 : fieldOf Try.prog 33 1 = some F33_1 := by kernel_rfl
@[simp] theorem ft33_1 : F33_1.type = 32 := by kernel_rfl
@[simp] theorem fx33_1 : F33_1.offset = 6 := by kernel_rfl
noncomputable def F33_2 : Field := (fieldOf Try.prog 33 2).getD default
@[simp] theorem fo33_2 : fieldOf Try.prog 33 2 = some F33_2 := by kernel_rfl
@[simp] theorem ft33_2 : F33_2.type = 3 := by kernel_rfl
@[simp] theorem fx33_2 : F33_2.offset = 8 := by kernel_rfl
noncomputable def F33_3 : Field := (fieldOf Try.prog 33 3).getD default
@[simp] theorem fo33_3 : fieldOf Try.prog 33 3 = some F33_3 := by kernel_rfl
@[simp] theorem ft33_3 : F33_3.type = 3 := by kernel_rfl
@[simp] theorem fx33_3 : F33_3.offset = 9 := by kernel_rfl
@[simp] theorem inf34 : Try.prog.info? 34 = some Try.t34 := by kernel_rfl
@[simp] theorem tsz34 : Try.t34.size = 10 := by kernel_rfl
@[simp] theorem tby34 : Try.t34.bytes = 80 := by kernel_rfl
@[simp] theorem agg34 : aggT Try.prog 34 = some true := by kernel_rfl
@[simp] theorem slot34 : slotSize Try.prog 34 = 0 := by kernel_rfl
attribute [simp] Try.underlying34
@[simp] theorem zero34 : zeroV Try.prog 34 = some (.agg [(.int .i64 0), (.int .i64 0), (.int .i64 0), (.int .i64 0), (.int .i64 0), (.int .i64 0), (.int .i64 0), (.int .i64 0), (.int .i64 0), (.int .i64 0)]) := by kernel_rfl
@[simp] theorem slots34 : slotSizes Try.prog 34 = [0, 0, 0, 0, 0, 0, 0, 0, 0, 0] := by kernel_rfl
noncomputable def F34_0 : Field := (fieldOf Try.prog 34 0).getD default
@[simp] theorem fo34_0 : fieldOf Try.prog 34 0 = some F34_0 := by kernel_rfl
@[simp] theorem ft34_0 : F34_0.type = 31 := by kernel_rfl
@[simp] theorem fx34_0 : F34_0.offset = 0 := by kernel_rfl
noncomputable def F34_1 : Field := (fieldOf Try.prog 34 1).getD default
@[simp] theorem fo34_1 : fieldOf Try.prog 34 1 = some F34_1 := by kernel_rfl
@[simp] theorem ft34_1 : F34_1.type = 32 := by kernel_rfl
@[simp] theorem fx34_1 : F34_1.offset = 6 := by kernel_rfl
noncomputable def F34_2 : Field := (fieldOf Try.prog 34 2).getD default
@[simp] theorem fo34_2 : fieldOf Try.prog 34 2 = some F34_2 := by kernel_rfl
@[simp] theorem ft34_2 : F34_2.type = 3 := by kernel_rfl
@[simp] theorem fx34_2 : F34_2.offset = 8 := by kernel_rfl
noncomputable def F34_3 : Field := (fieldOf Try.prog 34 3).getD default
@[simp] theorem fo34_3 : fieldOf Try.prog 34 3 = some F34_3 := by kernel_rfl
@[simp] theorem ft34_3 : F34_3.type = 3 := by kernel_rfl
@[simp] theorem fx34_3 : F34_3.offset = 9 := by kernel_rfl
@[simp] theorem inf35 : Try.prog.info? 35 = some Try.t35 := by kernel_rfl
@[simp] theorem tsz35 : Try.t35.size = 1 := by kernel_rfl
@[simp] theorem tby35 : Try.t35.bytes = 24 := by kernel_rfl
@[simp] theorem agg35 : aggT Try.prog 35 = some false := by kernel_rfl
@[simp] theorem slot35 : slotSize Try.prog 35 = 1 := by kernel_rfl
attribute [simp] Try.underlying35
@[simp] theorem zero35 : zeroV Try.prog 35 = some .nils := by kernel_rfl
@[simp] theorem elem35 : elemT Try.prog 35 = some Try.t3 := by kernel_rfl
@[simp] theorem inf36 : Try.prog.info? 36 = some Try.t36 := by kernel_rfl
@[simp] theorem tsz36 : Try.t36.size = 4 := by kernel_rfl
@[simp] theorem tby36 : Try.t36.bytes = 32 := by kernel_rfl
@[simp] theorem agg36 : aggT Try.prog 36 = some true := by kernel_rfl
@[simp] theorem slot36 : slotSize Try.prog 36 = 0 := by kernel_rfl
attribute [simp] Try.underlying36
@[simp] theorem zero36 : zeroV Try.prog 36 = some (.agg [(.int .i64 0), (.int .i64 0), (.int .i64 0), (.bool false)]) := by kernel_rfl
@[simp] theorem slots36 : slotSizes Try.prog 36 = [0, 0, 0, 0] := by kernel_rfl
noncomputable def F36_0 : Field := (fieldOf Try.prog 36 0).getD default
@[simp] theorem fo36_0 : fieldOf Try.prog 36 0 = some F36_0 := by kernel_rfl
@[simp] theorem ft36_0 : F36_0.type = 3 := by kernel_rfl
@[simp] theorem fx36_0 : F36_0.offset = 0 := by kernel_rfl
noncomputable def F36_1 : Field := (fieldOf Try.prog 36 1).getD default
@[simp] theorem fo36_1 : fieldOf Try.prog 36 1 = some F36_1 := by kernel_rfl
@[simp] theorem ft36_1 : F36_1.type = 3 := by kernel_rfl
@[simp] theorem fx36_1 : F36_1.offset = 1 := by kernel_rfl
noncomputable def F36_2 : Field := (fieldOf Try.prog 36 2).getD default
@[simp] theorem fo36_2 : fieldOf Try.prog 36 2 = some F36_2 := by kernel_rfl
@[simp] theorem ft36_2 : F36_2.type = 3 := by kernel_rfl
@[simp] theorem fx36_2 : F36_2.offset = 2 := by kernel_rfl
noncomputable def F36_3 : Field := (fieldOf Try.prog 36 3).getD default
@[simp] theorem fo36_3 : fieldOf Try.prog 36 3 = some F36_3 := by kernel_rfl
@[simp] theorem ft36_3 : F36_3.type = 4 := by kernel_rfl
@[simp] theorem fx36_3 : F36_3.offset = 3 := by kernel_rfl
@[simp] theorem inf37 : Try.prog.info? 37 = some Try.t37 := by kernel_rfl
@[simp] theorem tsz37 : Try.t37.size = 4 := by kernel_rfl
@[simp] theorem tby37 : Try.t37.bytes = 32 := by kernel_rfl
@[simp] theorem agg37 : aggT Try.prog 37 = some true := by kernel_rfl
@[simp] theorem slot37 : slotSize Try.prog 37 = 0 := by kernel_rfl
attribute [simp] Try.underlying37
@[simp] theorem zero37 : zeroV Try.prog 37 = some (.agg [(.int .i64 0), (.int .i64 0), (.int .i64 0), (.bool false)]) := by kernel_rfl
@[simp] theorem slots37 : slotSizes Try.prog 37 = [0, 0, 0, 0] := by kernel_rfl
noncomputable def F37_0 : Field := (fieldOf Try.prog 37 0).getD default
@[simp] theorem fo37_0 : fieldOf Try.prog 37 0 = some F37_0 := by kernel_rfl
@[simp] theorem ft37_0 : F37_0.type = 3 := by kernel_rfl
@[simp] theorem fx37_0 : F37_0.offset = 0 := by kernel_rfl
noncomputable def F37_1 : Field := (fieldOf Try.prog 37 1).getD default
@[simp] theorem fo37_1 : fieldOf Try.prog 37 1 = some F37_1 := by kernel_rfl
@[simp] theorem ft37_1 : F37_1.type = 3 := by kernel_rfl
@[simp] theorem fx37_1 : F37_1.offset = 1 := by kernel_rfl
noncomputable def F37_2 : Field := (fieldOf Try.prog 37 2).getD default
@[simp] theorem fo37_2 : fieldOf Try.prog 37 2 = some F37_2 := by kernel_rfl
@[simp] theorem ft37_2 : F37_2.type = 3 := by kernel_rfl
@[simp] theorem fx37_2 : F37_2.offset = 2 := by kernel_rfl
noncomputable def F37_3 : Field := (fieldOf Try.prog 37 3).getD default
@[simp] theorem fo37_3 : fieldOf Try.prog 37 3 = some F37_3 := by kernel_rfl
@[simp] theorem ft37_3 : F37_3.type = 4 := by kernel_rfl
@[simp] theorem fx37_3 : F37_3.offset = 3 := by kernel_rfl
@[simp] theorem inf38 : Try.prog.info? 38 = some Try.t38 := by kernel_rfl
@[simp] theorem tsz38 : Try.t38.size = 32 := by kernel_rfl
@[simp] theorem tby38 : Try.t38.bytes = 256 := by kernel_rfl
@[simp] theorem agg38 : aggT Try.prog 38 = some true := by kernel_rfl
@[simp] theorem slot38 : slotSize Try.prog 38 = 0 := by kernel_rfl
attribute [simp] Try.underlying38
@[simp] theorem zero38 : zeroV Try.prog 38 = some (.agg [(.int .i64 0), (.int .i64 0), (.int .i64 0), (.bool false), (.int .i64 0), (.int .i64 0), (.int .i64 0), (.bool false), (.int .i64 0), (.int .i64 0), (.int .i64 0), (.bool false), (.int .i64 0), (.int .i64 0), (.int .i64 0), (.bool false), (.int .i64 0), (.int .i64 0), (.int .i64 0), (.bool false), (.int .i64 0), (.int .i64 0), (.int .i64 0), (.bool false), (.int .i64 0), (.int .i64 0), (.int .i64 0), (.bool false), (.int .i64 0), (.int .i64 0), (.int .i64 0), (.bool false)]) := by kernel_rfl
@[simp] theorem inf39 : Try.prog.info? 39 = some Try.t39 := by kernel_rfl
@[simp] theorem tsz39 : Try.t39.size = 64 := by kernel_rfl
@[simp] theorem tby39 : Try.t39.bytes = 512 := by kernel_rfl
@[simp] theorem agg39 : aggT Try.prog 39 = some true := by kernel_rfl
@[simp] theorem slot39 : slotSize Try.prog 39 = 0 := by kernel_rfl
attribute [simp] Try.underlying39
@[simp] theorem zero39 : zeroV Try.prog 39 = some (.agg [(.int .i64 0), (.int .i64 0), (.int .i64 0), (.bool false), (.int .i64 0), (.int .i64 0), (.int .i64 0), (.bool false), (.int .i64 0), (.int .i64 0), (.int .i64 0), (.bool false), (.int .i64 0), (.int .i64 0), (.int .i64 0), (.bool false), (.int .i64 0), (.int .i64 0), (.int .i64 0), (.bool false), (.int .i64 0), (.int .i64 0), (.int .i64 0), (.bool false), (.int .i64 0), (.int .i64 0), (.int .i64 0), (.bool false), (.int .i64 0), (.int .i64 0), (.int .i64 0), (.bool false), (.int .i64 0), (.int .i64 0), (.int .i64 0), (.bool false), (.int .i64 0), (.int .i64 0), (.int .i64 0), (.bool false), (.int .i64 0), (.int .i64 0), (.int .i64 0), (.bool false), (.int .i64 0), (.int .i64 0), (.int .i64 0), (.bool false), (.int .i64 0), (.int .i64 0), (.int .i64 0), (.bool false), (.int .i64 0), (.int .i64 0), (.int .i64 0), (.bool false), (.int .i64 0), (.int .i64 0), (.int .i64 0), (.bool false), (.int .i64 0), (.int .i64 0), (.int .i64 0), (.bool false)]) := by kernel_rfl
@[simp] theorem inf40 : Try.prog.info? 40 = some Try.t40 := by kernel_rfl
@[simp] theorem tsz40 : Try.t40.size = 67 := by kernel_rfl
@[simp] theorem tby40 : Try.t40.bytes = 536 := by kernel_rfl
@[simp] theorem agg40 : aggT Try.prog 40 = some true := by kernel_rfl
@[simp] theorem slot40 : slotSize Try.prog 40 = 0 := by kernel_rfl
attribute [simp] Try.underlying40
@[simp] theorem zero40 : zeroV Try.prog 40 = some (.agg [(.bool false), (.int .i64 0), (.int .i64 0), (.int .i64 0), (.bool false), (.int .i64 0), (.int .i64 0), (.int .i64 0), (.bool false), (.int .i64 0), (.int .i64 0), (.int .i64 0), (.bool false), (.int .i64 0), (.int .i64 0), (.int .i64 0), (.bool false), (.int .i64 0), (.int .i64 0), (.int .i64 0), (.bool false), (.int .i64 0), (.int .i64 0), (.int .i64 0), (.bool false), (.int .i64 0), (.int .i64 0), (.int .i64 0), (.bool false), (.int .i64 0), (.int .i64 0), (.int .i64 0), (.bool false), (.int .i64 0), (.int .i64 0), (.int .i64 0), (.bool false), (.int .i64 0), (.int .i64 0), (.int .i64 0), (.bool false), (.int .i64 0), (.int .i64 0), (.int .i64 0), (.bool false), (.int .i64 0), (.int .i64 0), (.int .i64 0), (.bool false), (.int .i64 0), (.int .i64 0), (.int .i64 0), (.bool false), (.int .i64 0), (.int .i64 0), (.int .i64 0), (.bool false), (.int .i64 0), (.int .i64 0), (.int .i64 0), (.bool false), (.int .i64 0), (.int .i64 0), (.int .i64 0), (.bool false), (.int .i64 0), (.int .i64 0)]) := by kernel_rfl
@[simp] theorem slots40 : slotSizes Try.prog 40 = [0, 0, 0, 0, 0, 0, 0, 0, 0, 0, 0, 0, 0, 0, 0, 0, 0, 0, 0, 0, 0, 0, 0, 0, 0, 0, 0, 0, 0, 0, 0, 0, 0, 0, 0, 0, 0, 0, 0, 0, 0, 0, 0, 0, 0, 0, 0, 0, 0, 0, 0, 0, 0, 0, 0, 0, 0, 0, 0, 0, 0, 0, 0, 0, 0, 0, 0] := by kernel_rfl
noncomputable def F40_0 : Field := (fieldOf Try.prog 40 0).getD default
@[simp] theorem fo40_0 : fieldOf Try.prog 40 0 = some F40_0 := by kernel_rfl
@[simp] theorem ft40_0 : F40_0.type = 4 := by kernel_rfl
@[simp] theorem fx40_0 : F40_0.offset = 0 := by kernel_rfl
noncomputable def F40_1 : Field := (fieldOf Try.prog 40 1).getD default
@[simp] theorem fo40_1 : fieldOf Try.prog 40 1 = some F40_1 := by kernel_rfl
@[simp] theorem ft40_1 : F40_1.type = 39 := by kernel_rfl
@[simp] theorem fx40_1 : F40_1.offset = 1 := by kernel_rfl
noncomputable def F40_2 : Field := (fieldOf Try.prog 40 2).getD default
@[simp] theorem fo40_2 : fieldOf Try.prog 40 2 = some F40_2 := by kernel_rfl
@[simp] theorem ft40_2 : F40_2.type = 3 := by kernel_rfl
@[simp] theorem fx40_2 : F40_2.offset = 65 := by kernel_rfl
noncomputable def F40_3 : Field := (fieldOf Try.prog 40 3).getD default
@[simp] theorem fo40_3 : fieldOf Try.prog 40 3 = some F40_3 := by kernel_rfl
@[simp] theorem ft40_3 : F40_3.type = 3 := by kernel_rfl
@[simp] theorem fx40_3 : F40_3.offset = 66 := by kernel_rfl
@[simp] theorem inf41 : Try.prog.info? 41 = some Try.t41 := by kernel_rfl
@[simp] theorem tsz41 : Try.t41.size = 67 := by kernel_rfl
@[simp] theorem tby41 : Try.t41.bytes = 536 := by kernel_rfl
@[simp] theorem agg41 : aggT Try.prog 41 = some true := by kernel_rfl
@[simp] theorem slot41 : slotSize Try.prog 41 = 0 := by kernel_rfl
attribute [simp] Try.underlying41
@[simp] theorem zero41 : zeroV Try.prog 41 = some (.agg [(.bool false), (.int .i64 0), (.int .i64 0), (.int .i64 0), (.bool false), (.int .i64 0), (.int .i64 0), (.int .i64 0), (.bool false), (.int .i64 0), (.int .i64 0), (.int .i64 0), (.bool false), (.int .i64 0), (.int .i64 0), (.int .i64 0), (.bool false), (.int .i64 0), (.int .i64 0), (.int .i64 0), (.bool false), (.int .i64 0), (.int .i64 0), (.int .i64 0), (.bool false), (.int .i64 0), (.int .i64 0), (.int .i64 0), (.bool false), (.int .i64 0), (.int .i64 0), (.int .i64 0), (.bool false), (.int .i64 0), (.int .i64 0), (.int .i64 0), (.bool false), (.int .i64 0), (.int .i64 0), (.int .i64 0), (.bool false), (.int .i64 0), (.int .i64 0), (.int .i64 0), (.bool false), (.int .i64 0), (.int .i64 0), (.int .i64 0), (.bool false), (.int .i64 0), (.int .i64 0), (.int .i64 0), (.bool false), (.int .i64 0), (.int .i64 0), (.int .i64 0), (.bool false), (.int .i64 0), (.int .i64 0), (.int .i64 0), (.bool false), (.int .i64 0), (.int .i64 0), (.int .i64 0), (.bool false), (.int .i64 0), (.int .i64 0)]) := by kernel_rfl
@[simp] theorem slots41 : slotSizes Try.prog 41 = [0, 0, 0, 0, 0, 0, 0, 0, 0, 0, 0, 0, 0, 0, 0, 0, 0, 0, 0, 0, 0, 0, 0, 0, 0, 0, 0, 0, 0, 0, 0, 0, 0, 0, 0, 0, 0, 0, 0, 0, 0, 0, 0, 0, 0, 0, 0, 0, 0, 0, 0, 0, 0, 0, 0, 0, 0, 0, 0, 0, 0, 0, 0, 0, 0, 0, 0] := by kernel_rfl
noncomputable def F41_0 : Field := (fieldOf Try.prog 41 0).getD default
@[simp] theorem fo41_0 : fieldOf Try.prog 41 0 = some F41_0 := by kernel_rfl
@[simp] theorem ft41_0 : F41_0.type = 4 := by kernel_rfl
@[simp] theorem fx41_0 : F41_0.offset = 0 := by kernel_rfl
noncomputable def F41_1 : Field := (fieldOf Try.prog 41 1).getD default
@[simp] theorem fo41_1 : fieldOf Try.prog 41 1 = some F41_1 := by kernel_rfl
@[simp] theorem ft41_1 : F41_1.type = 39 := by kernel_rfl
@[simp] theorem fx41_1 : F41_1.offset = 1 := by kernel_rfl
noncomputable def F41_2 : Field := (fieldOf Try.prog 41 2).getD default
@[simp] theorem fo41_2 : fieldOf Try.prog 41 2 = some F41_2 := by kernel_rfl
@[simp] theorem ft41_2 : F41_2.type = 3 := by kernel_rfl
@[simp] theorem fx41_2 : F41_2.offset = 65 := by kernel_rfl
noncomputable def F41_3 : Field := (fieldOf Try.prog 41 3).getD default
@[simp] theorem fo41_3 : fieldOf Try.prog 41 3 = some F41_3 := by kernel_rfl
@[simp] theorem ft41_3 : F41_3.type = 3 := by kernel_rfl
@[simp] theorem fx41_3 : F41_3.offset = 66 := by kernel_rfl
@[simp] theorem inf42 : Try.prog.info? 42 = some Try.t42 := by kernel_rfl
@[simp] theorem tsz42 : Try.t42.size = 4 := by kernel_rfl
@[simp] theorem tby42 : Try.t42.bytes = 24 := by kernel_rfl
@[simp] theorem agg42 : aggT Try.prog 42 = some true := by kernel_rfl
@[simp] theorem slot42 : slotSize Try.prog 42 = 0 := by kernel_rfl
attribute [simp] Try.underlying42
@[simp] theorem zero42 : zeroV Try.prog 42 = some (.agg [(.bool false), (.bool false), (.int .i64 0), (.int .i64 0)]) := by kernel_rfl
@[simp] theorem slots42 : slotSizes Try.prog 42 = [0, 0, 0, 0] := by kernel_rfl
noncomputable def F42_0 : Field := (fieldOf Try.prog 42 0).getD default
@[simp] theorem fo42_0 : fieldOf Try.prog 42 0 = some F42_0 := by kernel_rfl
@[simp] theorem ft42_0 : F42_0.type = 4 := by kernel_rfl
@[simp] theorem fx42_0 : F42_0.offset = 0 := by kernel_rfl
noncomputable def F42_1 : Field := (fieldOf Try.prog 42 1).getD default
@[simp] theorem fo42_1 : fieldOf Try.prog 42 1 = some F42_1 := by kernel_rfl
@[simp] theorem ft42_1 : F42_1.type = 4 := by kernel_rfl
@[simp] theorem fx42_1 : F42_1.offset = 1 := by kernel_rfl
noncomputable def F42_2 : Field := (fieldOf Try.prog 42 2).getD default
@[simp] theorem fo42_2 : fieldOf Try.prog 42 2 = some F42_2 := by kernel_rfl
@[simp] theorem ft42_2 : F42_2.type = 3 := by kernel_rfl
@[simp] theorem fx42_2 : F42_2.offset = 2 := by kernel_rfl
noncomputable def F42_3 : Field := (fieldOf Try.prog 42 3).getD default
@[simp] theorem fo42_3 : fieldOf Try.prog 42 3 = some F42_3 := by kernel_rfl
@[simp] theorem ft42_3 : F42_3.type = 3 := by kernel_rfl
@[simp] theorem fx42_3 : F42_3.offset = 3 := by kernel_rfl
@[simp] theorem inf43 : Try.prog.info? 43 = some Try.t43 := by kernel_rfl
@[simp] theorem tsz43 : Try.t43.size = 4 := by kernel_rfl
@[simp] theorem tby43 : Try.t43.bytes = 24 := by kernel_rfl
@[simp] theorem agg43 : aggT Try.prog 43 = some true := by kernel_rfl
@[simp] theorem slot43 : slotSize Try.prog 43 = 0 := by kernel_rfl
attribute [simp] Try.underlying43
@[simp] theorem zero43 : zeroV Try.prog 43 = some (.agg [(.bool false), (.bool false), (.int .i64 0), (.int .i64 0)]) := by kernel_rfl
@[simp] theorem slots43 : slotSizes Try.prog 43 = [0, 0, 0, 0] := by kernel_rfl
noncomputable def F43_0 : Field := (fieldOf Try.prog 43 0).getD default
@[simp] theorem fo43_0 : fieldOf Try.prog 43 0 = some F43_0 := by kernel_rfl
@[simp] theorem ft43_0 : F43_0.type = 4 := by kernel_rfl
@[simp] theorem fx43_0 : F43_0.offset = 0 := by kernel_rfl
noncomputable def F43_1 : Field := (fieldOf Try.prog 43 1).getD default
@[simp] theorem fo43_1 : fieldOf Try.prog 43 1 = some F43_1 := by kernel_rfl
@[simp] theorem ft43_1 : F43_1.type = 4 := by kernel_rfl
@[simp] theorem fx43_1 : F43_1.offset = 1 := by kernel_rfl
noncomputable def F43_2 : Field := (fieldOf Try.prog 43 2).getD default
@[simp] theorem fo43_2 : fieldOf Try.prog 43 2 = some F43_2 := by kernel_rfl
@[simp] theorem ft43_2 : F43_2.type = 3 := by kernel_rfl
@[simp] theorem fx43_2 : F43_2.offset = 2 := by kernel_rfl
noncomputable def F43_3 : Field := (fieldOf Try.prog 43 3).getD default
@[simp] theorem fo43_3 : fieldOf Try.prog 43 3 = some F43_3 := by kernel_rfl
@[simp] theorem ft43_3 : F43_3.type = 3 := by kernel_rfl
@[simp] theorem fx43_3 : F43_3.offset = 3 := by kernel_rfl
@[simp] theorem inf44 : Try.prog.info? 44 = some Try.t44 := by kernel_rfl
@[simp] theorem tsz44 : Try.t44.size = 1 := by kernel_rfl
@[simp] theorem tby44 : Try.t44.bytes = 24 := by kernel_rfl
@[simp] theorem agg44 : aggT Try.prog 44 = some false := by kernel_rfl
@[simp] theorem slot44 : slotSize Try.prog 44 = 9 := by kernel_rfl
attribute [simp] Try.underlying44
@[simp] theorem zero44 : zeroV Try.prog 44 = some .nils := by kernel_rfl
@[simp] theorem elem44 : elemT Try.prog 44 = some Try.t174 := by kernel_rfl
@[simp] theorem inf45 : Try.prog.info? 45 = some Try.t45 := by kernel_rfl
@[simp] theorem tsz45 : Try.t45.size = 1 := by kernel_rfl
@[simp] theorem tby45 : Try.t45.bytes = 24 := by kernel_rfl
@[simp] theorem agg45 : aggT Try.prog 45 = some false := by kernel_rfl
@[simp] theorem slot45 : slotSize Try.prog 45 = 1 := by kernel_rfl
attribute [simp] Try.underlying45
@[simp] theorem zero45 : zeroV Try.prog 45 = some .nils := by kernel_rfl
@[simp] theorem elem45 : elemT Try.prog 45 = some Try.t9 := by kernel_rfl
@[simp] theorem inf46 : Try.prog.info? 46 = some Try.t46 := by kernel_rfl
@[simp] theorem tsz46 : Try.t46.size = 2 := by kernel_rfl
@[simp] theorem tby46 : Try.t46.bytes = 48 := by kernel_rfl
@[simp] theorem agg46 : aggT Try.prog 46 = some true := by kernel_rfl
@[simp] theorem slot46 : slotSize Try.prog 46 = 0 := by kernel_rfl
attribute [simp] Try.underlying46
@[simp] theorem zero46 : zeroV Try.prog 46 = some (.agg [.nils, .nils]) := by kernel_rfl
@[simp] theorem slots46 : slotSizes Try.prog 46 = [1, 1] := by kernel_rfl
noncomputable def F46_0 : Field := (fieldOf Try.prog 46 0).getD default
@[simp] theorem fo46_0 : fieldOf Try.prog 46 0 = some F46_0 := by kernel_rfl
@[simp] theorem ft46_0 : F46_0.type = 45 := by kernel_rfl
@[simp] theorem fx46_0 : F46_0.offset = 0 := by kernel_rfl
noncomputable def F46_1 : Field := (fieldOf Try.prog 46 1).getD default
@[simp] theorem fo46_1 : fieldOf Try.prog 46 1 = some F46_1 := by kernel_rfl
@[simp] theorem ft46_1 : F46_1.type = 35 := by kernel_rfl
@[simp] theorem fx46_1 : F46_1.offset = 1 := by kernel_rfl
@[simp] theorem inf47 : Try.prog.info? 47 = some Try.t47 := by kernel_rfl
@[simp] theorem tsz47 : Try.t47.size = 2 := by kernel_rfl
@[simp] theorem tby47 : Try.t47.bytes = 48 := by kernel_rfl
@[simp] theorem agg47 : aggT Try.prog 47 = some true := by kernel_rfl
@[simp] theorem slot47 : slotSize Try.prog 47 = 0 := by kernel_rfl
attribute [simp] Try.underlying47
@[simp] theorem zero47 : zeroV Try.prog 47 = some (.agg [.nils, .nils]) := by kernel_rfl
@[simp] theorem slots47 : slotSizes Try.prog 47 = [1, 1] := by kernel_rfl
noncomputable def F47_0 : Field := (fieldOf Try.prog 47 0).getD default
@[simp] theorem fo47_0 : fieldOf Try.prog 47 0 = some F47_0 := by kernel_rfl
@[simp] theorem ft47_0 : F47_0.type = 45 := by kernel_rfl
@[simp] theorem fx47_0 : F47_0.offset = 0 := by kernel_rfl
noncomputable def F47_1 : Field := (fieldOf Try.prog 47 1).getD default
@[simp] theorem fo47_1 : fieldOf Try.prog 47 1 = some F47_1 := by kernel_rfl
@[simp] theorem ft47_1 : F47_1.type = 35 := by kernel_rfl
@[simp] theorem fx47_1 : F47_1.offset = 1 := by kernel_rfl
@[simp] theorem inf48 : Try.prog.info? 48 = some Try.t48 := by kernel_rfl
@[simp] theorem tsz48 : Try.t48.size = 10 := by kernel_rfl
@[simp] theorem tby48 : Try.t48.bytes = 96 := by kernel_rfl
@[simp] theorem agg48 : aggT Try.prog 48 = some true := by kernel_rfl
@[simp] theorem slot48 : slotSize Try.prog 48 = 0 := by kernel_rfl
attribute [simp] Try.underlying48
@[simp] theorem zero48 : zeroV Try.prog 48 = some (.agg [.nils, .nils, (.bool false), (.bool false), (.bool false), (.int .i64 0), (.int .i64 0), (.int .i64 0), (.int .i64 0), (.int .i64 0)]) := by kernel_rfl
@[simp] theorem slots48 : slotSizes Try.prog 48 = [1, 1, 0, 0, 0, 0, 0, 0, 0, 0] := by kernel_rfl
noncomputable def F48_0 : Field := (fieldOf Try.prog 48 0).getD default
@[simp] theorem fo48_0 : fieldOf Try.prog 48 0 = some F48_0 := by kernel_rfl
@[simp] theorem ft48_0 : F48_0.type = 47 := by kernel_rfl
@[simp] theorem fx48_0 : F48_0.offset = 0 := by kernel_rfl
noncomputable def F48_1 : Field := (fieldOf Try.prog 48 1).getD default
@[simp] theorem fo48_1 : fieldOf Try.prog 48 1 = some F48_1 := by kernel_rfl
@[simp] theorem ft48_1 : F48_1.type = 4 := by kernel_rfl
@[simp] theorem fx48_1 : F48_1.offset = 2 := by kernel_rfl
noncomputable def F48_2 : Field := (fieldOf Try.prog 48 2).getD default
@[simp] theorem fo48_2 : fieldOf Try.prog 48 2 = some F48_2 := by kernel_rfl
@[simp] theorem ft48_2 : F48_2.type = 4 := by kernel_rfl
@[simp] theorem fx48_2 : F48_2.offset = 3 := by kernel_rfl
noncomputable def F48_3 : Field := (fieldOf Try.prog 48 3).getD default
@[simp] theorem fo48_3 : fieldOf Try.prog 48 3 = some F48_3 := by kernel_rfl
@[simp] theorem ft48_3 : F48_3.type = 4 := by kernel_rfl
@[simp] theorem fx48_3 : F48_3.offset = 4 := by kernel_rfl
noncomputable def F48_4 : Field := (fieldOf Try.prog 48 4).getD default
@[simp] theorem fo48_4 : fieldOf Try.prog 48 4 = some F48_4 := by kernel_rfl
@[simp] theorem ft48_4 : F48_4.type = 3 := by kernel_rfl
@[simp] theorem fx48_4 : F48_4.offset = 5 := by kernel_rfl
noncomputable def F48_5 : Field := (fieldOf Try.prog 48 5).getD default
@[simp] theorem fo48_5 : fieldOf Try.prog 48 5 = some F48_5 := by kernel_rfl
@[simp] theorem ft48_5 : F48_5.type = 3 := by kernel_rfl
@[simp] theorem fx48_5 : F48_5.offset = 6 := by kernel_rfl
noncomputable def F48_6 : Field := (fieldOf Try.prog 48 6).getD default
@[simp] theorem fo48_6 : fieldOf Try.prog 48 6 = some F48_6 := by kernel_rfl
@[simp] theorem ft48_6 : F48_6.type = 3 := by kernel_rfl
@[simp] theorem fx48_6 : F48_6.offset = 7 := by kernel_rfl
noncomputable def F48_7 : Field := (fieldOf Try.prog 48 7).getD default
@[simp] theorem fo48_7 : fieldOf Try.prog 48 7 = some F48_7 := by kernel_rfl
@[simp] theorem ft48_7 : F48_7.type = 3 := by kernel_rfl
@[simp] theorem fx48_7 : F48_7.offset = 8 := by kernel_rfl
noncomputable def F48_8 : Field := (fieldOf Try.prog 48 8).getD default
@[simp] theorem fo48_8 : fieldOf Try.prog 48 8 = some F48_8 := by kernel_rfl
@[simp] theorem ft48_8 : F48_8.type = 3 := by kernel_rfl
@[simp] theorem fx48_8 : F48_8.offset = 9 := by kernel_rfl
@[simp] theorem inf49 : Try.prog.info? 49 = some Try.t49 := by kernel_rfl
@[simp] theorem tsz49 : Try.t49.size = 10 := by kernel_rfl
@[simp] theorem tby49 : Try.t49.bytes = 96 := by kernel_rfl
@[simp] theorem agg49 : aggT Try.prog 49 = some true := by kernel_rfl
@[simp] theorem slot49 : slotSize Try.prog 49 = 0 := by kernel_rfl
attribute [simp] Try.underlying49
@[simp] theorem zero49 : zeroV Try.prog 49 = some (.agg [.nils, .nils, (.bool false), (.bool false), (.bool false), (.int .i64 0), (.int .i64 0), (.int .i64 0), (.int .i64 0), (.int .i64 0)]) := by kernel_rfl
@[simp] theorem slots49 : slotSizes Try.prog 49 = [1, 1, 0, 0, 0, 0, 0, 0, 0, 0] := by kernel_rfl
noncomputable def F49_0 : Field := (fieldOf Try.prog 49 0).getD default
@[simp] theorem fo49_0 : fieldOf Try.prog 49 0 = some F49_0 := by kernel_rfl
@[simp] theorem ft49_0 : F49_0.type = 47 := by kernel_rfl
@[simp] theorem fx49_0 : F49_0.offset = 0 := by kernel_rfl
noncomputable def F49_1 : Field := (fieldOf Try.prog 49 1).getD default
@[simp] theorem fo49_1 : fieldOf Try.prog 49 1 = some F49_1 := by kernel_rfl
@[simp] theorem ft49_1 : F49_1.type = 4 := by kernel_rfl
@[simp] theorem fx49_1 : F49_1.offset = 2 := by kernel_rfl
noncomputable def F49_2 : Field := (fieldOf Try.prog 49 2).getD default
@[simp] theorem fo49_2 : fieldOf Try.prog 49 2 = some F49_2 := by kernel_rfl
@[simp] theorem ft49_2 : F49_2.type = 4 := by kernel_rfl
@[simp] theorem fx49_2 : F49_2.offset = 3 := by kernel_rfl
noncomputable def F49_3 : Field := (fieldOf Try.prog 49 3).getD default
@[simp] theorem fo49_3 : fieldOf Try.prog 49 3 = some F49_3 := by kernel_rfl
@[simp] theorem ft49_3 : F49_3.type = 4 := by kernel_rfl
@[simp] theorem fx49_3 : F49_3.offset = 4 := by kernel_rfl
noncomputable def F49_4 : Field := (fieldOf Try.prog 49 4).getD default
@[simp] theorem fo49_4 : fieldOf Try.prog 49 4 = some F49_4 := by kernel_rfl
@[simp] theorem ft49_4 : F49_4.type = 3 := by kernel_rfl
@[simp] theorem fx49_4 : F49_4.offset = 5 := by kernel_rfl
noncomputable def F49_5 : Field := (fieldOf Try.prog 49 5).getD default
@[simp] theorem fo49_5 : fieldOf Try.prog 49 5 = some F49_5 := by kernel_rfl
@[simp] theorem ft49_5 : F49_5.type = 3 := by kernel_rfl
@[simp] theorem fx49_5 : F49_5.offset = 6 := by kernel_rfl
noncomputable def F49_6 : Field := (fieldOf Try.prog 49 6).getD default
@[simp] theorem fo49_6 : fieldOf Try.prog 49 6 = some F49_6 := by kernel_rfl
@[simp] theorem ft49_6 : F49_6.type = 3 := by kernel_rfl
@[simp] theorem fx49_6 : F49_6.offset = 7 := by kernel_rfl
noncomputable def F49_7 : Field := (fieldOf Try.prog 49 7).getD default
@[simp] theorem fo49_7 : fieldOf Try.prog 49 7 = some F49_7 := by kernel_rfl
@[simp] theorem ft49_7 : F49_7.type = 3 := by kernel_rfl
@[simp] theorem fx49_7 : F49_7.offset = 8 := by kernel_rfl
noncomputable def F49_8 : Field := (fieldOf Try.prog 49 8).getD default
@[simp] theorem fo49_8 : fieldOf Try.prog 49 8 = some F49_8 := by kernel_rfl
@[simp] theorem ft49_8 : F49_8.type = 3 := by kernel_rfl
@[simp] theorem fx49_8 : F49_8.offset = 9 := by kernel_rfl
@[simp] theorem inf50 : Try.prog.info? 50 = some Try.t50 := by kernel_rfl
@[simp] theorem tsz50 : Try.t50.size = 11 := by kernel_rfl
@[simp] theorem tby50 : Try.t50.bytes = 72 := by kernel_rfl
@[simp] theorem agg50 : aggT Try.prog 50 = some true := by kernel_rfl
@[simp] theorem slot50 : slotSize Try.prog 50 = 0 := by kernel_rfl
attribute [simp] Try.underlying50
@[simp] theorem zero50 : zeroV Try.prog 50 = some (.agg [.nils, (.int .i64 0), (.bool false), (.bool false), (.bool false), (.bool false), (.bool false), (.int .i64 0), (.int .i64 0), (.int .i64 0), (.int .i64 0)]) := by kernel_rfl
@[simp] theorem slots50 : slotSizes Try.prog 50 = [1, 0, 0, 0, 0, 0, 0, 0, 0, 0, 0] := by kernel_rfl
noncomputable def F50_0 : Field := (fieldOf Try.prog 50 0).getD default
@[simp] theorem fo50_0 : fieldOf Try.prog 50 0 = some F50_0 := by kernel_rfl
@[simp] theorem ft50_0 : F50_0.type = 45 := by kernel_rfl
@[simp] theorem fx50_0 : F50_0.offset = 0 := by kernel_rfl
noncomputable def F50_1 : Field := (fieldOf Try.prog 50 1).getD default
@[simp] theorem fo50_1 : fieldOf Try.prog 50 1 = some F50_1 := by kernel_rfl
@[simp] theorem ft50_1 : F50_1.type = 3 := by kernel_rfl
@[simp] theorem fx50_1 : F50_1.offset = 1 := by kernel_rfl
noncomputable def F50_2 : Field := (fieldOf Try.prog 50 2).getD default
@[simp] theorem fo50_2 : fieldOf Try.prog 50 2 = some F50_2 := by kernel_rfl
@[simp] theorem ft50_2 : F50_2.type = 4 := by kernel_rfl
@[simp] theorem fx50_2 : F50_2.offset = 2 := by kernel_rfl
noncomputable def F50_3 : Field := (fieldOf Try.prog 50 3).getD default
@[simp] theorem fo50_3 : fieldOf Try.prog 50 3 = some F50_3 := by kernel_rfl
@[simp] theorem ft50_3 : F50_3.type = 4 := by kernel_rfl
@[simp] theorem fx50_3 : F50_3.offset = 3 := by kernel_rfl
noncomputable def F50_4 : Field := (fieldOf Try.prog 50 4).getD default
@[simp] theorem fo50_4 : fieldOf Try.prog 50 4 = some F50_4 := by kernel_rfl
@[simp] theorem ft50_4 : F50_4.type = 4 := by kernel_rfl
@[simp] theorem fx50_4 : F50_4.offset = 4 := by kernel_rfl
noncomputable def F50_5 : Field := (fieldOf Try.prog 50 5).getD default
@[simp] theorem fo50_5 : fieldOf Try.prog 50 5 = some F50_5 := by kernel_rfl
@[simp] theorem ft50_5 : F50_5.type = 4 := by kernel_rfl
@[simp] theorem fx50_5 : F50_5.offset = 5 := by kernel_rfl
noncomputable def F50_6 : Field := (fieldOf Try.prog 50 6).getD default
@[simp] theorem fo50_6 : fieldOf Try.prog 50 6 = some F50_6 := by kernel_rfl
@[simp] theorem ft50_6 : F50_6.type = 4 := by kernel_rfl
@[simp] theorem fx50_6 : F50_6.offset = 6 := by kernel_rfl
noncomputable def F50_7 : Field := (fieldOf Try.prog 50 7).getD default
@[simp] theorem fo50_7 : fieldOf Try.prog 50 7 = some F50_7 := by kernel_rfl
@[simp] theorem ft50_7 : F50_7.type = 3 := by kernel_rfl
@[simp] theorem fx50_7 : F50_7.offset = 7 := by kernel_rfl
noncomputable def F50_8 : Field := (fieldOf Try.prog 50 8).getD default
@[simp] theorem fo50_8 : fieldOf Try.prog 50 8 = some F50_8 := by kernel_rfl
@[simp] theorem ft50_8 : F50_8.type = 3 := by kernel_rfl
@[simp] theorem fx50_8 : F50_8.offset = 8 := by kernel_rfl
noncomputable def F50_9 : Field := (fieldOf Try.prog 50 9).getD default
@[simp] theorem fo50_9 : fieldOf Try.prog 50 9 = some F50_9 := by kernel_rfl
@[simp] theorem ft50_9 : F50_9.type = 3 := by kernel_rfl
@[simp] theorem fx50_9 : F50_9.offset = 9 := by kernel_rfl
noncomputable def F50_10 : Field := (fieldOf Try.prog 50 10).getD default
@[simp] theorem fo50_10 : fieldOf Try.prog 50 10 = some F50_10 := by kernel_rfl
@[simp] theorem ft50_10 : F50_10.type = 3 := by kernel_rfl
@[simp] theorem fx50_10 : F50_10.offset = 10 := by kernel_rfl
@[simp] theorem inf51 : Try.prog.info? 51 = some Try.t51 := by kernel_rfl
@[simp] theorem tsz51 : Try.t51.size = 11 := by kernel_rfl
@[simp] theorem tby51 : Try.t51.bytes = 72 := by kernel_rfl
@[simp] theorem agg51 : aggT Try.prog 51 = some true := by kernel_rfl
@[simp] theorem slot51 : slotSize Try.prog 51 = 0 := by kernel_rfl
attribute [simp] Try.underlying51
@[simp] theorem zero51 : zeroV Try.prog 51 = some (.agg [.nils, (.int .i64 0), (.bool false), (.bool false), (.bool false), (.bool false), (.bool false), (.int .i64 0), (.int .i64 0), (.int .i64 0), (.int .i64 0)]) := by kernel_rfl
@[simp] theorem slots51 : slotSizes Try.prog 51 = [1, 0, 0, 0, 0, 0, 0, 0, 0, 0, 0] := by kernel_rfl
noncomputable def F51_0 : Field := (fieldOf Try.prog 51 0).getD default
@[simp] theorem fo51_0 : fieldOf Try.prog 51 0 = some F51_0 := by kernel_rfl
@[simp] theorem ft51_0 : F51_0.type = 45 := by kernel_rfl
@[simp] theorem fx51_0 : F51_0.offset = 0 := by kernel_rfl
noncomputable def F51_1 : Field := (fieldOf Try.prog 51 1).getD default
@[simp] theorem fo51_1 : fieldOf Try.prog 51 1 = some F51_1 := by kernel_rfl
@[simp] theorem ft51_1 : F51_1.type = 3 := by kernel_rfl
@[simp] theorem fx51_1 : F51_1.offset = 1 := by kernel_rfl
noncomputable def F51_2 : Field := (fieldOf Try.prog 51 2).getD default
@[simp] theorem fo51_2 : fieldOf Try.prog 51 2 = some F51_2 := by kernel_rfl
@[simp] theorem ft51_2 : F51_2.type = 4 := by kernel_rfl
@[simp] theorem fx51_2 : F51_2.offset = 2 := by kernel_rfl
noncomputable def F51_3 : Field := (fieldOf Try.prog 51 3).getD default
@[simp] theorem fo51_3 : fieldOf Try.prog 51 3 = some F51_3 := by kernel_rfl
@[simp] theorem ft51_3 : F51_3.type = 4 := by kernel_rfl
@[simp] theorem fx51_3 : F51_3.offset = 3 := by kernel_rfl
noncomputable def F51_4 : Field := (fieldOf Try.prog 51 4).getD default
@[simp] theorem fo51_4 : fieldOf Try.prog 51 4 = some F51_4 := by kernel_rfl
@[simp] theorem ft51_4 : F51_4.type = 4 := by kernel_rfl
@[simp] theorem fx51_4 : F51_4.offset = 4 := by kernel_rfl
noncomputable def F51_5 : Field := (fieldOf Try.prog 51 5).getD default
@[simp] theorem fo51_5 : fieldOf Try.prog 51 5 = some F51_5 := by kernel_rfl
@[simp] theorem ft51_5 : F51_5.type = 4 := by kernel_rfl
@[simp] theorem fx51_5 : F51_5.offset = 5 := by kernel_rfl
noncomputable def F51_6 : Field := (fieldOf Try.prog 51 6).getD default
@[simp] theorem fo51_6 : fieldOf Try.prog 51 6 = some F51_6 := by kernel_rfl
@[simp] theorem ft51_6 : F51_6.type = 4 := by kernel_rfl
@[simp] theorem fx51_6 : F51_6.offset = 6 := by kernel_rfl
noncomputable def F51_7 : Field := (fieldOf Try.prog 51 7).getD default
@[simp] theorem fo51_7 : fieldOf Try.prog 51 7 = some F51_7 := by kernel_rfl
@[simp] theorem ft51_7 : F51_7.type = 3 := by kernel_rfl
@[simp] theorem fx51_7 : F51_7.offset = 7 := by kernel_rfl
noncomputable def F51_8 : Field := (fieldOf Try.prog 51 8).getD default
@[simp] theorem fo51_8 : fieldOf Try.prog 51 8 = some F51_8 := by kernel_rfl
@[simp] theorem ft51_8 : F51_8.type = 3 := by kernel_rfl
@[simp] theorem fx51_8 : F51_8.offset = 8 := by kernel_rfl
noncomputable def F51_9 : Field := (fieldOf Try.prog 51 9).getD default
@[simp] theorem fo51_9 : fieldOf Try.prog 51 9 = some F51_9 := by kernel_rfl
@[simp] theorem ft51_9 : F51_9.type = 3 := by kernel_rfl
@[simp] theorem fx51_9 : F51_9.offset = 9 := by kernel_rfl
noncomputable def F51_10 : Field := (fieldOf Try.prog 51 10).getD default
@[simp] theorem fo51_10 : fieldOf Try.prog 51 10 = some F51_10 := by kernel_rfl
@[simp] theorem ft51_10 : F51_10.type = 3 := by kernel_rfl
@[simp] theorem fx51_10 : F51_10.offset = 10 := by kernel_rfl
@[simp] theorem inf52 : Try.prog.info? 52 = some Try.t52 := by kernel_rfl
@[simp] theorem tsz52 : Try.t52.size = 110 := by kernel_rfl
@[simp] theorem tby52 : Try.t52.bytes = 912 := by kernel_rfl
@[simp] theorem agg52 : aggT Try.prog 52 = some true := by kernel_rfl
@[simp] theorem slot52 : slotSize Try.prog 52 = 0 := by kernel_rfl
attribute [simp] Try.underlying52
@[simp] theorem zero52 : zeroV Try.prog 52 = some (.agg [(.int .i64 0), (.int .i64 0), (.int .i64 0), (.int .i64 0), (.int .i64 0), (.int .i64 0), (.int .i64 0), (.int .i64 0), (.int .i64 0), (.int .i64 0), .nils, .nils, (.bool false), (.int .i64 0), (.int .i64 0), (.int .i64 0), (.bool false), (.int .i64 0), (.int .i64 0), (.int .i64 0), (.bool false), (.int .i64 0), (.int .i64 0), (.int .i64 0), (.bool false), (.int .i64 0), (.int .i64 0), (.int .i64 0), (.bool false), (.int .i64 0), (.int .i64 0), (.int .i64 0), (.bool false), (.int .i64 0), (.int .i64 0), (.int .i64 0), (.bool false), (.int .i64 0), (.int .i64 0), (.int .i64 0), (.bool false), (.int .i64 0), (.int .i64 0), (.int .i64 0), (.bool false), (.int .i64 0), (.int .i64 0), (.int .i64 0), (.bool false), (.int .i64 0), (.int .i64 0), (.int .i64 0), (.bool false), (.int .i64 0), (.int .i64 0), (.int .i64 0), (.bool false), (.int .i64 0), (.int .i64 0), (.int .i64 0), (.bool false), (.int .i64 0), (.int .i64 0), (.int .i64 0), (.bool false), (.int .i64 0), (.int .i64 0), (.int .i64 0), (.bool false), (.int .i64 0), (.int .i64 0), (.int .i64 0), (.bool false), (.int .i64 0), (.int .i64 0), (.int .i64 0), (.bool false), (.int .i64 0), (.int .i64 0), (.bool false), (.bool false), (.int .i64 0), (.int .i64 0), .nils, .nils, .nils, (.bool false), (.bool false), (.bool false), (.int .i64 0), (.int .i64 0), (.int .i64 0), (.int .i64 0), (.int .i64 0), .nils, (.int .i64 0), (.bool false), (.bool false), (.bool false), (.bool false), (.bool false), (.int .i64 0), (.int .i64 0), (.int .i64 0), (.int .i64 0), (.int .i64 0), (.bool false), (.bool false), (.int .i64 0), (.bool false)]) := by kernel_rfl
@[simp] theorem slots52 : slotSizes Try.prog 52 = [0, 0, 0, 0, 0, 0, 0, 0, 0, 0, 1, 1, 0, 0, 0, 0, 0, 0, 0, 0, 0, 0, 0, 0, 0, 0, 0, 0, 0, 0, 0, 0, 0, 0, 0, 0, 0, 0, 0, 0, 0, 0, 0, 0, 0, 0, 0, 0, 0, 0, 0, 0, 0, 0, 0, 0, 0, 0, 0, 0, 0, 0, 0, 0, 0, 0, 0, 0, 0, 0, 0, 0, 0, 0, 0, 0, 0, 0, 0, 0, 0, 0, 0, 9, 1, 1, 0, 0, 0, 0, 0, 0, 0, 0, 1, 0, 0, 0, 0, 0, 0, 0, 0, 0, 0, 0, 0, 0, 0, 0] := by kernel_rfl
noncomputable def F52_0 : Field := (fieldOf Try.prog 52 0).getD default
@[simp] theorem fo52_0 : fieldOf Try.prog 52 0 = some F52_0 := by kernel_rfl
@[simp] theorem ft52_0 : F52_0.type = 34 := by kernel_rfl
@[simp] theorem fx52_0 : F52_0.offset = 0 := by kernel_rfl
noncomputable def F52_1 : Field := (fieldOf Try.prog 52 1).getD default
@[simp] theorem fo52_1 : fieldOf Try.prog 52 1 = some F52_1 := by kernel_rfl
@[simp] theorem ft52_1 : F52_1.type = 35 := by kernel_rfl
@[simp] theorem fx52_1 : F52_1.offset = 10 := by kernel_rfl
noncomputable def F52_2 : Field := (fieldOf Try.prog 52 2).getD default
@[simp] theorem fo52_2 : fieldOf Try.prog 52 2 = some F52_2 := by kernel_rfl
@[simp] theorem ft52_2 : F52_2.type = 35 := by kernel_rfl
@[simp] theorem fx52_2 : F52_2.offset = 11 := by kernel_rfl
noncomputable def F52_3 : Field := (fieldOf Try.prog 52 3).getD default
@[simp] theorem fo52_3 : fieldOf Try.prog 52 3 = some F52_3 := by kernel_rfl
@[simp] theorem ft52_3 : F52_3.type = 41 := by kernel_rfl
@[simp] theorem fx52_3 : F52_3.offset = 12 := by kernel_rfl
noncomputable def F52_4 : Field := (fieldOf Try.prog 52 4).getD default
@[simp] theorem fo52_4 : fieldOf Try.prog 52 4 = some F52_4 := by kernel_rfl
@[simp] theorem ft52_4 : F52_4.type = 43 := by kernel_rfl
@[simp] theorem fx52_4 : F52_4.offset = 79 := by kernel_rfl
noncomputable def F52_5 : Field := (fieldOf Try.prog 52 5).getD default
@[simp] theorem fo52_5 : fieldOf Try.prog 52 5 = some F52_5 := by kernel_rfl
@[simp] theorem ft52_5 : F52_5.type = 44 := by kernel_rfl
@[simp] theorem fx52_5 : F52_5.offset = 83 := by kernel_rfl
noncomputable def F52_6 : Field := (fieldOf Try.prog 52 6).getD default
@[simp] theorem fo52_6 : fieldOf Try.prog 52 6 = some F52_6 := by kernel_rfl
@[simp] theorem ft52_6 : F52_6.type = 49 := by kernel_rfl
@[simp] theorem fx52_6 : F52_6.offset = 84 := by kernel_rfl
noncomputable def F52_7 : Field := (fieldOf Try.prog 52 7).getD default
@[simp] theorem fo52_7 : fieldOf Try.prog 52 7 = some F52_7 := by kernel_rfl
@[simp] theorem ft52_7 : F52_7.type = 51 := by kernel_rfl
@[simp] theorem fx52_7 : F52_7.offset = 94 := by kernel_rfl
noncomputable def F52_8 : Field := (fieldOf Try.prog 52 8).getD default
@[simp] theorem fo52_8 : fieldOf Try.prog 52 8 = some F52_8 := by kernel_rfl
@[simp] theorem ft52_8 : F52_8.type = 3 := by kernel_rfl
@[simp] theorem fx52_8 : F52_8.offset = 105 := by kernel_rfl
noncomputable def F52_9 : Field := (fieldOf Try.prog 52 9).getD default
@[simp] theorem fo52_9 : fieldOf Try.prog 52 9 = some F52_9 := by kernel_rfl
@[simp] theorem ft52_9 : F52_9.type = 4 := by kernel_rfl
@[simp] theorem fx52_9 : F52_9.offset = 106 := by kernel_rfl
noncomputable def F52_10 : Field := (fieldOf Try.prog 52 10).getD default
@[simp] theorem fo52_10 : fieldOf Try.prog 52 10 = some F52_10 := by kernel_rfl
@[simp] theorem ft52_10 : F52_10.type = 4 := by kernel_rfl
@[simp] theorem fx52_10 : F52_10.offset = 107 := by kernel_rfl
noncomputable def F52_11 : Field := (fieldOf Try.prog 52 11).getD default
@[simp] theorem fo52_11 : fieldOf Try.prog 52 11 = some F52_11 := by kernel_rfl
@[simp] theorem ft52_11 : F52_11.type = 3 := by kernel_rfl
@[simp] theorem fx52_11 : F52_11.offset = 108 := by kernel_rfl
noncomputable def F52_12 : Field := (fieldOf Try.prog 52 12).getD default
@[simp] theorem fo52_12 : fieldOf Try.prog 52 12 = some F52_12 := by kernel_rfl
@[simp] theorem ft52_12 : F52_12.type = 4 := by kernel_rfl
@[simp] theorem fx52_12 : F52_12.offset = 109 := by kernel_rfl
@[simp] theorem inf53 : Try.prog.info? 53 = some Try.t53 := by kernel_rfl
@[simp] theorem tsz53 : Try.t53.size = 110 := by kernel_rfl
@[simp] theorem tby53 : Try.t53.bytes = 912 := by kernel_rfl
@[simp] theorem agg53 : aggT Try.prog 53 = some true := by kernel_rfl
@[simp] theorem slot53 : slotSize Try.prog 53 = 0 := by kernel_rfl
attribute [simp] Try.underlying53
@[simp] theorem zero53 : zeroV Try.prog 53 = some (.agg [(.int .i64 0), (.int .i64 0), (.int .i64 0), (.int .i64 0), (.int .i64 0), (.int .i64 0), (.int .i64 0), (.int .i64 0), (.int .i64 0), (.int .i64 0), .nils, .nils, (.bool false), (.int .i64 0), (.int .i64 0), (.int .i64 0), (.bool false), (.int .i64 0), (.int .i64 0), (.int .i64 0), (.bool false), (.int .i64 0), (.int .i64 0), (.int .i64 0), (.bool false), (.int .i64 0), (.int .i64 0), (.int .i64 0), (.bool false), (.int .i64 0), (.int .i64 0), (.int .i64 0), (.bool false), (.int .i64 0), (.int .i64 0), (.int .i64 0), (.bool false), (.int .i64 0), (.int .i64 0), (.int .i64 0), (.bool false), (.int .i64 0), (.int .i64 0), (.int .i64 0), (.bool false), (.int .i64 0), (.int .i64 0), (.int .i64 0), (.bool false), (.int .i64 0), (.int .i64 0), (.int .i64 0), (.bool false), (.int .i64 0), (.int .i64 0), (.int .i64 0), (.bool false), (.int .i64 0), (.int .i64 0), (.int .i64 0), (.bool false), (.int .i64 0), (.int .i64 0), (.int .i64 0), (.bool false), (.int .i64 0), (.int .i64 0), (.int .i64 0), (.bool false), (.int .i64 0), (.int .i64 0), (.int .i64 0), (.bool false), (.int .i64 0), (.int .i64 0), (.int .i64 0), (.bool false), (.int .i64 0), (.int .i64 0), (.bool false), (.bool false), (.int .i64 0), (.int .i64 0), .nils, .nils, .nils, (.bool false), (.bool false), (.bool false), (.int .i64 0), (.int .i64 0), (.int .i64 0), (.int .i64 0), (.int .i64 0), .nils, (.int .i64 0), (.bool false), (.bool false), (.bool false), (.bool false), (.bool false), (.int .i64 0), (.int .i64 0), (.int .i64 0), (.int .i64 0), (.int .i64 0), (.bool false), (.bool false), (.int .i64 0), (.bool false)]) := by kernel_rfl
@[simp] theorem slots53 : slotSizes Try.prog 53 = [0, 0, 0, 0, 0, 0, 0, 0, 0, 0, 1, 1, 0, 0, 0, 0, 0, 0, 0, 0, 0, 0, 0, 0, 0, 0, 0, 0, 0, 0, 0, 0, 0, 0, 0, 0, 0, 0, 0, 0, 0, 0, 0, 0, 0, 0, 0, 0, 0, 0, 0, 0, 0, 0, 0, 0, 0, 0, 0, 0, 0, 0, 0, 0, 0, 0, 0, 0, 0, 0, 0, 0, 0, 0, 0, 0, 0, 0, 0, 0, 0, 0, 0, 9, 1, 1, 0, 0, 0, 0, 0, 0, 0, 0, 1, 0, 0, 0, 0, 0, 0, 0, 0, 0, 0, 0, 0, 0, 0, 0] := by kernel_rfl
noncomputable def F53_0 : Field := (fieldOf Try.prog 53 0).getD default
@[simp] theorem fo53_0 : fieldOf Try.prog 53 0 = some F53_0 := by kernel_rfl
@[simp] theorem ft53_0 : F53_0.type = 34 := by kernel_rfl
@[simp] theorem fx53_0 : F53_0.offset = 0 := by kernel_rfl
noncomputable def F53_1 : Field := (fieldOf Try.prog 53 1).getD default
@[simp] theorem fo53_1 : fieldOf Try.prog 53 1 = some F53_1 := by kernel_rfl
@[simp] theorem ft53_1 : F53_1.type = 35 := by kernel_rfl
@[simp] theorem fx53_1 : F53_1.offset = 10 := by kernel_rfl
noncomputable def F53_2 : Field := (fieldOf Try.prog 53 2).getD default
@[simp] theorem fo53_2 : fieldOf Try.prog 53 2 = some F53_2 := by kernel_rfl
@[simp] theorem ft53_2 : F53_2.type = 35 := by kernel_rfl
@[simp] theorem fx53_2 : F53_2.offset = 11 := by kernel_rfl
noncomputable def F53_3 : Field := (fieldOf Try.prog 53 3).getD default
@[simp] theorem fo53_3 : fieldOf Try.prog 53 3 = some F53_3 := by kernel_rfl
@[simp] theorem ft53_3 : F53_3.type = 41 := by kernel_rfl
@[simp] theorem fx53_3 : F53_3.offset = 12 := by kernel_rfl
noncomputable def F53_4 : Field := (fieldOf Try.prog 53 4).getD default
@[simp] theorem fo53_4 : fieldOf Try.prog 53 4 = some F53_4 := by kernel_rfl
@[simp] theorem ft53_4 : F53_4.type = 43 := by kernel_rfl
@[simp] theorem fx53_4 : F53_4.offset = 79 := by kernel_rfl
noncomputable def F53_5 : Field := (fieldOf Try.prog 53 5).getD default
@[simp] theorem fo53_5 : fieldOf Try.prog 53 5 = some F53_5 := by kernel_rfl
@[simp] theorem ft53_5 : F53_5.type = 44 := by kernel_rfl
@[simp] theorem fx53_5 : F53_5.offset = 83 := by kernel_rfl
noncomputable def F53_6 : Field := (fieldOf Try.prog 53 6).getD default
@[simp] theorem fo53_6 : fieldOf Try.prog 53 6 = some F53_6 := by kernel_rfl
@[simp] theorem ft53_6 : F53_6.type = 49 := by kernel_rfl
@[simp] theorem fx53_6 : F53_6.offset = 84 := by kernel_rfl
noncomputable def F53_7 : Field := (fieldOf Try.prog 53 7).getD default
@[simp] theorem fo53_7 : fieldOf Try.prog 53 7 = some F53_7 := by kernel_rfl
@[simp] theorem ft53_7 : F53_7.type = 51 := by kernel_rfl
@[simp] theorem fx53_7 : F53_7.offset = 94 := by kernel_rfl
noncomputable def F53_8 : Field := (fieldOf Try.prog 53 8).getD default
@[simp] theorem fo53_8 : fieldOf Try.prog 53 8 = some F53_8 := by kernel_rfl
@[simp] theorem ft53_8 : F53_8.type = 3 := by kernel_rfl
@[simp] theorem fx53_8 : F53_8.offset = 105 := by kernel_rfl
noncomputable def F53_9 : Field := (fieldOf Try.prog 53 9).getD default
@[simp] theorem fo53_9 : fieldOf Try.prog 53 9 = some F53_9 := by kernel_rfl
@[simp] theorem ft53_9 : F53_9.type = 4 := by kernel_rfl
@[simp] theorem fx53_9 : F53_9.offset = 106 := by kernel_rfl
noncomputable def F53_10 : Field := (fieldOf Try.prog 53 10).getD default
@[simp] theorem fo53_10 : fieldOf Try.prog 53 10 = some F53_10 := by kernel_rfl
@[simp] theorem ft53_10 : F53_10.type = 4 := by kernel_rfl
@[simp] theorem fx53_10 : F53_10.offset = 107 := by kernel_rfl
noncomputable def F53_11 : Field := (fieldOf Try.prog 53 11).getD default
@[simp] theorem fo53_11 : fieldOf Try.prog 53 11 = some F53_11 := by kernel_rfl
@[simp] theorem ft53_11 : F53_11.type = 3 := by kernel_rfl
@[simp] theorem fx53_11 : F53_11.offset = 108 := by kernel_rfl
noncomputable def F53_12 : Field := (fieldOf Try.prog 53 12).getD default
@[simp] theorem fo53_12 : fieldOf Try.prog 53 12 = some F53_12 := by kernel_rfl
@[simp] theorem ft53_12 : F53_12.type = 4 := by kernel_rfl
@[simp] theorem fx53_12 : F53_12.offset = 109 := by kernel_rfl
@[simp] theorem inf54 : Try.prog.info? 54 = some Try.t54 := by kernel_rfl
@[simp] theorem tsz54 : Try.t54.size = 8 := by kernel_rfl
@[simp] theorem tby54 : Try.t54.bytes = 64 := by kernel_rfl
@[simp] theorem agg54 : aggT Try.prog 54 = some true := by kernel_rfl
@[simp] theorem slot54 : slotSize Try.prog 54 = 0 := by kernel_rfl
attribute [simp] Try.underlying54
@[simp] theorem zero54 : zeroV Try.prog 54 = some (.agg [(.int .i64 0), (.int .i64 0), (.int .i64 0), (.int .i64 0), (.int .i64 0), (.int .i64 0), (.int .i64 0), (.int .i64 0)]) := by kernel_rfl
@[simp] theorem inf55 : Try.prog.info? 55 = some Try.t55 := by kernel_rfl
@[simp] theorem tsz55 : Try.t55.size = 29 := by kernel_rfl
@[simp] theorem tby55 : Try.t55.bytes = 232 := by kernel_rfl
@[simp] theorem agg55 : aggT Try.prog 55 = some true := by kernel_rfl
@[simp] theorem slot55 : slotSize Try.prog 55 = 0 := by kernel_rfl
attribute [simp] Try.underlying55
@[simp] theorem zero55 : zeroV Try.prog 55 = some (.agg [(.int .i64 0), (.int .i64 0), (.int .i64 0), (.int .i64 0), (.int .i64 0), (.int .i64 0), (.int .i64 0), (.int .i64 0), (.int .i64 0), (.int .i64 0), (.int .i64 0), (.int .i64 0), (.int .i64 0), (.int .i64 0), (.int .i64 0), (.bool false), (.int .i64 0), (.int .i64 0), (.int .i64 0), (.int .i64 0), (.int .i64 0), (.int .i64 0), (.int .i64 0), (.int .i64 0), (.int .i64 0), (.int .i64 0), (.int .i64 0), (.int .i64 0), (.int .i64 0)]) := by kernel_rfl
@[simp] theorem slots55 : slotSizes Try.prog 55 = [0, 0, 0, 0, 0, 0, 0, 0, 0, 0, 0, 0, 0, 0, 0, 0, 0, 0, 0, 0, 0, 0, 0, 0, 0, 0, 0, 0, 0] := by kernel_rfl
noncomputable def F55_0 : Field := (fieldOf Try.prog 55 0).getD default
@[simp] theorem fo55_0 : fieldOf Try.prog 55 0 = some F55_0 := by kernel_rfl
@[simp] theorem ft55_0 : F55_0.type = 3 := by kernel_rfl
@[simp] theorem fx55_0 : F55_0.offset = 0 := by kernel_rfl
noncomputable def F55_1 : Field := (fieldOf Try.prog 55 1).getD default
@[simp] theorem fo55_1 : fieldOf Try.prog 55 1 = some F55_1 := by kernel_rfl
@[simp] theorem ft55_1 : F55_1.type = 3 := by kernel_rfl
@[simp] theorem fx55_1 : F55_1.offset = 1 := by kernel_rfl
noncomputable def F55_2 : Field := (fieldOf Try.prog 55 2).getD default
@[simp] theorem fo55_2 : fieldOf Try.prog 55 2 = some F55_2 := by kernel_rfl
@[simp] theorem ft55_2 : F55_2.type = 3 := by kernel_rfl
@[simp] theorem fx55_2 : F55_2.offset = 2 := by kernel_rfl
noncomputable def F55_3 : Field := (fieldOf Try.prog 55 3).getD default
@[simp] theorem fo55_3 : fieldOf Try.prog 55 3 = some F55_3 := by kernel_rfl
@[simp] theorem ft55_3 : F55_3.type = 34 := by kernel_rfl
@[simp] theorem fx55_3 : F55_3.offset = 3 := by kernel_rfl
noncomputable def F55_4 : Field := (fieldOf Try.prog 55 4).getD default
@[simp] theorem fo55_4 : fieldOf Try.prog 55 4 = some F55_4 := by kernel_rfl
@[simp] theorem ft55_4 : F55_4.type = 3 := by kernel_rfl
@[simp] theorem fx55_4 : F55_4.offset = 13 := by kernel_rfl
noncomputable def F55_5 : Field := (fieldOf Try.prog 55 5).getD default
@[simp] theorem fo55_5 : fieldOf Try.prog 55 5 = some F55_5 := by kernel_rfl
@[simp] theorem ft55_5 : F55_5.type = 3 := by kernel_rfl
@[simp] theorem fx55_5 : F55_5.offset = 14 := by kernel_rfl
noncomputable def F55_6 : Field := (fieldOf Try.prog 55 6).getD default
@[simp] theorem fo55_6 : fieldOf Try.prog 55 6 = some F55_6 := by kernel_rfl
@[simp] theorem ft55_6 : F55_6.type = 4 := by kernel_rfl
@[simp] theorem fx55_6 : F55_6.offset = 15 := by kernel_rfl
noncomputable def F55_7 : Field := (fieldOf Try.prog 55 7).getD default
@[simp] theorem fo55_7 : fieldOf Try.prog 55 7 = some F55_7 := by kernel_rfl
@[simp] theorem ft55_7 : F55_7.type = 54 := by kernel_rfl
@[simp] theorem fx55_7 : F55_7.offset = 16 := by kernel_rfl
noncomputable def F55_8 : Field := (fieldOf Try.prog 55 8).getD default
@[simp] theorem fo55_8 : fieldOf Try.prog 55 8 = some F55_8 := by kernel_rfl
@[simp] theorem ft55_8 : F55_8.type = 3 := by kernel_rfl
@[simp] theorem fx55_8 : F55_8.offset = 24 := by kernel_rfl
noncomputable def F55_9 : Field := (fieldOf Try.prog 55 9).getD default
@[simp] theorem fo55_9 : fieldOf Try.prog 55 9 = some F55_9 := by kernel_rfl
@[simp] theorem ft55_9 : F55_9.type = 3 := by kernel_rfl
@[simp] theorem fx55_9 : F55_9.offset = 25 := by kernel_rfl
noncomputable def F55_10 : Field := (fieldOf Try.prog 55 10).getD default
@[simp] theorem fo55_10 : fieldOf Try.prog 55 10 = some F55_10 := by kernel_rfl
@[simp] theorem ft55_10 : F55_10.type = 3 := by kernel_rfl
@[simp] theorem fx55_10 : F55_10.offset = 26 := by kernel_rfl
noncomputable def F55_11 : Field := (fieldOf Try.prog 55 11).getD default
@[simp] theorem fo55_11 : fieldOf Try.prog 55 11 = some F55_11 := by kernel_rfl
@[simp] theorem ft55_11 : F55_11.type = 3 := by kernel_rfl
@[simp] theorem fx55_11 : F55_11.offset = 27 := by kernel_rfl
noncomputable def F55_12 : Field := (fieldOf Try.prog 55 12).getD default
@[simp] theorem fo55_12 : fieldOf Try.prog 55 12 = some F55_12 := by kernel_rfl
@[simp] theorem ft55_12 : F55_12.type = 3 := by kernel_rfl
@[simp] theorem fx55_12 : F55_12.offset = 28 := by kernel_rfl
@[simp] theorem inf56 : Try.prog.info? 56 = some Try.t56 := by kernel_rfl
@[simp] theorem tsz56 : Try.t56.size = 29 := by kernel_rfl
@[simp] theorem tby56 : Try.t56.bytes = 232 := by kernel_rfl
@[simp] theorem agg56 : aggT Try.prog 56 = some true := by kernel_rfl
@[simp] theorem slot56 : slotSize Try.prog 56 = 0 := by kernel_rfl
attribute [simp] Try.underlying56
@[simp] theorem zero56 : zeroV Try.prog 56 = some (.agg [(.int .i64 0), (.int .i64 0), (.int .i64 0), (.int .i64 0), (.int .i64 0), (.int .i64 0), (.int .i64 0), (.int .i64 0), (.int .i64 0), (.int .i64 0), (.int .i64 0), (.int .i64 0), (.int .i64 0), (.int .i64 0), (.int .i64 0), (.bool false), (.int .i64 0), (.int .i64 0), (.int .i64 0), (.int .i64 0), (.int .i64 0), (.int .i64 0), (.int .i64 0), (.int .i64 0), (.int .i64 0), (.int .i64 0), (.int .i64 0), (.int .i64 0), (.int .i64 0)]) := by kernel_rfl
@[simp] theorem slots56 : slotSizes Try.prog 56 = [0, 0, 0, 0, 0, 0, 0, 0, 0, 0, 0, 0, 0, 0, 0, 0, 0, 0, 0, 0, 0, 0, 0, 0, 0, 0, 0, 0, 0] := by kernel_rfl
noncomputable def F56_0 : Field := (fieldOf Try.prog 56 0).getD default
@[simp] theorem fo56_0 : fieldOf Try.prog 56 0 = some F56_0 := by kernel_rfl
@[simp] theorem ft56_0 : F56_0.type = 3 := by kernel_rfl
@[simp] theorem fx56_0 : F56_0.offset = 0 := by kernel_rfl
noncomputable def F56_1 : Field := (fieldOf Try.prog 56 1).getD default
@[simp] theorem fo56_1 : fieldOf Try.prog 56 1 = some F56_1 := by kernel_rfl
@[simp] theorem ft56_1 : F56_1.type = 3 := by kernel_rfl
@[simp] theorem fx56_1 : F56_1.offset = 1 := by kernel_rfl
noncomputable def F56_2 : Field := (fieldOf Try.prog 56 2).getD default
@[simp] theorem fo56_2 : fieldOf Try.prog 56 2 = some F56_2 := by kernel_rfl
@[simp] theorem ft56_2 : F56_2.type = 3 := by kernel_rfl
@[simp] theorem fx56_2 : F56_2.offset = 2 := by kernel_rfl
noncomputable def F56_3 : Field := (fieldOf Try.prog 56 3).getD default
@[simp] theorem fo56_3 : fieldOf Try.prog 56 3 = some F56_3 := by kernel_rfl
@[simp] theorem ft56_3 : F56_3.type = 34 := by kernel_rfl
@[simp] theorem fx56_3 : F56_3.offset = 3 := by kernel_rfl
noncomputable def F56_4 : Field := (fieldOf Try.prog 56 4).getD default
@[simp] theorem fo56_4 : fieldOf Try.prog 56 4 = some F56_4 := by kernel_rfl
@[simp] theorem ft56_4 : F56_4.type = 3 := by kernel_rfl
@[simp] theorem fx56_4 : F56_4.offset = 13 := by kernel_rfl
noncomputable def F56_5 : Field := (fieldOf Try.prog 56 5).getD default
@[simp] theorem fo56_5 : fieldOf Try.prog 56 5 = some F56_5 := by kernel_rfl
@[simp] theorem ft56_5 : F56_5.type = 3 := by kernel_rfl
@[simp] theorem fx56_5 : F56_5.offset = 14 := by kernel_rfl
noncomputable def F56_6 : Field := (fieldOf Try.prog 56 6).getD default
@[simp] theorem fo56_6 : fieldOf Try.prog 56 6 = some F56_6 := by kernel_rfl
@[simp] theorem ft56_6 : F56_6.type = 4 := by kernel_rfl
@[simp] theorem fx56_6 : F56_6.offset = 15 := by kernel_rfl
noncomputable def F56_7 : Field := (fieldOf Try.prog 56 7).getD default
@[simp] theorem fo56_7 : fieldOf Try.prog 56 7 = some F56_7 := by kernel_rfl
@[simp] theorem ft56_7 : F56_7.type = 54 := by kernel_rfl
@[simp] theorem fx56_7 : F56_7.offset = 16 := by kernel_rfl
noncomputable def F56_8 : Field := (fieldOf Try.prog 56 8).getD default
@[simp] theorem fo56_8 : fieldOf Try.prog 56 8 = some F56_8 := by kernel_rfl
@[simp] theorem ft56_8 : F56_8.type = 3 := by kernel_rfl
@[simp] theorem fx56_8 : F56_8.offset = 24 := by kernel_rfl
noncomputable def F56_9 : Field := (fieldOf Try.prog 56 9).getD default
@[simp] theorem fo56_9 : fieldOf Try.prog 56 9 = some F56_9 := by kernel_rfl
@[simp] theorem ft56_9 : F56_9.type = 3 := by kernel_rfl
@[simp] theorem fx56_9 : F56_9.offset = 25 := by kernel_rfl
noncomputable def F56_10 : Field := (fieldOf Try.prog 56 10).getD default
@[simp] theorem fo56_10 : fieldOf Try.prog 56 10 = some F56_10 := by kernel_rfl
@[simp] theorem ft56_10 : F56_10.type = 3 := by kernel_rfl
@[simp] theorem fx56_10 : F56_10.offset = 26 := by kernel_rfl
noncomputable def F56_11 : Field := (fieldOf Try.prog 56 11).getD default
@[simp] theorem fo56_11 : fieldOf Try.prog 56 11 = some F56_11 := by kernel_rfl
@[simp] theorem ft56_11 : F56_11.type = 3 := by kernel_rfl
@[simp] theorem fx56_11 : F56_11.offset = 27 := by kernel_rfl
noncomputable def F56_12 : Field := (fieldOf Try.prog 56 12).getD default
@[simp] theorem fo56_12 : fieldOf Try.prog 56 12 = some F56_12 := by kernel_rfl
@[simp] theorem ft56_12 : F56_12.type = 3 := by kernel_rfl
@[simp] theorem fx56_12 : F56_12.offset = 28 := by kernel_rfl
@[simp] theorem inf57 : Try.prog.info? 57 = some Try.t57 := by kernel_rfl
@[simp] theorem tsz57 : Try.t57.size = 232 := by kernel_rfl
@[simp] theorem tby57 : Try.t57.bytes = 1856 := by kernel_rfl
@[simp] theorem agg57 : aggT Try.prog 57 = some true := by kernel_rfl
@[simp] theorem slot57 : slotSize Try.prog 57 = 0 := by kernel_rfl
attribute [simp] Try.underlying57
@[simp] theorem zero57 : zeroV Try.prog 57 = some (.agg [(.int .i64 0), (.int .i64 0), (.int .i64 0), (.int .i64 0), (.int .i64 0), (.int .i64 0), (.int .i64 0), (.int .i64 0), (.int .i64 0), (.int .i64 0), (.int .i64 0), (.int .i64 0), (.int .i64 0), (.int .i64 0), (.int .i64 0), (.bool false), (.int .i64 0), (.int .i64 0), (.int .i64 0), (.int .i64 0), (.int .i64 0), (.int .i64 0), (.int .i64 0), (.int .i64 0), (.int .i64 0), (.int .i64 0), (.int .i64 0), (.int .i64 0), (.int .i64 0), (.int .i64 0), (.int .i64 0), (.int .i64 0), (.int .i64 0), (.int .i64 0), (.int .i64 0), (.int .i64 0), (.int .i64 0), (.int .i64 0), (.int .i64 0), (.int .i64 0), (.int .i64 0), (.int .i64 0), (.int .i64 0), (.int .i64 0), (.bool false), (.int .i64 0), (.int .i64 0), (.int .i64 0), (.int .i64 0), (.int .i64 0), (.int .i64 0), (.int .i64 0), (.int .i64 0), (.int .i64 0), (.int .i64 0), (.int .i64 0), (.int .i64 0), (.int .i64 0), (.int .i64 0), (.int .i64 0), (.int .i64 0), (.int .i64 0), (.int .i64 0), (.int .i64 0), (.int .i64 0), (.int .i64 0), (.int .i64 0), (.int .i64 0), (.int .i64 0), (.int .i64 0), (.int .i64 0), (.int .i64 0), (.int .i64 0), (.bool false), (.int .i64 0), (.int .i64 0), (.int .i64 0), (.int .i64 0), (.int .i64 0), (.int .i64 0), (.int .i64 0), (.int .i64 0), (.int .i64 0), (.int .i64 0), (.int .i64 0), (.int .i64 0), (.int .i64 0), (.int .i64 0), (.int .i64 0), (.int .i64 0), (.int .i64 0), (.int .i64 0), (.int .i64 0), (.int .i64 0), (.int .i64 0), (.int .i64 0), (.int .i64 0), (.int .i64 0), (.int .i64 0), (.int .i64 0), (.int .i64 0), (.int .i64 0), (.bool false), (.int .i64 0), (.int .i64 0), (.int .i64 0), (.int .i64 0), (.int .i64 0), (.int .i64 0), (.int .i64 0), (.int .i64 0), (.int .i64 0), (.int .i64 0), (.int .i64 0), (.int .i64 0), (.int .i64 0), (.int .i64 0), (.int .i64 0), (.int .i64 0), (.int .i64 0), (.int .i64 0), (.int .i64 0), (.int .i64 0), (.int .i64 0), (.int .i64 0), (.int .i64 0), (.int .i64 0), (.int .i64 0), (.int .i64 0), (.int .i64 0), (.int .i64 0), (.bool false), (.int .i64 0), (.int .i64 0), (.int .i64 0), (.int .i64 0), (.int .i64 0), (.int .i64 0), (.int .i64 0), (.int .i64 0), (.int .i64 0), (.int .i64 0), (.int .i64 0), (.int .i64 0), (.int .i64 0), (.int .i64 0), (.int .i64 0), (.int .i64 0), (.int .i64 0), (.int .i64 0), (.int .i64 0), (.int .i64 0), (.int .i64 0), (.int .i64 0), (.int .i64 0), (.int .i64 0), (.int .i64 0), (.int .i64 0), (.int .i64 0), (.int .i64 0), (.bool false), (.int .i64 0), (.int .i64 0), (.int .i64 0), (.int .i64 0), (.int .i64 0), (.int .i64 0), (.int .i64 0), (.int .i64 0), (.int .i64 0), (.int .i64 0), (.int .i64 0), (.int .i64 0), (.int .i64 0), (.int .i64 0), (.int .i64 0), (.int .i64 0), (.int .i64 0), (.int .i64 0), (.int .i64 0), (.int .i64 0), (.int .i64 0), (.int .i64 0), (.int .i64 0), (.int .i64 0), (.int .i64 0), (.int .i64 0), (.int .i64 0), (.int .i64 0), (.bool false), (.int .i64 0), (.int .i64 0), (.int .i64 0), (.int .i64 0), (.int .i64 0), (.int .i64 0), (.int .i64 0), (.int .i64 0), (.int .i64 0), (.int .i64 0), (.int .i64 0), (.int .i64 0), (.int .i64 0), (.int .i64 0), (.int .i64 0), (.int .i64 0), (.int .i64 0), (.int .i64 0), (.int .i64 0), (.int .i64 0), (.int .i64 0), (.int .i64 0), (.int .i64 0), (.int .i64 0), (.int .i64 0), (.int .i64 0), (.int .i64 0), (.int .i64 0), (.bool false), (.int .i64 0), (.int .i64 0), (.int .i64 0), (.int .i64 0), (.int .i64 0), (.int .i64 0), (.int .i64 0), (.int .i64 0), (.int .i64 0), (.int .i64 0), (.int .i64 0), (.int .i64 0), (.int .i64 0)]) := by kernel_rfl
@[simp] theorem inf58 : Try.prog.info? 58 = some Try.t58 := by kernel_rfl
@[simp] theorem tsz58 : Try.t58.size = 6 := by kernel_rfl
@[simp] theorem tby58 : Try.t58.bytes = 40 := by kernel_rfl
@[simp] theorem agg58 : aggT Try.prog 58 = some true := by kernel_rfl
@[simp] theorem slot58 : slotSize Try.prog 58 = 0 := by kernel_rfl
attribute [simp] Try.underlying58
@[simp] theorem zero58 : zeroV Try.prog 58 = some (.agg [(.int .i64 0), (.int .i64 0), (.bool false), (.bool false), (.int .i64 0), (.int .i64 0)]) := by kernel_rfl
@[simp] theorem slots58 : slotSizes Try.prog 58 = [0, 0, 0, 0, 0, 0] := by kernel_rfl
noncomputable def F58_0 : Field := (fieldOf Try.prog 58 0).getD default
@[simp] theorem fo58_0 : fieldOf Try.prog 58 0 = some F58_0 := by kernel_rfl
@[simp] theorem ft58_0 : F58_0.type = 3 := by kernel_rfl
@[simp] theorem fx58_0 : F58_0.offset = 0 := by kernel_rfl
noncomputable def F58_1 : Field := (fieldOf Try.prog 58 1).getD default
@[simp] theorem fo58_1 : fieldOf Try.prog 58 1 = some F58_1 := by kernel_rfl
@[simp] theorem ft58_1 : F58_1.type = 3 := by kernel_rfl
@[simp] theorem fx58_1 : F58_1.offset = 1 := by kernel_rfl
noncomputable def F58_2 : Field := (fieldOf Try.prog 58 2).getD default
@[simp] theorem fo58_2 : fieldOf Try.prog 58 2 = some F58_2 := by kernel_rfl
@[simp] theorem ft58_2 : F58_2.type = 4 := by kernel_rfl
@[simp] theorem fx58_2 : F58_2.offset = 2 := by kernel_rfl
noncomputable def F58_3 : Field := (fieldOf Try.prog 58 3).getD default
@[simp] theorem fo58_3 : fieldOf Try.prog 58 3 = some F58_3 := by kernel_rfl
@[simp] theorem ft58_3 : F58_3.type = 4 := by kernel_rfl
@[simp] theorem fx58_3 : F58_3.offset = 3 := by kernel_rfl
noncomputable def F58_4 : Field := (fieldOf Try.prog 58 4).getD default
@[simp] theorem fo58_4 : fieldOf Try.prog 58 4 = some F58_4 := by kernel_rfl
@[simp] theorem ft58_4 : F58_4.type = 3 := by kernel_rfl
@[simp] theorem fx58_4 : F58_4.offset = 4 := by kernel_rfl
noncomputable def F58_5 : Field := (fieldOf Try.prog 58 5).getD default
@[simp] theorem fo58_5 : fieldOf Try.prog 58 5 = some F58_5 := by kernel_rfl
@[simp] theorem ft58_5 : F58_5.type = 3 := by kernel_rfl
@[simp] theorem fx58_5 : F58_5.offset = 5 := by kernel_rfl
@[simp] theorem inf59 : Try.prog.info? 59 = some Try.t59 := by kernel_rfl
@[simp] theorem tsz59 : Try.t59.size = 6 := by kernel_rfl
@[simp] theorem tby59 : Try.t59.bytes = 40 := by kernel_rfl
@[simp] theorem agg59 : aggT Try.prog 59 = some true := by kernel_rfl
@[simp] theorem slot59 : slotSize Try.prog 59 = 0 := by kernel_rfl
attribute [simp] Try.underlying59
@[simp] theorem zero59 : zeroV Try.prog 59 = some (.agg [(.int .i64 0), (.int .i64 0), (.bool false), (.bool false), (.int .i64 0), (.int .i64 0)]) := by kernel_rfl
@[simp] theorem slots59 : slotSizes Try.prog 59 = [0, 0, 0, 0, 0, 0] := by kernel_rfl
noncomputable def F59_0 : Field := (fieldOf Try.prog 59 0).getD default
@[simp] theorem fo59_0 : fieldOf Try.prog 59 0 = some F59_0 := by kernel_rfl
@[simp] theorem ft59_0 : F59_0.type = 3 := by kernel_rfl
@[simp] theorem fx59_0 : F59_0.offset = 0 := by kernel_rfl
noncomputable def F59_1 : Field := (fieldOf Try.prog 59 1).getD default
@[simp] theorem fo59_1 : fieldOf Try.prog 59 1 = some F59_1 := by kernel_rfl
@[simp] theorem ft59_1 : F59_1.type = 3 := by kernel_rfl
@[simp] theorem fx59_1 : F59_1.offset = 1 := by kernel_rfl
noncomputable def F59_2 : Field := (fieldOf Try.prog 59 2).getD default
@[simp] theorem fo59_2 : fieldOf Try.prog 59 2 = some F59_2 := by kernel_rfl
@[simp] theorem ft59_2 : F59_2.type = 4 := by kernel_rfl
@[simp] theorem fx59_2 : F59_2.offset = 2 := by kernel_rfl
noncomputable def F59_3 : Field := (fieldOf Try.prog 59 3).getD default
@[simp] theorem fo59_3 : fieldOf Try.prog 59 3 = some F59_3 := by kernel_rfl
@[simp] theorem ft59_3 : F59_3.type = 4 := by kernel_rfl
@[simp] theorem fx59_3 : F59_3.offset = 3 := by kernel_rfl
noncomputable def F59_4 : Field := (fieldOf Try.prog 59 4).getD default
@[simp] theorem fo59_4 : fieldOf Try.prog 59 4 = some F59_4 := by kernel_rfl
@[simp] theorem ft59_4 : F59_4.type = 3 := by kernel_rfl
@[simp] theorem fx59_4 : F59_4.offset = 4 := by kernel_rfl
noncomputable def F59_5 : Field := (fieldOf Try.prog 59 5).getD default
@[simp] theorem fo59_5 : fieldOf Try.prog 59 5 = some F59_5 := by kernel_rfl
@[simp] theorem ft59_5 : F59_5.type = 3 := by kernel_rfl
@[simp] theorem fx59_5 : F59_5.offset = 5 := by kernel_rfl
@[simp] theorem inf60 : Try.prog.info? 60 = some Try.t60 := by kernel_rfl
@[simp] theorem tsz60 : Try.t60.size = 144 := by kernel_rfl
@[simp] theorem tby60 : Try.t60.bytes = 960 := by kernel_rfl
@[simp] theorem agg60 : aggT Try.prog 60 = some true := by kernel_rfl
@[simp] theorem slot60 : slotSize Try.prog 60 = 0 := by kernel_rfl
attribute [simp] Try.underlying60
@[simp] theorem zero60 : zeroV Try.prog 60 = some (.agg [(.int .i64 0), (.int .i64 0), (.bool false), (.bool false), (.int .i64 0), (.int .i64 0), (.int .i64 0), (.int .i64 0), (.bool false), (.bool false), (.int .i64 0), (.int .i64 0), (.int .i64 0), (.int .i64 0), (.bool false), (.bool false), (.int .i64 0), (.int .i64 0), (.int .i64 0), (.int .i64 0), (.bool false), (.bool false), (.int .i64 0), (.int .i64 0), (.int .i64 0), (.int .i64 0), (.bool false), (.bool false), (.int .i64 0), (.int .i64 0), (.int .i64 0), (.int .i64 0), (.bool false), (.bool false), (.int .i64 0), (.int .i64 0), (.int .i64 0), (.int .i64 0), (.bool false), (.bool false), (.int .i64 0), (.int .i64 0), (.int .i64 0), (.int .i64 0), (.bool false), (.bool false), (.int .i64 0), (.int .i64 0), (.int .i64 0), (.int .i64 0), (.bool false), (.bool false), (.int .i64 0), (.int .i64 0), (.int .i64 0), (.int .i64 0), (.bool false), (.bool false), (.int .i64 0), (.int .i64 0), (.int .i64 0), (.int .i64 0), (.bool false), (.bool false), (.int .i64 0), (.int .i64 0), (.int .i64 0), (.int .i64 0), (.bool false), (.bool false), (.int .i64 0), (.int .i64 0), (.int .i64 0), (.int .i64 0), (.bool false), (.bool false), (.int .i64 0), (.int .i64 0), (.int .i64 0), (.int .i64 0), (.bool false), (.bool false), (.int .i64 0), (.int .i64 0), (.int .i64 0), (.int .i64 0), (.bool false), (.bool false), (.int .i64 0), (.int .i64 0), (.int .i64 0), (.int .i64 0), (.bool false), (.bool false), (.int .i64 0), (.int .i64 0), (.int .i64 0), (.int .i64 0), (.bool false), (.bool false), (.int .i64 0), (.int .i64 0), (.int .i64 0), (.int .i64 0), (.bool false), (.bool false), (.int .i64 0), (.int .i64 0), (.int .i64 0), (.int .i64 0), (.bool false), (.bool false), (.int .i64 0), (.int .i64 0), (.int .i64 0), (.int .i64 0), (.bool false), (.bool false), (.int .i64 0), (.int .i64 0), (.int .i64 0), (.int .i64 0), (.bool false), (.bool false), (.int .i64 0), (.int .i64 0), (.int .i64 0), (.int .i64 0), (.bool false), (.bool false), (.int .i64 0), (.int .i64 0), (.int .i64 0), (.int .i64 0), (.bool false), (.bool false), (.int .i64 0), (.int .i64 0), (.int .i64 0), (.int .i64 0), (.bool false), (.bool false), (.int .i64 0), (.int .i64 0)]) := by kernel_rfl
@[simp] theorem inf61 : Try.prog.info? 61 = some Try.t61 := by kernel_rfl
@[simp] theorem tsz61 : Try.t61.size = 3 := by kernel_rfl
@[simp] theorem tby61 : Try.t61.bytes = 32 := by kernel_rfl
@[simp] theorem agg61 : aggT Try.prog 61 = some true := by kernel_rfl
@[simp] theorem slot61 : slotSize Try.prog 61 = 0 := by kernel_rfl
attribute [simp] Try.underlying61
@[simp] theorem zero61 : zeroV Try.prog 61 = some (.agg [(.str []), (.int .i64 0), (.int .i64 0)]) := by kernel_rfl
@[simp] theorem slots61 : slotSizes Try.prog 61 = [0, 0, 0] := by kernel_rfl
noncomputable def F61_0 : Field := (fieldOf Try.prog 61 0).getD default
@[simp] theorem fo61_0 : fieldOf Try.prog 61 0 = some F61_0 := by kernel_rfl
@[simp] theorem ft61_0 : F61_0.type = 9 := by kernel_rfl
@[simp] theorem fx61_0 : F61_0.offset = 0 := by kernel_rfl
noncomputable def F61_1 : Field := (fieldOf Try.prog 61 1).getD default
@[simp] theorem fo61_1 : fieldOf Try.prog 61 1 = some F61_1 := by kernel_rfl
@[simp] theorem ft61_1 : F61_1.type = 3 := by kernel_rfl
@[simp] theorem fx61_1 : F61_1.offset = 1 := by kernel_rfl
noncomputable def F61_2 : Field := (fieldOf Try.prog 61 2).getD default
@[simp] theorem fo61_2 : fieldOf Try.prog 61 2 = some F61_2 := by kernel_rfl
@[simp] theorem ft61_2 : F61_2.type = 3 := by kernel_rfl
@[simp] theorem fx61_2 : F61_2.offset = 2 := by kernel_rfl
@[simp] theorem inf62 : Try.prog.info? 62 = some Try.t62 := by kernel_rfl
@[simp] theorem tsz62 : Try.t62.size = 3 := by kernel_rfl
@[simp] theorem tby62 : Try.t62.bytes = 32 := by kernel_rfl
@[simp] theorem agg62 : aggT Try.prog 62 = some true := by kernel_rfl
@[simp] theorem slot62 : slotSize Try.prog 62 = 0 := by kernel_rfl
attribute [simp] Try.underlying62
@[simp] theorem zero62 : zeroV Try.prog 62 = some (.agg [(.str []), (.int .i64 0), (.int .i64 0)]) := by kernel_rfl
@[simp] theorem slots62 : slotSizes Try.prog 62 = [0, 0, 0] := by kernel_rfl
noncomputable def F62_0 : Field := (fieldOf Try.prog 62 0).getD default
@[simp] theorem fo62_0 : fieldOf Try.prog 62 0 = some F62_0 := by kernel_rfl
@[simp] theorem ft62_0 : F62_0.type = 9 := by kernel_rfl
@[simp] theorem fx62_0 : F62_0.offset = 0 := by kernel_rfl
noncomputable def F62_1 : Field := (fieldOf Try.prog 62 1).getD default
@[simp] theorem fo62_1 : fieldOf Try.prog 62 1 = some F62_1 := by kernel_rfl
@[simp] theorem ft62_1 : F62_1.type = 3 := by kernel_rfl
@[simp] theorem fx62_1 : F62_1.offset = 1 := by kernel_rfl
noncomputable def F62_2 : Field := (fieldOf Try.prog 62 2).getD default
@[simp] theorem fo62_2 : fieldOf Try.prog 62 2 = some F62_2 := by kernel_rfl
@[simp] theorem ft62_2 : F62_2.type = 3 := by kernel_rfl
@[simp] theorem fx62_2 : F62_2.offset = 2 := by kernel_rfl
@[simp] theorem inf63 : Try.prog.info? 63 = some Try.t63 := by kernel_rfl
@[simp] theorem tsz63 : Try.t63.size = 24 := by kernel_rfl
@[simp] theorem tby63 : Try.t63.bytes = 256 := by kernel_rfl
@[simp] theorem agg63 : aggT Try.prog 63 = some true := by kernel_rfl
@[simp] theorem slot63 : slotSize Try.prog 63 = 0 := by kernel_rfl
attribute [simp] Try.underlying63
@[simp] theorem zero63 : zeroV Try.prog 63 = some (.agg [(.str []), (.int .i64 0), (.int .i64 0), (.str []), (.int .i64 0), (.int .i64 0), (.str []), (.int .i64 0), (.int .i64 0), (.str []), (.int .i64 0), (.int .i64 0), (.str []), (.int .i64 0), (.int .i64 0), (.str []), (.int .i64 0), (.int .i64 0), (.str []), (.int .i64 0), (.int .i64 0), (.str []), (.int .i64 0), (.int .i64 0)]) := by kernel_rfl
@[simp] theorem inf64 : Try.prog.info? 64 = some Try.t64 := by kernel_rfl
@[simp] theorem tsz64 : Try.t64.size = 1 := by kernel_rfl
@[simp] theorem tby64 : Try.t64.bytes = 24 := by kernel_rfl
@[simp] theorem agg64 : aggT Try.prog 64 = some false := by kernel_rfl
@[simp] theorem slot64 : slotSize Try.prog 64 = 4 := by kernel_rfl
attribute [simp] Try.underlying64
@[simp] theorem zero64 : zeroV Try.prog 64 = some .nils := by kernel_rfl
@[simp] theorem elem64 : elemT Try.prog 64 = some Try.t176 := by kernel_rfl
@[simp] theorem inf65 : Try.prog.info? 65 = some Try.t65 := by kernel_rfl
@[simp] theorem tsz65 : Try.t65.size = 518 := by kernel_rfl
@[simp] theorem tby65 : Try.t65.bytes = 4064 := by kernel_rfl
@[simp] theorem agg65 : aggT Try.prog 65 = some true := by kernel_rfl
@[simp] theorem slot65 : slotSize Try.prog 65 = 0 := by kernel_rfl
attribute [simp] Try.underlying65
@[simp] theorem zero65 : zeroV Try.prog 65 = some (.agg [(.int .i64 0), (.int .i64 0), (.int .i64 0), (.int .i64 0), (.int .i64 0), (.int .i64 0), (.int .i64 0), (.int .i64 0), (.int .i64 0), (.int .i64 0), .nils, .nils, (.bool false), (.int .i64 0), (.int .i64 0), (.int .i64 0), (.bool false), (.int .i64 0), (.int .i64 0), (.int .i64 0), (.bool false), (.int .i64 0), (.int .i64 0), (.int .i64 0), (.bool false), (.int .i64 0), (.int .i64 0), (.int .i64 0), (.bool false), (.int .i64 0), (.int .i64 0), (.int .i64 0), (.bool false), (.int .i64 0), (.int .i64 0), (.int .i64 0), (.bool false), (.int .i64 0), (.int .i64 0), (.int .i64 0), (.bool false), (.int .i64 0), (.int .i64 0), (.int .i64 0), (.bool false), (.int .i64 0), (.int .i64 0), (.int .i64 0), (.bool false), (.int .i64 0), (.int .i64 0), (.int .i64 0), (.bool false), (.int .i64 0), (.int .i64 0), (.int .i64 0), (.bool false), (.int .i64 0), (.int .i64 0), (.int .i64 0), (.bool false), (.int .i64 0), (.int .i64 0), (.int .i64 0), (.bool false), (.int .i64 0), (.int .i64 0), (.int .i64 0), (.bool false), (.int .i64 0), (.int .i64 0), (.int .i64 0), (.bool false), (.int .i64 0), (.int .i64 0), (.int .i64 0), (.bool false), (.int .i64 0), (.int .i64 0), (.bool false), (.bool false), (.int .i64 0), (.int .i64 0), .nils, .nils, .nils, (.bool false), (.bool false), (.bool false), (.int .i64 0), (.int .i64 0), (.int .i64 0), (.int .i64 0), (.int .i64 0), .nils, (.int .i64 0), (.bool false), (.bool false), (.bool false), (.bool false), (.bool false), (.int .i64 0), (.int .i64 0), (.int .i64 0), (.int .i64 0), (.int .i64 0), (.bool false), (.bool false), (.int .i64 0), (.bool false), (.int .i64 0), (.int .i64 0), (.int .i64 0), (.int .i64 0), (.int .i64 0), (.int .i64 0), (.int .i64 0), (.int .i64 0), (.int .i64 0), (.int .i64 0), (.int .i64 0), (.int .i64 0), (.int .i64 0), (.int .i64 0), (.int .i64 0), (.bool false), (.int .i64 0), (.int .i64 0), (.int .i64 0), (.int .i64 0), (.int .i64 0), (.int .i64 0), (.int .i64 0), (.int .i64 0), (.int .i64 0), (.int .i64 0), (.int .i64 0), (.int .i64 0), (.int .i64 0), (.int .i64 0), (.int .i64 0), (.int .i64 0), (.int .i64 0), (.int .i64 0), (.int .i64 0), (.int .i64 0), (.int .i64 0), (.int .i64 0), (.int .i64 0), (.int .i64 0), (.int .i64 0), (.int .i64 0), (.int .i64 0), (.int .i64 0), (.bool false), (.int .i64 0), (.int .i64 0), (.int .i64 0), (.int .i64 0), (.int .i64 0), (.int .i64 0), (.int .i64 0), (.int .i64 0), (.int .i64 0), (.int .i64 0), (.int .i64 0), (.int .i64 0), (.int .i64 0), (.int .i64 0), (.int .i64 0), (.int .i64 0), (.int .i64 0), (.int .i64 0), (.int .i64 0), (.int .i64 0), (.int .i64 0), (.int .i64 0), (.int .i64 0), (.int .i64 0), (.int .i64 0), (.int .i64 0), (.int .i64 0), (.int .i64 0), (.bool false), (.int .i64 0), (.int .i64 0), (.int .i64 0), (.int .i64 0), (.int .i64 0), (.int .i64 0), (.int .i64 0), (.int .i64 0), (.int .i64 0), (.int .i64 0), (.int .i64 0), (.int .i64 0), (.int .i64 0), (.int .i64 0), (.int .i64 0), (.int .i64 0), (.int .i64 0), (.int .i64 0), (.int .i64 0), (.int .i64 0), (.int .i64 0), (.int .i64 0), (.int .i64 0), (.int .i64 0), (.int .i64 0), (.int .i64 0), (.int .i64 0), (.int .i64 0), (.bool false), (.int .i64 0), (.int .i64 0), (.int .i64 0), (.int .i64 0), (.int .i64 0), (.int .i64 0), (.int .i64 0), (.int .i64 0), (.int .i64 0), (.int .i64 0), (.int .i64 0), (.int .i64 0), (.int .i64 0), (.int .i64 0), (.int .i64 0), (.int .i64 0), (.int .i64 0), (.int .i64 0), (.int .i64 0), (.int .i64 0), (.int .i64 0), (.int .i64 0), (.int .i64 0), (.int .i64 0), (.int .i64 0), (.int .i64 0), (.int .i64 0), (.int .i64 0), (.bool false), (.int .i64 0), (.int .i64 0), (.int .i64 0), (.int .i64 0), (.int .i64 0), (.int .i64 0), (.int .i64 0), (.int .i64 0), (.int .i64 0), (.int .i64 0), (.int .i64 0), (.int .i64 0), (.int .i64 0), (.int .i64 0), (.int .i64 0), (.int .i64 0), (.int .i64 0), (.int .i64 0), (.int .i64 0), (.int .i64 0), (.int .i64 0), (.int .i64 0), (.int .i64 0), (.int .i64 0), (.int .i64 0), (.int .i64 0), (.int .i64 0), (.int .i64 0), (.bool false), (.int .i64 0), (.int .i64 0), (.int .i64 0), (.int .i64 0), (.int .i64 0), (.int .i64 0), (.int .i64 0), (.int .i64 0), (.int .i64 0), (.int .i64 0), (.int .i64 0), (.int .i64 0), (.int .i64 0), (.int .i64 0), (.int .i64 0), (.int .i64 0), (.int .i64 0), (.int .i64 0), (.int .i64 0), (.int .i64 0), (.int .i64 0), (.int .i64 0), (.int .i64 0), (.int .i64 0), (.int .i64 0), (.int .i64 0), (.int .i64 0), (.int .i64 0), (.bool false), (.int .i64 0), (.int .i64 0), (.int .i64 0), (.int .i64 0), (.int .i64 0), (.int .i64 0), (.int .i64 0), (.int .i64 0), (.int .i64 0), (.int .i64 0), (.int .i64 0), (.int .i64 0), (.int .i64 0), (.int .i64 0), (.int .i64 0), (.int .i64 0), (.int .i64 0), (.int .i64 0), (.int .i64 0), (.int .i64 0), (.int .i64 0), (.int .i64 0), (.int .i64 0), (.int .i64 0), (.int .i64 0), (.int .i64 0), (.int .i64 0), (.int .i64 0), (.bool false), (.int .i64 0), (.int .i64 0), (.int .i64 0), (.int .i64 0), (.int .i64 0), (.int .i64 0), (.int .i64 0), (.int .i64 0), (.int .i64 0), (.int .i64 0), (.int .i64 0), (.int .i64 0), (.int .i64 0), (.int .i64 0), (.int .i64 0), (.bool false), (.bool false), (.int .i64 0), (.int .i64 0), (.int .i64 0), (.int .i64 0), (.bool false), (.bool false), (.int .i64 0), (.int .i64 0), (.int .i64 0), (.int .i64 0), (.bool false), (.bool false), (.int .i64 0), (.int .i64 0), (.int .i64 0), (.int .i64 0), (.bool false), (.bool false), (.int .i64 0), (.int .i64 0), (.int .i64 0), (.int .i64 0), (.bool false), (.bool false), (.int .i64 0), (.int .i64 0), (.int .i64 0), (.int .i64 0), (.bool false), (.bool false), (.int .i64 0), (.int .i64 0), (.int .i64 0), (.int .i64 0), (.bool false), (.bool false), (.int .i64 0), (.int .i64 0), (.int .i64 0), (.int .i64 0), (.bool false), (.bool false), (.int .i64 0), (.int .i64 0), (.int .i64 0), (.int .i64 0), (.bool false), (.bool false), (.int .i64 0), (.int .i64 0), (.int .i64 0), (.int .i64 0), (.bool false), (.bool false), (.int .i64 0), (.int .i64 0), (.int .i64 0), (.int .i64 0), (.bool false), (.bool false), (.int .i64 0), (.int .i64 0), (.int .i64 0), (.int .i64 0), (.bool false), (.bool false), (.int .i64 0), (.int .i64 0), (.int .i64 0), (.int .i64 0), (.bool false), (.bool false), (.int .i64 0), (.int .i64 0), (.int .i64 0), (.int .i64 0), (.bool false), (.bool false), (.int .i64 0), (.int .i64 0), (.int .i64 0), (.int .i64 0), (.bool false), (.bool false), (.int .i64 0), (.int .i64 0), (.int .i64 0), (.int .i64 0), (.bool false), (.bool false), (.int .i64 0), (.int .i64 0), (.int .i64 0), (.int .i64 0), (.bool false), (.bool false), (.int .i64 0), (.int .i64 0), (.int .i64 0), (.int .i64 0), (.bool false), (.bool false), (.int .i64 0), (.int .i64 0), (.int .i64 0), (.int .i64 0), (.bool false), (.bool false), (.int .i64 0), (.int .i64 0), (.int .i64 0), (.int .i64 0), (.bool false), (.bool false), (.int .i64 0), (.int .i64 0), (.int .i64 0), (.int .i64 0), (.bool false), (.bool false), (.int .i64 0), (.int .i64 0), (.int .i64 0), (.int .i64 0), (.bool false), (.bool false), (.int .i64 0), (.int .i64 0), (.int .i64 0), (.int .i64 0), (.bool false), (.bool false), (.int .i64 0), (.int .i64 0), (.int .i64 0), (.int .i64 0), (.bool false), (.bool false), (.int .i64 0), (.int .i64 0), (.str []), (.int .i64 0), (.int .i64 0), (.str []), (.int .i64 0), (.int .i64 0), (.str []), (.int .i64 0), (.int .i64 0), (.str []), (.int .i64 0), (.int .i64 0), (.str []), (.int .i64 0), (.int .i64 0), (.str []), (.int .i64 0), (.int .i64 0), (.str []), (.int .i64 0), (.int .i64 0), (.str []), (.int .i64 0), (.int .i64 0), .nils, (.int .i64 0), (.int .i64 0), (.int .i64 0), (.int .i64 0), (.int .i64 0), (.int .i64 0), (.bool false)]) := by kernel_rfl
@[simp] theorem slots65 : slotSizes Try.prog 65 = [0, 0, 0, 0, 0, 0, 0, 0, 0, 0, 1, 1, 0, 0, 0, 0, 0, 0, 0, 0, 0, 0, 0, 0, 0, 0, 0, 0, 0, 0, 0, 0, 0, 0, 0, 0, 0, 0, 0, 0, 0, 0, 0, 0, 0, 0, 0, 0, 0, 0, 0, 0, 0, 0, 0, 0, 0, 0, 0, 0, 0, 0, 0, 0, 0, 0, 0, 0, 0, 0, 0, 0, 0, 0, 0, 0, 0, 0, 0, 0, 0, 0, 0, 9, 1, 1, 0, 0, 0, 0, 0, 0, 0, 0, 1, 0, 0, 0, 0, 0, 0, 0, 0, 0, 0, 0, 0, 0, 0, 0, 0, 0, 0, 0, 0, 0, 0, 0, 0, 0, 0, 0, 0, 0, 0, 0, 0, 0, 0, 0, 0, 0, 0, 0, 0, 0, 0, 0, 0, 0, 0, 0, 0, 0, 0, 0, 0, 0, 0, 0, 0, 0, 0, 0, 0, 0, 0, 0, 0, 0, 0, 0, 0, 0, 0, 0, 0, 0, 0, 0, 0, 0, 0, 0, 0, 0, 0, 0, 0, 0, 0, 0, 0, 0, 0, 0, 0, 0, 0, 0, 0, 0, 0, 0, 0, 0, 0, 0, 0, 0, 0, 0, 0, 0, 0, 0, 0, 0, 0, 0, 0, 0, 0, 0, 0, 0, 0, 0, 0, 0, 0, 0, 0, 0, 0, 0, 0, 0, 0, 0, 0, 0, 0, 0, 0, 0, 0, 0, 0, 0, 0, 0, 0, 0, 0, 0, 0, 0, 0, 0, 0, 0, 0, 0, 0, 0, 0, 0, 0, 0, 0, 0, 0, 0, 0, 0, 0, 0, 0, 0, 0, 0, 0, 0, 0, 0, 0, 0, 0, 0, 0, 0, 0, 0, 0, 0, 0, 0, 0, 0, 0, 0, 0, 0, 0, 0, 0, 0, 0, 0, 0, 0, 0, 0, 0, 0, 0, 0, 0, 0, 0, 0, 0, 0, 0, 0, 0, 0, 0, 0, 0, 0, 0, 0, 0, 0, 0, 0, 0, 0, 0, 0, 0, 0, 0, 0, 0, 0, 0, 0, 0, 0, 0, 0, 0, 0, 0, 0, 0, 0, 0, 0, 0, 0, 0, 0, 0, 0, 0, 0, 0, 0, 0, 0, 0, 0, 0, 0, 0, 0, 0, 0, 0, 0, 0, 0, 0, 0, 0, 0, 0, 0, 0, 0, 0, 0, 0, 0, 0, 0, 0, 0, 0, 0, 0, 0, 0, 0, 0, 0, 0, 0, 0, 0, 0, 0, 0, 0, 0, 0, 0, 0, 0, 0, 0, 0, 0, 0, 0, 0, 0, 0, 0, 0, 0, 0, 0, 0, 0, 0, 0, 0, 0, 0, 0, 0, 0, 0, 0, 0, 0, 0, 0, 0, 0, 0, 0, 0, 0, 0, 0, 0, 0, 0, 0, 0, 0, 0, 0, 0, 0, 0, 0, 0, 0, 0, 0, 0, 0, 0, 0, 0, 0, 0, 0, 0, 0, 0, 0, 0, 0, 0, 0, 0, 0, 0, 0, 0, 0, 0, 0, 0, 0, 0, 0, 0, 0, 0, 0, 0, 0, 0, 0, 0, 0, 0, 0, 0, 0, 0, 4, 0, 0, 0, 0, 0, 0, 0] := by kernel_rfl
noncomputable def F65_0 : Field := (fieldOf Try.prog 65 0).getD default
@[simp] theorem fo65_0 : fieldOf Try.prog 65 0 = some F65_0 := by kernel_rfl
@[simp] theorem ft65_0 : F65_0.type = 53 := by kernel_rfl
@[simp] theorem fx65_0 : F65_0.offset = 0 := by kernel_rfl
noncomputable def F65_1 : Field := (fieldOf Try.prog 65 1).getD default
@[simp] theorem fo65_1 : fieldOf Try.prog 65 1 = some F65_1 := by kernel_rfl
@[simp] theorem ft65_1 : F65_1.type = 57 := by kernel_rfl
@[simp] theorem fx65_1 : F65_1.offset = 110 := by kernel_rfl
noncomputable def F65_2 : Field := (fieldOf Try.prog 65 2).getD default
@[simp] theorem fo65_2 : fieldOf Try.prog 65 2 = some F65_2 := by kernel_rfl
@[simp] theorem ft65_2 : F65_2.type = 60 := by kernel_rfl
@[simp] theorem fx65_2 : F65_2.offset = 342 := by kernel_rfl
noncomputable def F65_3 : Field := (fieldOf Try.prog 65 3).getD default
@[simp] theorem fo65_3 : fieldOf Try.prog 65 3 = some F65_3 := by kernel_rfl
@[simp] theorem ft65_3 : F65_3.type = 63 := by kernel_rfl
@[simp] theorem fx65_3 : F65_3.offset = 486 := by kernel_rfl
noncomputable def F65_4 : Field := (fieldOf Try.prog 65 4).getD default
@[simp] theorem fo65_4 : fieldOf Try.prog 65 4 = some F65_4 := by kernel_rfl
@[simp] theorem ft65_4 : F65_4.type = 64 := by kernel_rfl
@[simp] theorem fx65_4 : F65_4.offset = 510 := by kernel_rfl
noncomputable def F65_5 : Field := (fieldOf Try.prog 65 5).getD default
@[simp] theorem fo65_5 : fieldOf Try.prog 65 5 = some F65_5 := by kernel_rfl
@[simp] theorem ft65_5 : F65_5.type = 24 := by kernel_rfl
@[simp] theorem fx65_5 : F65_5.offset = 511 := by kernel_rfl
noncomputable def F65_6 : Field := (fieldOf Try.prog 65 6).getD default
@[simp] theorem fo65_6 : fieldOf Try.prog 65 6 = some F65_6 := by kernel_rfl
@[simp] theorem ft65_6 : F65_6.type = 24 := by kernel_rfl
@[simp] theorem fx65_6 : F65_6.offset = 513 := by kernel_rfl
noncomputable def F65_7 : Field := (fieldOf Try.prog 65 7).getD default
@[simp] theorem fo65_7 : fieldOf Try.prog 65 7 = some F65_7 := by kernel_rfl
@[simp] theorem ft65_7 : F65_7.type = 3 := by kernel_rfl
@[simp] theorem fx65_7 : F65_7.offset = 515 := by kernel_rfl
noncomputable def F65_8 : Field := (fieldOf Try.prog 65 8).getD default
@[simp] theorem fo65_8 : fieldOf Try.prog 65 8 = some F65_8 := by kernel_rfl
@[simp] theorem ft65_8 : F65_8.type = 3 := by kernel_rfl
@[simp] theorem fx65_8 : F65_8.offset = 516 := by kernel_rfl
noncomputable def F65_9 : Field := (fieldOf Try.prog 65 9).getD default
@[simp] theorem fo65_9 : fieldOf Try.prog 65 9 = some F65_9 := by kernel_rfl
@[simp] theorem ft65_9 : F65_9.type = 4 := by kernel_rfl
@[simp] theorem fx65_9 : F65_9.offset = 517 := by kernel_rfl
@[simp] theorem inf66 : Try.prog.info? 66 = some Try.t66 := by kernel_rfl
@[simp] theorem tsz66 : Try.t66.size = 518 := by kernel_rfl
@[simp] theorem tby66 : Try.t66.bytes = 4064 := by kernel_rfl
@[simp] theorem agg66 : aggT Try.prog 66 = some true := by kernel_rfl
@[simp] theorem slot66 : slotSize Try.prog 66 = 0 := by kernel_rfl
attribute [simp] Try.underlying66
@[simp] theorem zero66 : zeroV Try.prog 66 = some (.agg [(.int .i64 0), (.int .i64 0), (.int .i64 0), (.int .i64 0), (.int .i64 0), (.int .i64 0), (.int .i64 0), (.int .i64 0), (.int .i64 0), (.int .i64 0), .nils, .nils, (.bool false), (.int .i64 0), (.int .i64 0), (.int .i64 0), (.bool false), (.int .i64 0), (.int .i64 0), (.int .i64 0), (.bool false), (.int .i64 0), (.int .i64 0), (.int .i64 0), (.bool false), (.int .i64 0), (.int .i64 0), (.int .i64 0), (.bool false), (.int .i64 0), (.int .i64 0), (.int .i64 0), (.bool false), (.int .i64 0), (.int .i64 0), (.int .i64 0), (.bool false), (.int .i64 0), (.int .i64 0), (.int .i64 0), (.bool false), (.int .i64 0), (.int .i64 0), (.int .i64 0), (.bool false), (.int .i64 0), (.int .i64 0), (.int .i64 0), (.bool false), (.int .i64 0), (.int .i64 0), (.int .i64 0), (.bool false), (.int .i64 0), (.int .i64 0), (.int .i64 0), (.bool false), (.int .i64 0), (.int .i64 0), (.int .i64 0), (.bool false), (.int .i64 0), (.int .i64 0), (.int .i64 0), (.bool false), (.int .i64 0), (.int .i64 0), (.int .i64 0), (.bool false), (.int .i64 0), (.int .i64 0), (.int .i64 0), (.bool false), (.int .i64 0), (.int .i64 0), (.int .i64 0), (.bool false), (.int .i64 0), (.int .i64 0), (.bool false), (.bool false), (.int .i64 0), (.int .i64 0), .nils, .nils, .nils, (.bool false), (.bool false), (.bool false), (.int .i64 0), (.int .i64 0), (.int .i64 0), (.int .i64 0), (.int .i64 0), .nils, (.int .i64 0), (.bool false), (.bool false), (.bool false), (.bool false), (.bool false), (.int .i64 0), (.int .i64 0), (.int .i64 0), (.int .i64 0), (.int .i64 0), (.bool false), (.bool false), (.int .i64 0), (.bool false), (.int .i64 0), (.int .i64 0), (.int .i64 0), (.int .i64 0), (.int .i64 0), (.int .i64 0), (.int .i64 0), (.int .i64 0), (.int .i64 0), (.int .i64 0), (.int .i64 0), (.int .i64 0), (.int .i64 0), (.int .i64 0), (.int .i64 0), (.bool false), (.int .i64 0), (.int .i64 0), (.int .i64 0), (.int .i64 0), (.int .i64 0), (.int .i64 0), (.int .i64 0), (.int .i64 0), (.int .i64 0), (.int .i64 0), (.int .i64 0), (.int .i64 0), (.int .i64 0), (.int .i64 0), (.int .i64 0), (.int .i64 0), (.int .i64 0), (.int .i64 0), (.int .i64 0), (.int .i64 0), (.int .i64 0), (.int .i64 0), (.int .i64 0), (.int .i64 0), (.int .i64 0), (.int .i64 0), (.int .i64 0), (.int .i64 0), (.bool false), (.int .i64 0), (.int .i64 0), (.int .i64 0), (.int .i64 0), (.int .i64 0), (.int .i64 0), (.int .i64 0), (.int .i64 0), (.int .i64 0), (.int .i64 0), (.int .i64 0), (.int .i64 0), (.int .i64 0), (.int .i64 0), (.int .i64 0), (.int .i64 0), (.int .i64 0), (.int .i64 0), (.int .i64 0), (.int .i64 0), (.int .i64 0), (.int .i64 0), (.int .i64 0), (.int .i64 0), (.int .i64 0), (.int .i64 0), (.int .i64 0), (.int .i64 0), (.bool false), (.int .i64 0), (.int .i64 0), (.int .i64 0), (.int .i64 0), (.int .i64 0), (.int .i64 0), (.int .i64 0), (.int .i64 0), (.int .i64 0), (.int .i64 0), (.int .i64 0), (.int .i64 0), (.int .i64 0), (.int .i64 0), (.int .i64 0), (.int .i64 0), (.int .i64 0), (.int .i64 0), (.int .i64 0), (.int .i64 0), (.int .i64 0), (.int .i64 0), (.int .i64 0), (.int .i64 0), (.int .i64 0), (.int .i64 0), (.int .i64 0), (.int .i64 0), (.bool false), (.int .i64 0), (.int .i64 0), (.int .i64 0), (.int .i64 0), (.int .i64 0), (.int .i64 0), (.int .i64 0), (.int .i64 0), (.int .i64 0), (.int .i64 0), (.int .i64 0), (.int .i64 0), (.int .i64 0), (.int .i64 0), (.int .i64 0), (.int .i64 0), (.int .i64 0), (.int .i64 0), (.int .i64 0), (.int .i64 0), (.int .i64 0), (.int .i64 0), (.int .i64 0), (.int .i64 0), (.int .i64 0), (.int .i64 0), (.int .i64 0), (.int .i64 0), (.bool false), (.int .i64 0), (.int .i64 0), (.int .i64 0), (.int .i64 0), (.int .i64 0), (.int .i64 0), (.int .i64 0), (.int .i64 0), (.int .i64 0), (.int .i64 0), (.int .i64 0), (.int .i64 0), (.int .i64 0), (.int .i64 0), (.int .i64 0), (.int .i64 0), (.int .i64 0), (.int .i64 0), (.int .i64 0), (.int .i64 0), (.int .i64 0), (.int .i64 0), (.int .i64 0), (.int .i64 0), (.int .i64 0), (.int .i64 0), (.int .i64 0), (.int .i64 0), (.bool false), (.int .i64 0), (.int .i64 0), (.int .i64 0), (.int .i64 0), (.int .i64 0), (.int .i64 0), (.int .i64 0), (.int .i64 0), (.int .i64 0), (.int .i64 0), (.int .i64 0), (.int .i64 0), (.int .i64 0), (.int .i64 0), (.int .i64 0), (.int .i64 0), (.int .i64 0), (.int .i64 0), (.int .i64 0), (.int .i64 0), (.int .i64 0), (.int .i64 0), (.int .i64 0), (.int .i64 0), (.int .i64 0), (.int .i64 0), (.int .i64 0), (.int .i64 0), (.bool false), (.int .i64 0), (.int .i64 0), (.int .i64 0), (.int .i64 0), (.int .i64 0), (.int .i64 0), (.int .i64 0), (.int .i64 0), (.int .i64 0), (.int .i64 0), (.int .i64 0), (.int .i64 0), (.int .i64 0), (.int .i64 0), (.int .i64 0), (.int .i64 0), (.int .i64 0), (.int .i64 0), (.int .i64 0), (.int .i64 0), (.int .i64 0), (.int .i64 0), (.int .i64 0), (.int .i64 0), (.int .i64 0), (.int .i64 0), (.int .i64 0), (.int .i64 0), (.bool false), (.int .i64 0), (.int .i64 0), (.int .i64 0), (.int .i64 0), (.int .i64 0), (.int .i64 0), (.int .i64 0), (.int .i64 0), (.int .i64 0), (.int .i64 0), (.int .i64 0), (.int .i64 0), (.int .i64 0), (.int .i64 0), (.int .i64 0), (.bool false), (.bool false), (.int .i64 0), (.int .i64 0), (.int .i64 0), (.int .i64 0), (.bool false), (.bool false), (.int .i64 0), (.int .i64 0), (.int .i64 0), (.int .i64 0), (.bool false), (.bool false), (.int .i64 0), (.int .i64 0), (.int .i64 0), (.int .i64 0), (.bool false), (.bool false), (.int .i64 0), (.int .i64 0), (.int .i64 0), (.int .i64 0), (.bool false), (.bool false), (.int .i64 0), (.int .i64 0), (.int .i64 0), (.int .i64 0), (.bool false), (.bool false), (.int .i64 0), (.int .i64 0), (.int .i64 0), (.int .i64 0), (.bool false), (.bool false), (.int .i64 0), (.int .i64 0), (.int .i64 0), (.int .i64 0), (.bool false), (.bool false), (.int .i64 0), (.int .i64 0), (.int .i64 0), (.int .i64 0), (.bool false), (.bool false), (.int .i64 0), (.int .i64 0), (.int .i64 0), (.int .i64 0), (.bool false), (.bool false), (.int .i64 0), (.int .i64 0), (.int .i64 0), (.int .i64 0), (.bool false), (.bool false), (.int .i64 0), (.int .i64 0), (.int .i64 0), (.int .i64 0), (.bool false), (.bool false), (.int .i64 0), (.int .i64 0), (.int .i64 0), (.int .i64 0), (.bool false), (.bool false), (.int .i64 0), (.int .i64 0), (.int .i64 0), (.int .i64 0), (.bool false), (.bool false), (.int .i64 0), (.int .i64 0), (.int .i64 0), (.int .i64 0), (.bool false), (.bool false), (.int .i64 0), (.int .i64 0), (.int .i64 0), (.int .i64 0), (.bool false), (.bool false), (.int .i64 0), (.int .i64 0), (.int .i64 0), (.int .i64 0), (.bool false), (.bool false), (.int .i64 0), (.int .i64 0), (.int .i64 0), (.int .i64 0), (.bool false), (.bool false), (.int .i64 0), (.int .i64 0), (.int .i64 0), (.int .i64 0), (.bool false), (.bool false), (.int .i64 0), (.int .i64 0), (.int .i64 0), (.int .i64 0), (.bool false), (.bool false), (.int .i64 0), (.int .i64 0), (.int .i64 0), (.int .i64 0), (.bool false), (.bool false), (.int .i64 0), (.int .i64 0), (.int .i64 0), (.int .i64 0), (.bool false), (.bool false), (.int .i64 0), (.int .i64 0), (.int .i64 0), (.int .i64 0), (.bool false), (.bool false), (.int .i64 0), (.int .i64 0), (.int .i64 0), (.int .i64 0), (.bool false), (.bool false), (.int .i64 0), (.int .i64 0), (.str []), (.int .i64 0), (.int .i64 0), (.str []), (.int .i64 0), (.int .i64 0), (.str []), (.int .i64 0), (.int .i64 0), (.str []), (.int .i64 0), (.int .i64 0), (.str []), (.int .i64 0), (.int .i64 0), (.str []), (.int .i64 0), (.int .i64 0), (.str []), (.int .i64 0), (.int .i64 0), (.str []), (.int .i64 0), (.int .i64 0), .nils, (.int .i64 0), (.int .i64 0), (.int .i64 0), (.int .i64 0), (.int .i64 0), (.int .i64 0), (.bool false)]) := by kernel_rfl
@[simp] theorem slots66 : slotSizes Try.prog 66 = [0, 0, 0, 0, 0, 0, 0, 0, 0, 0, 1, 1, 0, 0, 0, 0, 0, 0, 0, 0, 0, 0, 0, 0, 0, 0, 0, 0, 0, 0, 0, 0, 0, 0, 0, 0, 0, 0, 0, 0, 0, 0, 0, 0, 0, 0, 0, 0, 0, 0, 0, 0, 0, 0, 0, 0, 0, 0, 0, 0, 0, 0, 0, 0, 0, 0, 0, 0, 0, 0, 0, 0, 0, 0, 0, 0, 0, 0, 0, 0, 0, 0, 0, 9, 1, 1, 0, 0, 0, 0, 0, 0, 0, 0, 1, 0, 0, 0, 0, 0, 0, 0, 0, 0, 0, 0, 0, 0, 0, 0, 0, 0, 0, 0, 0, 0, 0, 0, 0, 0, 0, 0, 0, 0, 0, 0, 0, 0, 0, 0, 0, 0, 0, 0, 0, 0, 0, 0, 0, 0, 0, 0, 0, 0, 0, 0, 0, 0, 0, 0, 0, 0, 0, 0, 0, 0, 0, 0, 0, 0, 0, 0, 0, 0, 0, 0, 0, 0, 0, 0, 0, 0, 0, 0, 0, 0, 0, 0, 0, 0, 0, 0, 0, 0, 0, 0, 0, 0, 0, 0, 0, 0, 0, 0, 0, 0, 0, 0, 0, 0, 0, 0, 0, 0, 0, 0, 0, 0, 0, 0, 0, 0, 0, 0, 0, 0, 0, 0, 0, 0, 0, 0, 0, 0, 0, 0, 0, 0, 0, 0, 0, 0, 0, 0, 0, 0, 0, 0, 0, 0, 0, 0, 0, 0, 0, 0, 0, 0, 0, 0, 0, 0, 0, 0, 0, 0, 0, 0, 0, 0, 0, 0, 0, 0, 0, 0, 0, 0, 0, 0, 0, 0, 0, 0, 0, 0, 0, 0, 0, 0, 0, 0, 0, 0, 0, 0, 0, 0, 0, 0, 0, 0, 0, 0, 0, 0, 0, 0, 0, 0, 0, 0, 0, 0, 0, 0, 0, 0, 0, 0, 0, 0, 0, 0, 0, 0, 0, 0, 0, 0, 0, 0, 0, 0, 0, 0, 0, 0, 0, 0, 0, 0, 0, 0, 0, 0, 0, 0, 0, 0, 0, 0, 0, 0, 0, 0, 0, 0, 0, 0, 0, 0, 0, 0, 0, 0, 0, 0, 0, 0, 0, 0, 0, 0, 0, 0, 0, 0, 0, 0, 0, 0, 0, 0, 0, 0, 0, 0, 0, 0, 0, 0, 0, 0, 0, 0, 0, 0, 0, 0, 0, 0, 0, 0, 0, 0, 0, 0, 0, 0, 0, 0, 0, 0, 0, 0, 0, 0, 0, 0, 0, 0, 0, 0, 0, 0, 0, 0, 0, 0, 0, 0, 0, 0, 0, 0, 0, 0, 0, 0, 0, 0, 0, 0, 0, 0, 0, 0, 0, 0, 0, 0, 0, 0, 0, 0, 0, 0, 0, 0, 0, 0, 0, 0, 0, 0, 0, 0, 0, 0, 0, 0, 0, 0, 0, 0, 0, 0, 0, 0, 0, 0, 0, 0, 0, 0, 0, 0, 0, 0, 0, 0, 0, 0, 0, 0, 0, 0, 0, 0, 0, 0, 0, 0, 0, 0, 0, 0, 0, 0, 0, 0, 0, 0, 0, 0, 0, 0, 0, 0, 4, 0, 0, 0, 0, 0, 0, 0] := by kernel_rfl
noncomputable def F66_0 : Field := (fieldOf Try.prog 66 0).getD default
@[simp] theorem fo66_0 : fieldOf Try.prog 66 0 = some F66_0 := by kernel_rfl
@[simp] theorem ft66_0 : F66_0.type = 53 := by kernel_rfl
@[simp] theorem fx66_0 : F66_0.offset = 0 := by kernel_rfl
noncomputable def F66_1 : Field := (fieldOf Try.prog 66 1).getD default
@[simp] theorem fo66_1 : fieldOf Try.prog 66 1 = some F66_1 := by kernel_rfl
@[simp] theorem ft66_1 : F66_1.type = 57 := by kernel_rfl
@[simp] theorem fx66_1 : F66_1.offset = 110 := by kernel_rfl
noncomputable def F66_2 : Field := (fieldOf Try.prog 66 2).getD default
@[simp] theorem fo66_2 : fieldOf Try.prog 66 2 = some F66_2 := by kernel_rfl
@[simp] theorem ft66_2 : F66_2.type = 60 := by kernel_rfl
@[simp] theorem fx66_2 : F66_2.offset = 342 := by kernel_rfl
noncomputable def F66_3 : Field := (fieldOf Try.prog 66 3).getD default
@[simp] theorem fo66_3 : fieldOf Try.prog 66 3 = some F66_3 := by kernel_rfl
@[simp] theorem ft66_3 : F66_3.type = 63 := by kernel_rfl
@[simp] theorem fx66_3 : F66_3.offset = 486 := by kernel_rfl
noncomputable def F66_4 : Field := (fieldOf Try.prog 66 4).getD default
@[simp] theorem fo66_4 : fieldOf Try.prog 66 4 = some F66_4 := by kernel_rfl
@[simp] theorem ft66_4 : F66_4.type = 64 := by kernel_rfl
@[simp] theorem fx66_4 : F66_4.offset = 510 := by kernel_rfl
noncomputable def F66_5 : Field := (fieldOf Try.prog 66 5).getD default
@[simp] theorem fo66_5 : fieldOf Try.prog 66 5 = some F66_5 := by kernel_rfl
@[simp] theorem ft66_5 : F66_5.type = 24 := by kernel_rfl
@[simp] theorem fx66_5 : F66_5.offset = 511 := by kernel_rfl
noncomputable def F66_6 : Field := (fieldOf Try.prog 66 6).getD default
@[simp] theorem fo66_6 : fieldOf Try.prog 66 6 = some F66_6 := by kernel_rfl
@[simp] theorem ft66_6 : F66_6.type = 24 := by kernel_rfl
@[simp] theorem fx66_6 : F66_6.offset = 513 := by kernel_rfl
noncomputable def F66_7 : Field := (fieldOf Try.prog 66 7).getD default
@[simp] theorem fo66_7 : fieldOf Try.prog 66 7 = some F66_7 := by kernel_rfl
@[simp] theorem ft66_7 : F66_7.type = 3 := by kernel_rfl
@[simp] theorem fx66_7 : F66_7.offset = 515 := by kernel_rfl
noncomputable def F66_8 : Field := (fieldOf Try.prog 66 8).getD default
@[simp] theorem fo66_8 : fieldOf Try.prog 66 8 = some F66_8 := by kernel_rfl
@[simp] theorem ft66_8 : F66_8.type = 3 := by kernel_rfl
@[simp] theorem fx66_8 : F66_8.offset = 516 := by kernel_rfl
noncomputable def F66_9 : Field := (fieldOf Try.prog 66 9).getD default
@[simp] theorem fo66_9 : fieldOf Try.prog 66 9 = some F66_9 := by kernel_rfl
@[simp] theorem ft66_9 : F66_9.type = 4 := by kernel_rfl
@[simp] theorem fx66_9 : F66_9.offset = 517 := by kernel_rfl
@[simp] theorem inf67 : Try.prog.info? 67 = some Try.t67 := by kernel_rfl
@[simp] theorem tsz67 : Try.t67.size = 1 := by kernel_rfl
@[simp] theorem tby67 : Try.t67.bytes = 8 := by kernel_rfl
@[simp] theorem agg67 : aggT Try.prog 67 = some false := by kernel_rfl
@[simp] theorem slot67 : slotSize Try.prog 67 = 0 := by kernel_rfl
attribute [simp] Try.underlying67
@[simp] theorem zero67 : zeroV Try.prog 67 = some (.nilx 1) := by kernel_rfl
@[simp] theorem inf68 : Try.prog.info? 68 = some Try.t68 := by kernel_rfl
@[simp] theorem tsz68 : Try.t68.size = 1 := by kernel_rfl
@[simp] theorem tby68 : Try.t68.bytes = 8 := by kernel_rfl
@[simp] theorem agg68 : aggT Try.prog 68 = some false := by kernel_rfl
@[simp] theorem slot68 : slotSize Try.prog 68 = 0 := by kernel_rfl
attribute [simp] Try.underlying68
@[simp] theorem zero68 : zeroV Try.prog 68 = some (.nilx 1) := by kernel_rfl
@[simp] theorem inf69 : Try.prog.info? 69 = some Try.t69 := by kernel_rfl
@[simp] theorem tsz69 : Try.t69.size = 1 := by kernel_rfl
@[simp] theorem tby69 : Try.t69.bytes = 8 := by kernel_rfl
@[simp] theorem agg69 : aggT Try.prog 69 = some false := by kernel_rfl
@[simp] theorem slot69 : slotSize Try.prog 69 = 0 := by kernel_rfl
attribute [simp] Try.underlying69
@[simp] theorem zero69 : zeroV Try.prog 69 = some (.nilx 1) := by kernel_rfl
@[simp] theorem inf70 : Try.prog.info? 70 = some Try.t70 := by kernel_rfl
@[simp] theorem tsz70 : Try.t70.size = 1 := by kernel_rfl
@[simp] theorem tby70 : Try.t70.bytes = 8 := by kernel_rfl
@[simp] theorem agg70 : aggT Try.prog 70 = some false := by kernel_rfl
@[simp] theorem slot70 : slotSize Try.prog 70 = 0 := by kernel_rfl
attribute [simp] Try.underlying70
@[simp] theorem zero70 : zeroV Try.prog 70 = some (.nilx 1) := by kernel_rfl
@[simp] theorem inf71 : Try.prog.info? 71 = some Try.t71 := by kernel_rfl
@[simp] theorem tsz71 : Try.t71.size = 1 := by kernel_rfl
@[simp] theorem tby71 : Try.t71.bytes = 8 := by kernel_rfl
@[simp] theorem agg71 : aggT Try.prog 71 = some false := by kernel_rfl
@[simp] theorem slot71 : slotSize Try.prog 71 = 0 := by kernel_rfl
attribute [simp] Try.underlying71
@[simp] theorem zero71 : zeroV Try.prog 71 = some (.nilx 1) := by kernel_rfl
@[simp] theorem inf72 : Try.prog.info? 72 = some Try.t72 := by kernel_rfl
@[simp] theorem tsz72 : Try.t72.size = 1 := by kernel_rfl
@[simp] theorem tby72 : Try.t72.bytes = 8 := by kernel_rfl
@[simp] theorem agg72 : aggT Try.prog 72 = some false := by kernel_rfl
@[simp] theorem slot72 : slotSize Try.prog 72 = 0 := by kernel_rfl
attribute [simp] Try.underlying72
@[simp] theorem zero72 : zeroV Try.prog 72 = some (.int .i64 0) := by kernel_rfl
@[simp] theorem inf74 : Try.prog.info? 74 = some Try.t74 := by kernel_rfl
@[simp] theorem tsz74 : Try.t74.size = 1 := by kernel_rfl
@[simp] theorem tby74 : Try.t74.bytes = 8 := by kernel_rfl
@[simp] theorem agg74 : aggT Try.prog 74 = some false := by kernel_rfl
@[simp] theorem slot74 : slotSize Try.prog 74 = 0 := by kernel_rfl
attribute [simp] Try.underlying74
@[simp] theorem zero74 : zeroV Try.prog 74 = some (.nilx 1) := by kernel_rfl
@[simp] theorem inf75 : Try.prog.info? 75 = some Try.t75 := by kernel_rfl
@[simp] theorem tsz75 : Try.t75.size = 1 := by kernel_rfl
@[simp] theorem tby75 : Try.t75.bytes = 8 := by kernel_rfl
@[simp] theorem agg75 : aggT Try.prog 75 = some false := by kernel_rfl
@[simp] theorem slot75 : slotSize Try.prog 75 = 0 := by kernel_rfl
attribute [simp] Try.underlying75
@[simp] theorem zero75 : zeroV Try.prog 75 = some (.nilx 1) := by kernel_rfl
@[simp] theorem inf76 : Try.prog.info? 76 = some Try.t76 := by kernel_rfl
@[simp] theorem tsz76 : Try.t76.size = 1 := by kernel_rfl
@[simp] theorem tby76 : Try.t76.bytes = 8 := by kernel_rfl
@[simp] theorem agg76 : aggT Try.prog 76 = some false := by kernel_rfl
@[simp] theorem slot76 : slotSize Try.prog 76 = 0 := by kernel_rfl
attribute [simp] Try.underlying76
@[simp] theorem zero76 : zeroV Try.prog 76 = some (.nilx 1) := by kernel_rfl
@[simp] theorem inf77 : Try.prog.info? 77 = some Try.t77 := by kernel_rfl
@[simp] theorem tsz77 : Try.t77.size = 1 := by kernel_rfl
@[simp] theorem tby77 : Try.t77.bytes = 8 := by kernel_rfl
@[simp] theorem agg77 : aggT Try.prog 77 = some false := by kernel_rfl
@[simp] theorem slot77 : slotSize Try.prog 77 = 0 := by kernel_rfl
attribute [simp] Try.underlying77
@[simp] theorem zero77 : zeroV Try.prog 77 = some (.nilx 1) := by kernel_rfl
@[simp] theorem inf78 : Try.prog.info? 78 = some Try.t78 := by kernel_rfl
@[simp] theorem tsz78 : Try.t78.size = 1 := by kernel_rfl
@[simp] theorem tby78 : Try.t78.bytes = 8 := by kernel_rfl
@[simp] theorem agg78 : aggT Try.prog 78 = some false := by kernel_rfl
@[simp] theorem slot78 : slotSize Try.prog 78 = 0 := by kernel_rfl
attribute [simp] Try.underlying78
@[simp] theorem zero78 : zeroV Try.prog 78 = some (.nilx 1) := by kernel_rfl
@[simp] theorem inf79 : Try.prog.info? 79 = some Try.t79 := by kernel_rfl
@[simp] theorem tsz79 : Try.t79.size = 1 := by kernel_rfl
@[simp] theorem tby79 : Try.t79.bytes = 8 := by kernel_rfl
@[simp] theorem agg79 : aggT Try.prog 79 = some false := by kernel_rfl
@[simp] theorem slot79 : slotSize Try.prog 79 = 0 := by kernel_rfl
attribute [simp] Try.underlying79
@[simp] theorem zero79 : zeroV Try.prog 79 = some (.nilx 1) := by kernel_rfl
@[simp] theorem inf80 : Try.prog.info? 80 = some Try.t80 := by kernel_rfl
@[simp] theorem tsz80 : Try.t80.size = 1 := by kernel_rfl
@[simp] theorem tby80 : Try.t80.bytes = 8 := by kernel_rfl
@[simp] theorem agg80 : aggT Try.prog 80 = some false := by kernel_rfl
@[simp] theorem slot80 : slotSize Try.prog 80 = 0 := by kernel_rfl
attribute [simp] Try.underlying80
@[simp] theorem zero80 : zeroV Try.prog 80 = some (.nilx 1) := by kernel_rfl
@[simp] theorem inf81 : Try.prog.info? 81 = some Try.t81 := by kernel_rfl
@[simp] theorem tsz81 : Try.t81.size = 1 := by kernel_rfl
@[simp] theorem tby81 : Try.t81.bytes = 8 := by kernel_rfl
@[simp] theorem agg81 : aggT Try.prog 81 = some false := by kernel_rfl
@[simp] theorem slot81 : slotSize Try.prog 81 = 0 := by kernel_rfl
attribute [simp] Try.underlying81
@[simp] theorem zero81 : zeroV Try.prog 81 = some (.nilx 1) := by kernel_rfl
@[simp] theorem inf82 : Try.prog.info? 82 = some Try.t82 := by kernel_rfl
@[simp] theorem tsz82 : Try.t82.size = 1 := by kernel_rfl
@[simp] theorem tby82 : Try.t82.bytes = 8 := by kernel_rfl
@[simp] theorem agg82 : aggT Try.prog 82 = some false := by kernel_rfl
@[simp] theorem slot82 : slotSize Try.prog 82 = 0 := by kernel_rfl
attribute [simp] Try.underlying82
@[simp] theorem zero82 : zeroV Try.prog 82 = some (.nilx 1) := by kernel_rfl
@[simp] theorem inf83 : Try.prog.info? 83 = some Try.t83 := by kernel_rfl
@[simp] theorem tsz83 : Try.t83.size = 1 := by kernel_rfl
@[simp] theorem tby83 : Try.t83.bytes = 8 := by kernel_rfl
@[simp] theorem agg83 : aggT Try.prog 83 = some false := by kernel_rfl
@[simp] theorem slot83 : slotSize Try.prog 83 = 0 := by kernel_rfl
attribute [simp] Try.underlying83
@[simp] theorem zero83 : zeroV Try.prog 83 = some (.nilx 1) := by kernel_rfl
@[simp] theorem inf84 : Try.prog.info? 84 = some Try.t84 := by kernel_rfl
@[simp] theorem tsz84 : Try.t84.size = 1 := by kernel_rfl
@[simp] theorem tby84 : Try.t84.bytes = 8 := by kernel_rfl
@[simp] theorem agg84 : aggT Try.prog 84 = some false := by kernel_rfl
@[simp] theorem slot84 : slotSize Try.prog 84 = 0 := by kernel_rfl
attribute [simp] Try.underlying84
@[simp] theorem zero84 : zeroV Try.prog 84 = some (.nilx 1) := by kernel_rfl
@[simp] theorem inf86 : Try.prog.info? 86 = some Try.t86 := by kernel_rfl
@[simp] theorem tsz86 : Try.t86.size = 1 := by kernel_rfl
@[simp] theorem tby86 : Try.t86.bytes = 8 := by kernel_rfl
@[simp] theorem agg86 : aggT Try.prog 86 = some false := by kernel_rfl
@[simp] theorem slot86 : slotSize Try.prog 86 = 0 := by kernel_rfl
attribute [simp] Try.underlying86
@[simp] theorem zero86 : zeroV Try.prog 86 = some (.nilx 1) := by kernel_rfl
@[simp] theorem inf87 : Try.prog.info? 87 = some Try.t87 := by kernel_rfl
@[simp] theorem tsz87 : Try.t87.size = 1 := by kernel_rfl
@[simp] theorem tby87 : Try.t87.bytes = 8 := by kernel_rfl
@[simp] theorem agg87 : aggT Try.prog 87 = some false := by kernel_rfl
@[simp] theorem slot87 : slotSize Try.prog 87 = 0 := by kernel_rfl
attribute [simp] Try.underlying87
@[simp] theorem zero87 : zeroV Try.prog 87 = some (.nilx 1) := by kernel_rfl
@[simp] theorem inf88 : Try.prog.info? 88 = some Try.t88 := by kernel_rfl
@[simp] theorem tsz88 : Try.t88.size = 1 := by kernel_rfl
@[simp] theorem tby88 : Try.t88.bytes = 8 := by kernel_rfl
@[simp] theorem agg88 : aggT Try.prog 88 = some false := by kernel_rfl
@[simp] theorem slot88 : slotSize Try.prog 88 = 0 := by kernel_rfl
attribute [simp] Try.underlying88
@[simp] theorem zero88 : zeroV Try.prog 88 = some (.nilx 1) := by kernel_rfl
@[simp] theorem inf89 : Try.prog.info? 89 = some Try.t89 := by kernel_rfl
@[simp] theorem tsz89 : Try.t89.size = 1 := by kernel_rfl
@[simp] theorem tby89 : Try.t89.bytes = 8 := by kernel_rfl
@[simp] theorem agg89 : aggT Try.prog 89 = some false := by kernel_rfl
@[simp] theorem slot89 : slotSize Try.prog 89 = 0 := by kernel_rfl
attribute [simp] Try.underlying89
@[simp] theorem zero89 : zeroV Try.prog 89 = some (.nilx 1) := by kernel_rfl
@[simp] theorem inf90 : Try.prog.info? 90 = some Try.t90 := by kernel_rfl
@[simp] theorem tsz90 : Try.t90.size = 1 := by kernel_rfl
@[simp] theorem tby90 : Try.t90.bytes = 8 := by kernel_rfl
@[simp] theorem agg90 : aggT Try.prog 90 = some false := by kernel_rfl
@[simp] theorem slot90 : slotSize Try.prog 90 = 0 := by kernel_rfl
attribute [simp] Try.underlying90
@[simp] theorem zero90 : zeroV Try.prog 90 = some (.nilx 0) := by kernel_rfl
@[simp] theorem inf91 : Try.prog.info? 91 = some Try.t91 := by kernel_rfl
@[simp] theorem tsz91 : Try.t91.size = 1 := by kernel_rfl
@[simp] theorem tby91 : Try.t91.bytes = 8 := by kernel_rfl
@[simp] theorem agg91 : aggT Try.prog 91 = some false := by kernel_rfl
@[simp] theorem slot91 : slotSize Try.prog 91 = 0 := by kernel_rfl
attribute [simp] Try.underlying91
@[simp] theorem zero91 : zeroV Try.prog 91 = some (.nilx 1) := by kernel_rfl
@[simp] theorem inf92 : Try.prog.info? 92 = some Try.t92 := by kernel_rfl
@[simp] theorem tsz92 : Try.t92.size = 1 := by kernel_rfl
@[simp] theorem tby92 : Try.t92.bytes = 24 := by kernel_rfl
@[simp] theorem agg92 : aggT Try.prog 92 = some false := by kernel_rfl
@[simp] theorem slot92 : slotSize Try.prog 92 = 2 := by kernel_rfl
attribute [simp] Try.underlying92
@[simp] theorem zero92 : zeroV Try.prog 92 = some .nils := by kernel_rfl
@[simp] theorem elem92 : elemT Try.prog 92 = some Try.t94 := by kernel_rfl
@[simp] theorem inf93 : Try.prog.info? 93 = some Try.t93 := by kernel_rfl
@[simp] theorem tsz93 : Try.t93.size = 2 := by kernel_rfl
@[simp] theorem tby93 : Try.t93.bytes = 24 := by kernel_rfl
@[simp] theorem agg93 : aggT Try.prog 93 = some true := by kernel_rfl
@[simp] theorem slot93 : slotSize Try.prog 93 = 0 := by kernel_rfl
attribute [simp] Try.underlying93
@[simp] theorem zero93 : zeroV Try.prog 93 = some (.agg [(.int .i64 0), (.str [])]) := by kernel_rfl
@[simp] theorem slots93 : slotSizes Try.prog 93 = [0, 0] := by kernel_rfl
noncomputable def F93_0 : Field := (fieldOf Try.prog 93 0).getD default
@[simp] theorem fo93_0 : fieldOf Try.prog 93 0 = some F93_0 := by kernel_rfl
@[simp] theorem ft93_0 : F93_0.type = 3 := by kernel_rfl
@[simp] theorem fx93_0 : F93_0.offset = 0 := by kernel_rfl
noncomputable def F93_1 : Field := (fieldOf Try.prog 93 1).getD default
@[simp] theorem fo93_1 : fieldOf Try.prog 93 1 = some F93_1 := by kernel_rfl
@[simp] theorem ft93_1 : F93_1.type = 9 := by kernel_rfl
@[simp] theorem fx93_1 : F93_1.offset = 1 := by kernel_rfl
@[simp] theorem inf94 : Try.prog.info? 94 = some Try.t94 := by kernel_rfl
@[simp] theorem tsz94 : Try.t94.size = 2 := by kernel_rfl
@[simp] theorem tby94 : Try.t94.bytes = 24 := by kernel_rfl
@[simp] theorem agg94 : aggT Try.prog 94 = some true := by kernel_rfl
@[simp] theorem slot94 : slotSize Try.prog 94 = 0 := by kernel_rfl
attribute [simp] Try.underlying94
@[simp] theorem zero94 : zeroV Try.prog 94 = some (.agg [(.int .i64 0), (.str [])]) := by kernel_rfl
@[simp] theorem slots94 : slotSizes Try.prog 94 = [0, 0] := by kernel_rfl
noncomputable def F94_0 : Field := (fieldOf Try.prog 94 0).getD default
@[simp] theorem fo94_0 : fieldOf Try.prog 94 0 = some F94_0 := by kernel_rfl
@[simp] theorem ft94_0 : F94_0.type = 3 := by kernel_rfl
@[simp] theorem fx94_0 : F94_0.offset = 0 := by kernel_rfl
noncomputable def F94_1 : Field := (fieldOf Try.prog 94 1).getD default
@[simp] theorem fo94_1 : fieldOf Try.prog 94 1 = some F94_1 := by kernel_rfl
@[simp] theorem ft94_1 : F94_1.type = 9 := by kernel_rfl
@[simp] theorem fx94_1 : F94_1.offset = 1 := by kernel_rfl
@[simp] theorem inf96 : Try.prog.info? 96 = some Try.t96 := by kernel_rfl
@[simp] theorem tsz96 : Try.t96.size = 1 := by kernel_rfl
@[simp] theorem tby96 : Try.t96.bytes = 8 := by kernel_rfl
@[simp] theorem agg96 : aggT Try.prog 96 = some false := by kernel_rfl
@[simp] theorem slot96 : slotSize Try.prog 96 = 0 := by kernel_rfl
attribute [simp] Try.underlying96
@[simp] theorem zero96 : zeroV Try.prog 96 = some (.nilx 1) := by kernel_rfl
@[simp] theorem inf97 : Try.prog.info? 97 = some Try.t97 := by kernel_rfl
@[simp] theorem tsz97 : Try.t97.size = 1 := by kernel_rfl
@[simp] theorem tby97 : Try.t97.bytes = 8 := by kernel_rfl
@[simp] theorem agg97 : aggT Try.prog 97 = some false := by kernel_rfl
@[simp] theorem slot97 : slotSize Try.prog 97 = 0 := by kernel_rfl
attribute [simp] Try.underlying97
@[simp] theorem zero97 : zeroV Try.prog 97 = some (.nilx 0) := by kernel_rfl
@[simp] theorem inf98 : Try.prog.info? 98 = some Try.t98 := by kernel_rfl
@[simp] theorem tsz98 : Try.t98.size = 1 := by kernel_rfl
@[simp] theorem tby98 : Try.t98.bytes = 24 := by kernel_rfl
@[simp] theorem agg98 : aggT Try.prog 98 = some false := by kernel_rfl
@[simp] theorem slot98 : slotSize Try.prog 98 = 1 := by kernel_rfl
attribute [simp] Try.underlying98
@[simp] theorem zero98 : zeroV Try.prog 98 = some .nils := by kernel_rfl
@[simp] theorem elem98 : elemT Try.prog 98 = some Try.t5 := by kernel_rfl
@[simp] theorem inf99 : Try.prog.info? 99 = some Try.t99 := by kernel_rfl
@[simp] theorem tsz99 : Try.t99.size = 2 := by kernel_rfl
@[simp] theorem tby99 : Try.t99.bytes = 32 := by kernel_rfl
@[simp] theorem agg99 : aggT Try.prog 99 = some true := by kernel_rfl
@[simp] theorem slot99 : slotSize Try.prog 99 = 0 := by kernel_rfl
attribute [simp] Try.underlying99
@[simp] theorem zero99 : zeroV Try.prog 99 = some (.agg [(.nilx 0), .nils]) := by kernel_rfl
@[simp] theorem slots99 : slotSizes Try.prog 99 = [0, 1] := by kernel_rfl
noncomputable def F99_0 : Field := (fieldOf Try.prog 99 0).getD default
@[simp] theorem fo99_0 : fieldOf Try.prog 99 0 = some F99_0 := by kernel_rfl
@[simp] theorem ft99_0 : F99_0.type = 97 := by kernel_rfl
@[simp] theorem fx99_0 : F99_0.offset = 0 := by kernel_rfl
noncomputable def F99_1 : Field := (fieldOf Try.prog 99 1).getD default
@[simp] theorem fo99_1 : fieldOf Try.prog 99 1 = some F99_1 := by kernel_rfl
@[simp] theorem ft99_1 : F99_1.type = 98 := by kernel_rfl
@[simp] theorem fx99_1 : F99_1.offset = 1 := by kernel_rfl
@[simp] theorem inf100 : Try.prog.info? 100 = some Try.t100 := by kernel_rfl
@[simp] theorem tsz100 : Try.t100.size = 2 := by kernel_rfl
@[simp] theorem tby100 : Try.t100.bytes = 32 := by kernel_rfl
@[simp] theorem agg100 : aggT Try.prog 100 = some true := by kernel_rfl
@[simp] theorem slot100 : slotSize Try.prog 100 = 0 := by kernel_rfl
attribute [simp] Try.underlying100
@[simp] theorem zero100 : zeroV Try.prog 100 = some (.agg [(.nilx 0), .nils]) := by kernel_rfl
@[simp] theorem slots100 : slotSizes Try.prog 100 = [0, 1] := by kernel_rfl
noncomputable def F100_0 : Field := (fieldOf Try.prog 100 0).getD default
@[simp] theorem fo100_0 : fieldOf Try.prog 100 0 = some F100_0 := by kernel_rfl
@[simp] theorem ft100_0 : F100_0.type = 97 := by kernel_rfl
@[simp] theorem fx100_0 : F100_0.offset = 0 := by kernel_rfl
noncomputable def F100_1 : Field := (fieldOf Try.prog 100 1).getD default
@[simp] theorem fo100_1 : fieldOf Try.prog 100 1 = some F100_1 := by kernel_rfl
@[simp] theorem ft100_1 : F100_1.type = 98 := by kernel_rfl
@[simp] theorem fx100_1 : F100_1.offset = 1 := by kernel_rfl
@[simp] theorem inf104 : Try.prog.info? 104 = some Try.t104 := by kernel_rfl
@[simp] theorem tsz104 : Try.t104.size = 1 := by kernel_rfl
@[simp] theorem tby104 : Try.t104.bytes = 8 := by kernel_rfl
@[simp] theorem agg104 : aggT Try.prog 104 = some false := by kernel_rfl
@[simp] theorem slot104 : slotSize Try.prog 104 = 0 := by kernel_rfl
attribute [simp] Try.underlying104
@[simp] theorem zero104 : zeroV Try.prog 104 = some (.nilx 1) := by kernel_rfl
@[simp] theorem inf106 : Try.prog.info? 106 = some Try.t106 := by kernel_rfl
@[simp] theorem tsz106 : Try.t106.size = 1 := by kernel_rfl
@[simp] theorem tby106 : Try.t106.bytes = 8 := by kernel_rfl
@[simp] theorem agg106 : aggT Try.prog 106 = some false := by kernel_rfl
@[simp] theorem slot106 : slotSize Try.prog 106 = 0 := by kernel_rfl
attribute [simp] Try.underlying106
@[simp] theorem zero106 : zeroV Try.prog 106 = some (.nilx 1) := by kernel_rfl
@[simp] theorem inf107 : Try.prog.info? 107 = some Try.t107 := by kernel_rfl
@[simp] theorem tsz107 : Try.t107.size = 1 := by kernel_rfl
@[simp] theorem tby107 : Try.t107.bytes = 8 := by kernel_rfl
@[simp] theorem agg107 : aggT Try.prog 107 = some false := by kernel_rfl
@[simp] theorem slot107 : slotSize Try.prog 107 = 0 := by kernel_rfl
attribute [simp] Try.underlying107
@[simp] theorem zero107 : zeroV Try.prog 107 = some (.nilx 1) := by kernel_rfl
@[simp] theorem inf108 : Try.prog.info? 108 = some Try.t108 := by kernel_rfl
@[simp] theorem tsz108 : Try.t108.size = 1 := by kernel_rfl
@[simp] theorem tby108 : Try.t108.bytes = 8 := by kernel_rfl
@[simp] theorem agg108 : aggT Try.prog 108 = some false := by kernel_rfl
@[simp] theorem slot108 : slotSize Try.prog 108 = 0 := by kernel_rfl
attribute [simp] Try.underlying108
@[simp] theorem zero108 : zeroV Try.prog 108 = some (.nilx 1) := by kernel_rfl
@[simp] theorem inf109 : Try.prog.info? 109 = some Try.t109 := by kernel_rfl
@[simp] theorem tsz109 : Try.t109.size = 1 := by kernel_rfl
@[simp] theorem tby109 : Try.t109.bytes = 8 := by kernel_rfl
@[simp] theorem agg109 : aggT Try.prog 109 = some false := by kernel_rfl
@[simp] theorem slot109 : slotSize Try.prog 109 = 0 := by kernel_rfl
attribute [simp] Try.underlying109
@[simp] theorem zero109 : zeroV Try.prog 109 = some (.nilx 1) := by kernel_rfl
@[simp] theorem inf110 : Try.prog.info? 110 = some Try.t110 := by kernel_rfl
@[simp] theorem tsz110 : Try.t110.size = 1 := by kernel_rfl
@[simp] theorem tby110 : Try.t110.bytes = 8 := by kernel_rfl
@[simp] theorem agg110 : aggT Try.prog 110 = some false := by kernel_rfl
@[simp] theorem slot110 : slotSize Try.prog 110 = 0 := by kernel_rfl
attribute [simp] Try.underlying110
@[simp] theorem zero110 : zeroV Try.prog 110 = some (.nilx 1) := by kernel_rfl
@[simp] theorem inf111 : Try.prog.info? 111 = some Try.t111 := by kernel_rfl
@[simp] theorem tsz111 : Try.t111.size = 1 := by kernel_rfl
@[simp] theorem tby111 : Try.t111.bytes = 8 := by kernel_rfl
@[simp] theorem agg111 : aggT Try.prog 111 = some false := by kernel_rfl
@[simp] theorem slot111 : slotSize Try.prog 111 = 0 := by kernel_rfl
attribute [simp] Try.underlying111
@[simp] theorem zero111 : zeroV Try.prog 111 = some (.nilx 1) := by kernel_rfl
@[simp] theorem inf112 : Try.prog.info? 112 = some Try.t112 := by kernel_rfl
@[simp] theorem tsz112 : Try.t112.size = 1 := by kernel_rfl
@[simp] theorem tby112 : Try.t112.bytes = 8 := by kernel_rfl
@[simp] theorem agg112 : aggT Try.prog 112 = some false := by kernel_rfl
@[simp] theorem slot112 : slotSize Try.prog 112 = 0 := by kernel_rfl
attribute [simp] Try.underlying112
@[simp] theorem zero112 : zeroV Try.prog 112 = some (.nilx 1) := by kernel_rfl
@[simp] theorem inf113 : Try.prog.info? 113 = some Try.t113 := by kernel_rfl
@[simp] theorem tsz113 : Try.t113.size = 1 := by kernel_rfl
@[simp] theorem tby113 : Try.t113.bytes = 8 := by kernel_rfl
@[simp] theorem agg113 : aggT Try.prog 113 = some false := by kernel_rfl
@[simp] theorem slot113 : slotSize Try.prog 113 = 0 := by kernel_rfl
attribute [simp] Try.underlying113
@[simp] theorem zero113 : zeroV Try.prog 113 = some (.nilx 1) := by kernel_rfl
@[simp] theorem inf114 : Try.prog.info? 114 = some Try.t114 := by kernel_rfl
@[simp] theorem tsz114 : Try.t114.size = 1 := by kernel_rfl
@[simp] theorem tby114 : Try.t114.bytes = 8 := by kernel_rfl
@[simp] theorem agg114 : aggT Try.prog 114 = some false := by kernel_rfl
@[simp] theorem slot114 : slotSize Try.prog 114 = 0 := by kernel_rfl
attribute [simp] Try.underlying114
@[simp] theorem zero114 : zeroV Try.prog 114 = some (.int .u64 0) := by kernel_rfl
@[simp] theorem inf115 : Try.prog.info? 115 = some Try.t115 := by kernel_rfl
@[simp] theorem tsz115 : Try.t115.size = 1 := by kernel_rfl
@[simp] theorem tby115 : Try.t115.bytes = 8 := by kernel_rfl
@[simp] theorem agg115 : aggT Try.prog 115 = some false := by kernel_rfl
@[simp] theorem slot115 : slotSize Try.prog 115 = 0 := by kernel_rfl
attribute [simp] Try.underlying115
@[simp] theorem zero115 : zeroV Try.prog 115 = some (.nilx 1) := by kernel_rfl
@[simp] theorem inf116 : Try.prog.info? 116 = some Try.t116 := by kernel_rfl
@[simp] theorem tsz116 : Try.t116.size = 1 := by kernel_rfl
@[simp] theorem tby116 : Try.t116.bytes = 8 := by kernel_rfl
@[simp] theorem agg116 : aggT Try.prog 116 = some false := by kernel_rfl
@[simp] theorem slot116 : slotSize Try.prog 116 = 0 := by kernel_rfl
attribute [simp] Try.underlying116
@[simp] theorem zero116 : zeroV Try.prog 116 = some (.nilx 1) := by kernel_rfl
@[simp] theorem inf118 : Try.prog.info? 118 = some Try.t118 := by kernel_rfl
@[simp] theorem tsz118 : Try.t118.size = 1 := by kernel_rfl
@[simp] theorem tby118 : Try.t118.bytes = 8 := by kernel_rfl
@[simp] theorem agg118 : aggT Try.prog 118 = some false := by kernel_rfl
@[simp] theorem slot118 : slotSize Try.prog 118 = 0 := by kernel_rfl
attribute [simp] Try.underlying118
@[simp] theorem zero118 : zeroV Try.prog 118 = some (.nilx 1) := by kernel_rfl
@[simp] theorem inf119 : Try.prog.info? 119 = some Try.t119 := by kernel_rfl
@[simp] theorem tsz119 : Try.t119.size = 1 := by kernel_rfl
@[simp] theorem tby119 : Try.t119.bytes = 8 := by kernel_rfl
@[simp] theorem agg119 : aggT Try.prog 119 = some false := by kernel_rfl
@[simp] theorem slot119 : slotSize Try.prog 119 = 0 := by kernel_rfl
attribute [simp] Try.underlying119
@[simp] theorem zero119 : zeroV Try.prog 119 = some .nilm := by kernel_rfl
@[simp] theorem inf120 : Try.prog.info? 120 = some Try.t120 := by kernel_rfl
@[simp] theorem tsz120 : Try.t120.size = 1 := by kernel_rfl
@[simp] theorem tby120 : Try.t120.bytes = 8 := by kernel_rfl
@[simp] theorem agg120 : aggT Try.prog 120 = some false := by kernel_rfl
@[simp] theorem slot120 : slotSize Try.prog 120 = 0 := by kernel_rfl
attribute [simp] Try.underlying120
@[simp] theorem zero120 : zeroV Try.prog 120 = some (.nilx 1) := by kernel_rfl
@[simp] theorem inf121 : Try.prog.info? 121 = some Try.t121 := by kernel_rfl
@[simp] theorem tsz121 : Try.t121.size = 1 := by kernel_rfl
@[simp] theorem tby121 : Try.t121.bytes = 8 := by kernel_rfl
@[simp] theorem agg121 : aggT Try.prog 121 = some false := by kernel_rfl
@[simp] theorem slot121 : slotSize Try.prog 121 = 0 := by kernel_rfl
attribute [simp] Try.underlying121
@[simp] theorem zero121 : zeroV Try.prog 121 = some (.nilx 1) := by kernel_rfl
@[simp] theorem inf122 : Try.prog.info? 122 = some Try.t122 := by kernel_rfl
@[simp] theorem tsz122 : Try.t122.size = 1 := by kernel_rfl
@[simp] theorem tby122 : Try.t122.bytes = 8 := by kernel_rfl
@[simp] theorem agg122 : aggT Try.prog 122 = some false := by kernel_rfl
@[simp] theorem slot122 : slotSize Try.prog 122 = 0 := by kernel_rfl
attribute [simp] Try.underlying122
@[simp] theorem zero122 : zeroV Try.prog 122 = some (.nilx 1) := by kernel_rfl
@[simp] theorem inf123 : Try.prog.info? 123 = some Try.t123 := by kernel_rfl
@[simp] theorem tsz123 : Try.t123.size = 1 := by kernel_rfl
@[simp] theorem tby123 : Try.t123.bytes = 8 := by kernel_rfl
@[simp] theorem agg123 : aggT Try.prog 123 = some false := by kernel_rfl
@[simp] theorem slot123 : slotSize Try.prog 123 = 0 := by kernel_rfl
attribute [simp] Try.underlying123
@[simp] theorem zero123 : zeroV Try.prog 123 = some (.nilx 1) := by kernel_rfl
@[simp] theorem inf124 : Try.prog.info? 124 = some Try.t124 := by kernel_rfl
@[simp] theorem tsz124 : Try.t124.size = 1 := by kernel_rfl
@[simp] theorem tby124 : Try.t124.bytes = 8 := by kernel_rfl
@[simp] theorem agg124 : aggT Try.prog 124 = some false := by kernel_rfl
@[simp] theorem slot124 : slotSize Try.prog 124 = 0 := by kernel_rfl
attribute [simp] Try.underlying124
@[simp] theorem zero124 : zeroV Try.prog 124 = some (.nilx 1) := by kernel_rfl
@[simp] theorem inf125 : Try.prog.info? 125 = some Try.t125 := by kernel_rfl
@[simp] theorem tsz125 : Try.t125.size = 1 := by kernel_rfl
@[simp] theorem tby125 : Try.t125.bytes = 8 := by kernel_rfl
@[simp] theorem agg125 : aggT Try.prog 125 = some false := by kernel_rfl
@[simp] theorem slot125 : slotSize Try.prog 125 = 0 := by kernel_rfl
attribute [simp] Try.underlying125
@[simp] theorem zero125 : zeroV Try.prog 125 = some (.nilx 0) := by kernel_rfl
@[simp] theorem inf126 : Try.prog.info? 126 = some Try.t126 := by kernel_rfl
@[simp] theorem tsz126 : Try.t126.size = 1 := by kernel_rfl
@[simp] theorem tby126 : Try.t126.bytes = 8 := by kernel_rfl
@[simp] theorem agg126 : aggT Try.prog 126 = some false := by kernel_rfl
@[simp] theorem slot126 : slotSize Try.prog 126 = 0 := by kernel_rfl
attribute [simp] Try.underlying126
@[simp] theorem zero126 : zeroV Try.prog 126 = some (.nilx 1) := by kernel_rfl
@[simp] theorem inf127 : Try.prog.info? 127 = some Try.t127 := by kernel_rfl
@[simp] theorem tsz127 : Try.t127.size = 1 := by kernel_rfl
@[simp] theorem tby127 : Try.t127.bytes = 8 := by kernel_rfl
@[simp] theorem agg127 : aggT Try.prog 127 = some false := by kernel_rfl
@[simp] theorem slot127 : slotSize Try.prog 127 = 0 := by kernel_rfl
attribute [simp] Try.underlying127
@[simp] theorem zero127 : zeroV Try.prog 127 = some (.nilx 1) := by kernel_rfl
@[simp] theorem inf128 : Try.prog.info? 128 = some Try.t128 := by kernel_rfl
@[simp] theorem tsz128 : Try.t128.size = 1 := by kernel_rfl
@[simp] theorem tby128 : Try.t128.bytes = 8 := by kernel_rfl
@[simp] theorem agg128 : aggT Try.prog 128 = some false := by kernel_rfl
@[simp] theorem slot128 : slotSize Try.prog 128 = 0 := by kernel_rfl
attribute [simp] Try.underlying128
@[simp] theorem zero128 : zeroV Try.prog 128 = some (.int .i64 0) := by kernel_rfl
@[simp] theorem inf130 : Try.prog.info? 130 = some Try.t130 := by kernel_rfl
@[simp] theorem tsz130 : Try.t130.size = 1 := by kernel_rfl
@[simp] theorem tby130 : Try.t130.bytes = 8 := by kernel_rfl
@[simp] theorem agg130 : aggT Try.prog 130 = some false := by kernel_rfl
@[simp] theorem slot130 : slotSize Try.prog 130 = 0 := by kernel_rfl
attribute [simp] Try.underlying130
@[simp] theorem zero130 : zeroV Try.prog 130 = some (.nilx 1) := by kernel_rfl
@[simp] theorem inf131 : Try.prog.info? 131 = some Try.t131 := by kernel_rfl
@[simp] theorem tsz131 : Try.t131.size = 1 := by kernel_rfl
@[simp] theorem tby131 : Try.t131.bytes = 8 := by kernel_rfl
@[simp] theorem agg131 : aggT Try.prog 131 = some false := by kernel_rfl
@[simp] theorem slot131 : slotSize Try.prog 131 = 0 := by kernel_rfl
attribute [simp] Try.underlying131
@[simp] theorem zero131 : zeroV Try.prog 131 = some (.nilx 1) := by kernel_rfl
@[simp] theorem inf132 : Try.prog.info? 132 = some Try.t132 := by kernel_rfl
@[simp] theorem tsz132 : Try.t132.size = 1 := by kernel_rfl
@[simp] theorem tby132 : Try.t132.bytes = 8 := by kernel_rfl
@[simp] theorem agg132 : aggT Try.prog 132 = some false := by kernel_rfl
@[simp] theorem slot132 : slotSize Try.prog 132 = 0 := by kernel_rfl
attribute [simp] Try.underlying132
@[simp] theorem zero132 : zeroV Try.prog 132 = some (.nilx 1) := by kernel_rfl
@[simp] theorem inf133 : Try.prog.info? 133 = some Try.t133 := by kernel_rfl
@[simp] theorem tsz133 : Try.t133.size = 1 := by kernel_rfl
@[simp] theorem tby133 : Try.t133.bytes = 8 := by kernel_rfl
@[simp] theorem agg133 : aggT Try.prog 133 = some false := by kernel_rfl
@[simp] theorem slot133 : slotSize Try.prog 133 = 0 := by kernel_rfl
attribute [simp] Try.underlying133
@[simp] theorem zero133 : zeroV Try.prog 133 = some (.nilx 1) := by kernel_rfl
@[simp] theorem inf134 : Try.prog.info? 134 = some Try.t134 := by kernel_rfl
@[simp] theorem tsz134 : Try.t134.size = 1 := by kernel_rfl
@[simp] theorem tby134 : Try.t134.bytes = 8 := by kernel_rfl
@[simp] theorem agg134 : aggT Try.prog 134 = some false := by kernel_rfl
@[simp] theorem slot134 : slotSize Try.prog 134 = 0 := by kernel_rfl
attribute [simp] Try.underlying134
@[simp] theorem zero134 : zeroV Try.prog 134 = some (.nilx 1) := by kernel_rfl
@[simp] theorem inf135 : Try.prog.info? 135 = some Try.t135 := by kernel_rfl
@[simp] theorem tsz135 : Try.t135.size = 1 := by kernel_rfl
@[simp] theorem tby135 : Try.t135.bytes = 4 := by kernel_rfl
@[simp] theorem agg135 : aggT Try.prog 135 = some false := by kernel_rfl
@[simp] theorem slot135 : slotSize Try.prog 135 = 0 := by kernel_rfl
attribute [simp] Try.underlying135
@[simp] theorem zero135 : zeroV Try.prog 135 = some (.int .u32 0) := by kernel_rfl
@[simp] theorem inf136 : Try.prog.info? 136 = some Try.t136 := by kernel_rfl
@[simp] theorem tsz136 : Try.t136.size = 1 := by kernel_rfl
@[simp] theorem tby136 : Try.t136.bytes = 8 := by kernel_rfl
@[simp] theorem agg136 : aggT Try.prog 136 = some false := by kernel_rfl
@[simp] theorem slot136 : slotSize Try.prog 136 = 0 := by kernel_rfl
attribute [simp] Try.underlying136
@[simp] theorem zero136 : zeroV Try.prog 136 = some (.nilx 1) := by kernel_rfl
@[simp] theorem inf137 : Try.prog.info? 137 = some Try.t137 := by kernel_rfl
@[simp] theorem tsz137 : Try.t137.size = 1 := by kernel_rfl
@[simp] theorem tby137 : Try.t137.bytes = 8 := by kernel_rfl
@[simp] theorem agg137 : aggT Try.prog 137 = some false := by kernel_rfl
@[simp] theorem slot137 : slotSize Try.prog 137 = 0 := by kernel_rfl
attribute [simp] Try.underlying137
@[simp] theorem zero137 : zeroV Try.prog 137 = some (.int .u64 0) := by kernel_rfl
@[simp] theorem inf138 : Try.prog.info? 138 = some Try.t138 := by kernel_rfl
@[simp] theorem tsz138 : Try.t138.size = 1 := by kernel_rfl
@[simp] theorem tby138 : Try.t138.bytes = 8 := by kernel_rfl
@[simp] theorem agg138 : aggT Try.prog 138 = some false := by kernel_rfl
@[simp] theorem slot138 : slotSize Try.prog 138 = 0 := by kernel_rfl
attribute [simp] Try.underlying138
@[simp] theorem zero138 : zeroV Try.prog 138 = some (.nilx 1) := by kernel_rfl
@[simp] theorem inf139 : Try.prog.info? 139 = some Try.t139 := by kernel_rfl
@[simp] theorem tsz139 : Try.t139.size = 1 := by kernel_rfl
@[simp] theorem tby139 : Try.t139.bytes = 8 := by kernel_rfl
@[simp] theorem agg139 : aggT Try.prog 139 = some false := by kernel_rfl
@[simp] theorem slot139 : slotSize Try.prog 139 = 0 := by kernel_rfl
attribute [simp] Try.underlying139
@[simp] theorem zero139 : zeroV Try.prog 139 = some (.nilx 1) := by kernel_rfl
@[simp] theorem inf141 : Try.prog.info? 141 = some Try.t141 := by kernel_rfl
@[simp] theorem tsz141 : Try.t141.size = 1 := by kernel_rfl
@[simp] theorem tby141 : Try.t141.bytes = 8 := by kernel_rfl
@[simp] theorem agg141 : aggT Try.prog 141 = some false := by kernel_rfl
@[simp] theorem slot141 : slotSize Try.prog 141 = 0 := by kernel_rfl
attribute [simp] Try.underlying141
@[simp] theorem zero141 : zeroV Try.prog 141 = some (.nilx 1) := by kernel_rfl
@[simp] theorem inf142 : Try.prog.info? 142 = some Try.t142 := by kernel_rfl
@[simp] theorem tsz142 : Try.t142.size = 1 := by kernel_rfl
@[simp] theorem tby142 : Try.t142.bytes = 8 := by kernel_rfl
@[simp] theorem agg142 : aggT Try.prog 142 = some false := by kernel_rfl
@[simp] theorem slot142 : slotSize Try.prog 142 = 0 := by kernel_rfl
attribute [simp] Try.underlying142
@[simp] theorem zero142 : zeroV Try.prog 142 = some (.nilx 1) := by kernel_rfl
@[simp] theorem inf143 : Try.prog.info? 143 = some Try.t143 := by kernel_rfl
@[simp] theorem tsz143 : Try.t143.size = 1 := by kernel_rfl
@[simp] theorem tby143 : Try.t143.bytes = 8 := by kernel_rfl
@[simp] theorem agg143 : aggT Try.prog 143 = some false := by kernel_rfl
@[simp] theorem slot143 : slotSize Try.prog 143 = 0 := by kernel_rfl
attribute [simp] Try.underlying143
@[simp] theorem zero143 : zeroV Try.prog 143 = some (.nilx 1) := by kernel_rfl
@[simp] theorem inf144 : Try.prog.info? 144 = some Try.t144 := by kernel_rfl
@[simp] theorem tsz144 : Try.t144.size = 1 := by kernel_rfl
@[simp] theorem tby144 : Try.t144.bytes = 8 := by kernel_rfl
@[simp] theorem agg144 : aggT Try.prog 144 = some false := by kernel_rfl
@[simp] theorem slot144 : slotSize Try.prog 144 = 0 := by kernel_rfl
attribute [simp] Try.underlying144
@[simp] theorem zero144 : zeroV Try.prog 144 = some (.nilx 1) := by kernel_rfl
@[simp] theorem inf146 : Try.prog.info? 146 = some Try.t146 := by kernel_rfl
@[simp] theorem tsz146 : Try.t146.size = 1 := by kernel_rfl
@[simp] theorem tby146 : Try.t146.bytes = 8 := by kernel_rfl
@[simp] theorem agg146 : aggT Try.prog 146 = some false := by kernel_rfl
@[simp] theorem slot146 : slotSize Try.prog 146 = 0 := by kernel_rfl
attribute [simp] Try.underlying146
@[simp] theorem zero146 : zeroV Try.prog 146 = some (.nilx 1) := by kernel_rfl
@[simp] theorem inf147 : Try.prog.info? 147 = some Try.t147 := by kernel_rfl
@[simp] theorem tsz147 : Try.t147.size = 1 := by kernel_rfl
@[simp] theorem tby147 : Try.t147.bytes = 8 := by kernel_rfl
@[simp] theorem agg147 : aggT Try.prog 147 = some false := by kernel_rfl
@[simp] theorem slot147 : slotSize Try.prog 147 = 0 := by kernel_rfl
attribute [simp] Try.underlying147
@[simp] theorem zero147 : zeroV Try.prog 147 = some (.int .u64 0) := by kernel_rfl
@[simp] theorem inf148 : Try.prog.info? 148 = some Try.t148 := by kernel_rfl
@[simp] theorem tsz148 : Try.t148.size = 1 := by kernel_rfl
@[simp] theorem tby148 : Try.t148.bytes = 8 := by kernel_rfl
@[simp] theorem agg148 : aggT Try.prog 148 = some false := by kernel_rfl
@[simp] theorem slot148 : slotSize Try.prog 148 = 0 := by kernel_rfl
attribute [simp] Try.underlying148
@[simp] theorem zero148 : zeroV Try.prog 148 = some (.nilx 1) := by kernel_rfl
@[simp] theorem inf149 : Try.prog.info? 149 = some Try.t149 := by kernel_rfl
@[simp] theorem tsz149 : Try.t149.size = 1 := by kernel_rfl
@[simp] theorem tby149 : Try.t149.bytes = 8 := by kernel_rfl
@[simp] theorem agg149 : aggT Try.prog 149 = some false := by kernel_rfl
@[simp] theorem slot149 : slotSize Try.prog 149 = 0 := by kernel_rfl
attribute [simp] Try.underlying149
@[simp] theorem zero149 : zeroV Try.prog 149 = some (.nilx 1) := by kernel_rfl
@[simp] theorem inf150 : Try.prog.info? 150 = some Try.t150 := by kernel_rfl
@[simp] theorem tsz150 : Try.t150.size = 1 := by kernel_rfl
@[simp] theorem tby150 : Try.t150.bytes = 8 := by kernel_rfl
@[simp] theorem agg150 : aggT Try.prog 150 = some false := by kernel_rfl
@[simp] theorem slot150 : slotSize Try.prog 150 = 0 := by kernel_rfl
attribute [simp] Try.underlying150
@[simp] theorem zero150 : zeroV Try.prog 150 = some (.nilx 1) := by kernel_rfl
@[simp] theorem inf151 : Try.prog.info? 151 = some Try.t151 := by kernel_rfl
@[simp] theorem tsz151 : Try.t151.size = 1 := by kernel_rfl
@[simp] theorem tby151 : Try.t151.bytes = 8 := by kernel_rfl
@[simp] theorem agg151 : aggT Try.prog 151 = some false := by kernel_rfl
@[simp] theorem slot151 : slotSize Try.prog 151 = 0 := by kernel_rfl
attribute [simp] Try.underlying151
@[simp] theorem zero151 : zeroV Try.prog 151 = some (.nilx 0) := by kernel_rfl
@[simp] theorem inf152 : Try.prog.info? 152 = some Try.t152 := by kernel_rfl
@[simp] theorem tsz152 : Try.t152.size = 1 := by kernel_rfl
@[simp] theorem tby152 : Try.t152.bytes = 8 := by kernel_rfl
@[simp] theorem agg152 : aggT Try.prog 152 = some false := by kernel_rfl
@[simp] theorem slot152 : slotSize Try.prog 152 = 0 := by kernel_rfl
attribute [simp] Try.underlying152
@[simp] theorem zero152 : zeroV Try.prog 152 = some (.nilx 1) := by kernel_rfl
@[simp] theorem inf154 : Try.prog.info? 154 = some Try.t154 := by kernel_rfl
@[simp] theorem tsz154 : Try.t154.size = 1 := by kernel_rfl
@[simp] theorem tby154 : Try.t154.bytes = 8 := by kernel_rfl
@[simp] theorem agg154 : aggT Try.prog 154 = some false := by kernel_rfl
@[simp] theorem slot154 : slotSize Try.prog 154 = 0 := by kernel_rfl
attribute [simp] Try.underlying154
@[simp] theorem zero154 : zeroV Try.prog 154 = some (.nilx 1) := by kernel_rfl
@[simp] theorem inf156 : Try.prog.info? 156 = some Try.t156 := by kernel_rfl
@[simp] theorem tsz156 : Try.t156.size = 1 := by kernel_rfl
@[simp] theorem tby156 : Try.t156.bytes = 8 := by kernel_rfl
@[simp] theorem agg156 : aggT Try.prog 156 = some false := by kernel_rfl
@[simp] theorem slot156 : slotSize Try.prog 156 = 0 := by kernel_rfl
attribute [simp] Try.underlying156
@[simp] theorem zero156 : zeroV Try.prog 156 = some (.nilx 1) := by kernel_rfl
@[simp] theorem inf157 : Try.prog.info? 157 = some Try.t157 := by kernel_rfl
@[simp] theorem tsz157 : Try.t157.size = 1 := by kernel_rfl
@[simp] theorem tby157 : Try.t157.bytes = 8 := by kernel_rfl
@[simp] theorem agg157 : aggT Try.prog 157 = some false := by kernel_rfl
@[simp] theorem slot157 : slotSize Try.prog 157 = 0 := by kernel_rfl
attribute [simp] Try.underlying157
@[simp] theorem zero157 : zeroV Try.prog 157 = some (.nilx 0) := by kernel_rfl
@[simp] theorem inf159 : Try.prog.info? 159 = some Try.t159 := by kernel_rfl
@[simp] theorem tsz159 : Try.t159.size = 1 := by kernel_rfl
@[simp] theorem tby159 : Try.t159.bytes = 8 := by kernel_rfl
@[simp] theorem agg159 : aggT Try.prog 159 = some false := by kernel_rfl
@[simp] theorem slot159 : slotSize Try.prog 159 = 0 := by kernel_rfl
attribute [simp] Try.underlying159
@[simp] theorem zero159 : zeroV Try.prog 159 = some (.nilx 1) := by kernel_rfl
@[simp] theorem inf160 : Try.prog.info? 160 = some Try.t160 := by kernel_rfl
@[simp] theorem tsz160 : Try.t160.size = 1 := by kernel_rfl
@[simp] theorem tby160 : Try.t160.bytes = 8 := by kernel_rfl
@[simp] theorem agg160 : aggT Try.prog 160 = some false := by kernel_rfl
@[simp] theorem slot160 : slotSize Try.prog 160 = 0 := by kernel_rfl
attribute [simp] Try.underlying160
@[simp] theorem zero160 : zeroV Try.prog 160 = some (.nilx 1) := by kernel_rfl
@[simp] theorem inf161 : Try.prog.info? 161 = some Try.t161 := by kernel_rfl
@[simp] theorem tsz161 : Try.t161.size = 4 := by kernel_rfl
@[simp] theorem tby161 : Try.t161.bytes = 40 := by kernel_rfl
@[simp] theorem agg161 : aggT Try.prog 161 = some true := by kernel_rfl
@[simp] theorem slot161 : slotSize Try.prog 161 = 0 := by kernel_rfl
attribute [simp] Try.underlying161
@[simp] theorem zero161 : zeroV Try.prog 161 = some (.agg [(.nilx 0), (.nilx 0), (.nilx 0), (.str [])]) := by kernel_rfl
@[simp] theorem slots161 : slotSizes Try.prog 161 = [0, 0, 0, 0] := by kernel_rfl
noncomputable def F161_0 : Field := (fieldOf Try.prog 161 0).getD default
@[simp] theorem fo161_0 : fieldOf Try.prog 161 0 = some F161_0 := by kernel_rfl
@[simp] theorem ft161_0 : F161_0.type = 17 := by kernel_rfl
@[simp] theorem fx161_0 : F161_0.offset = 0 := by kernel_rfl
noncomputable def F161_1 : Field := (fieldOf Try.prog 161 1).getD default
@[simp] theorem fo161_1 : fieldOf Try.prog 161 1 = some F161_1 := by kernel_rfl
@[simp] theorem ft161_1 : F161_1.type = 17 := by kernel_rfl
@[simp] theorem fx161_1 : F161_1.offset = 1 := by kernel_rfl
noncomputable def F161_2 : Field := (fieldOf Try.prog 161 2).getD default
@[simp] theorem fo161_2 : fieldOf Try.prog 161 2 = some F161_2 := by kernel_rfl
@[simp] theorem ft161_2 : F161_2.type = 17 := by kernel_rfl
@[simp] theorem fx161_2 : F161_2.offset = 2 := by kernel_rfl
noncomputable def F161_3 : Field := (fieldOf Try.prog 161 3).getD default
@[simp] theorem fo161_3 : fieldOf Try.prog 161 3 = some F161_3 := by kernel_rfl
@[simp] theorem ft161_3 : F161_3.type = 9 := by kernel_rfl
@[simp] theorem fx161_3 : F161_3.offset = 3 := by kernel_rfl
@[simp] theorem inf162 : Try.prog.info? 162 = some Try.t162 := by kernel_rfl
@[simp] theorem tsz162 : Try.t162.size = 4 := by kernel_rfl
@[simp] theorem tby162 : Try.t162.bytes = 40 := by kernel_rfl
@[simp] theorem agg162 : aggT Try.prog 162 = some true := by kernel_rfl
@[simp] theorem slot162 : slotSize Try.prog 162 = 0 := by kernel_rfl
attribute [simp] Try.underlying162
@[simp] theorem zero162 : zeroV Try.prog 162 = some (.agg [(.nilx 0), (.nilx 0), (.nilx 0), (.str [])]) := by kernel_rfl
@[simp] theorem slots162 : slotSizes Try.prog 162 = [0, 0, 0, 0] := by kernel_rfl
noncomputable def F162_0 : Field := (fieldOf Try.prog 162 0).getD default
@[simp] theorem fo162_0 : fieldOf Try.prog 162 0 = some F162_0 := by kernel_rfl
@[simp] theorem ft162_0 : F162_0.type = 17 := by kernel_rfl
@[simp] theorem fx162_0 : F162_0.offset = 0 := by kernel_rfl
noncomputable def F162_1 : Field := (fieldOf Try.prog 162 1).getD default
@[simp] theorem fo162_1 : fieldOf Try.prog 162 1 = some F162_1 := by kernel_rfl
@[simp] theorem ft162_1 : F162_1.type = 17 := by kernel_rfl
@[simp] theorem fx162_1 : F162_1.offset = 1 := by kernel_rfl
noncomputable def F162_2 : Field := (fieldOf Try.prog 162 2).getD default
@[simp] theorem fo162_2 : fieldOf Try.prog 162 2 = some F162_2 := by kernel_rfl
@[simp] theorem ft162_2 : F162_2.type = 17 := by kernel_rfl
@[simp] theorem fx162_2 : F162_2.offset = 2 := by kernel_rfl
noncomputable def F162_3 : Field := (fieldOf Try.prog 162 3).getD default
@[simp] theorem fo162_3 : fieldOf Try.prog 162 3 = some F162_3 := by kernel_rfl
@[simp] theorem ft162_3 : F162_3.type = 9 := by kernel_rfl
@[simp] theorem fx162_3 : F162_3.offset = 3 := by kernel_rfl
@[simp] theorem inf163 : Try.prog.info? 163 = some Try.t163 := by kernel_rfl
@[simp] theorem tsz163 : Try.t163.size = 0 := by kernel_rfl
@[simp] theorem tby163 : Try.t163.bytes = 0 := by kernel_rfl
@[simp] theorem agg163 : aggT Try.prog 163 = some true := by kernel_rfl
@[simp] theorem slot163 : slotSize Try.prog 163 = 0 := by kernel_rfl
attribute [simp] Try.underlying163
@[simp] theorem zero163 : zeroV Try.prog 163 = some (.agg []) := by kernel_rfl
@[simp] theorem inf164 : Try.prog.info? 164 = some Try.t164 := by kernel_rfl
@[simp] theorem tsz164 : Try.t164.size = 0 := by kernel_rfl
@[simp] theorem tby164 : Try.t164.bytes = 0 := by kernel_rfl
@[simp] theorem agg164 : aggT Try.prog 164 = some true := by kernel_rfl
@[simp] theorem slot164 : slotSize Try.prog 164 = 0 := by kernel_rfl
attribute [simp] Try.underlying164
@[simp] theorem zero164 : zeroV Try.prog 164 = some (.agg []) := by kernel_rfl
@[simp] theorem slots164 : slotSizes Try.prog 164 = [] := by kernel_rfl
noncomputable def F164_0 : Field := (fieldOf Try.prog 164 0).getD default
@[simp] theorem fo164_0 : fieldOf Try.prog 164 0 = some F164_0 := by kernel_rfl
@[simp] theorem ft164_0 : F164_0.type = 163 := by kernel_rfl
@[simp] theorem fx164_0 : F164_0.offset = 0 := by kernel_rfl
@[simp] theorem inf165 : Try.prog.info? 165 = some Try.t165 := by kernel_rfl
@[simp] theorem tsz165 : Try.t165.size = 0 := by kernel_rfl
@[simp] theorem tby165 : Try.t165.bytes = 0 := by kernel_rfl
@[simp] theorem agg165 : aggT Try.prog 165 = some true := by kernel_rfl
@[simp] theorem slot165 : slotSize Try.prog 165 = 0 := by kernel_rfl
attribute [simp] Try.underlying165
@[simp] theorem zero165 : zeroV Try.prog 165 = some (.agg []) := by kernel_rfl
@[simp] theorem slots165 : slotSizes Try.prog 165 = [] := by kernel_rfl
noncomputable def F165_0 : Field := (fieldOf Try.prog 165 0).getD default
@[simp] theorem fo165_0 : fieldOf Try.prog 165 0 = some F165_0 := by kernel_rfl
@[simp] theorem ft165_0 : F165_0.type = 163 := by kernel_rfl
@[simp] theorem fx165_0 : F165_0.offset = 0 := by kernel_rfl
@[simp] theorem inf166 : Try.prog.info? 166 = some Try.t166 := by kernel_rfl
@[simp] theorem tsz166 : Try.t166.size = 1 := by kernel_rfl
@[simp] theorem tby166 : Try.t166.bytes = 1 := by kernel_rfl
@[simp] theorem agg166 : aggT Try.prog 166 = some false := by kernel_rfl
@[simp] theorem slot166 : slotSize Try.prog 166 = 0 := by kernel_rfl
attribute [simp] Try.underlying166
@[simp] theorem zero166 : zeroV Try.prog 166 = some (.int .u8 0) := by kernel_rfl
@[simp] theorem inf167 : Try.prog.info? 167 = some Try.t167 := by kernel_rfl
@[simp] theorem tsz167 : Try.t167.size = 1 := by kernel_rfl
@[simp] theorem tby167 : Try.t167.bytes = 1 := by kernel_rfl
@[simp] theorem agg167 : aggT Try.prog 167 = some false := by kernel_rfl
@[simp] theorem slot167 : slotSize Try.prog 167 = 0 := by kernel_rfl
attribute [simp] Try.underlying167
@[simp] theorem zero167 : zeroV Try.prog 167 = some (.int .u8 0) := by kernel_rfl
@[simp] theorem inf168 : Try.prog.info? 168 = some Try.t168 := by kernel_rfl
@[simp] theorem tsz168 : Try.t168.size = 1 := by kernel_rfl
@[simp] theorem tby168 : Try.t168.bytes = 8 := by kernel_rfl
@[simp] theorem agg168 : aggT Try.prog 168 = some false := by kernel_rfl
@[simp] theorem slot168 : slotSize Try.prog 168 = 0 := by kernel_rfl
attribute [simp] Try.underlying168
@[simp] theorem zero168 : zeroV Try.prog 168 = some (.nilx 1) := by kernel_rfl
@[simp] theorem inf169 : Try.prog.info? 169 = some Try.t169 := by kernel_rfl
@[simp] theorem tsz169 : Try.t169.size = 1 := by kernel_rfl
@[simp] theorem tby169 : Try.t169.bytes = 4 := by kernel_rfl
@[simp] theorem agg169 : aggT Try.prog 169 = some false := by kernel_rfl
@[simp] theorem slot169 : slotSize Try.prog 169 = 0 := by kernel_rfl
attribute [simp] Try.underlying169
@[simp] theorem zero169 : zeroV Try.prog 169 = some (.int .i32 0) := by kernel_rfl
@[simp] theorem inf170 : Try.prog.info? 170 = some Try.t170 := by kernel_rfl
@[simp] theorem tsz170 : Try.t170.size = 1 := by kernel_rfl
@[simp] theorem tby170 : Try.t170.bytes = 4 := by kernel_rfl
@[simp] theorem agg170 : aggT Try.prog 170 = some false := by kernel_rfl
@[simp] theorem slot170 : slotSize Try.prog 170 = 0 := by kernel_rfl
attribute [simp] Try.underlying170
@[simp] theorem zero170 : zeroV Try.prog 170 = some (.int .i32 0) := by kernel_rfl
@[simp] theorem inf171 : Try.prog.info? 171 = some Try.t171 := by kernel_rfl
@[simp] theorem tsz171 : Try.t171.size = 11 := by kernel_rfl
@[simp] theorem tby171 : Try.t171.bytes = 48 := by kernel_rfl
@[simp] theorem agg171 : aggT Try.prog 171 = some true := by kernel_rfl
@[simp] theorem slot171 : slotSize Try.prog 171 = 0 := by kernel_rfl
attribute [simp] Try.underlying171
@[simp] theorem zero171 : zeroV Try.prog 171 = some (.agg [(.int .u64 0), (.int .u64 0), (.int .u32 0), (.int .u8 0), (.int .u8 0), (.int .u8 0), (.int .u8 0), (.nilx 1), (.nilx 0), (.int .i32 0), (.int .i32 0)]) := by kernel_rfl
@[simp] theorem slots171 : slotSizes Try.prog 171 = [0, 0, 0, 0, 0, 0, 0, 0, 0, 0, 0] := by kernel_rfl
noncomputable def F171_0 : Field := (fieldOf Try.prog 171 0).getD default
@[simp] theorem fo171_0 : fieldOf Try.prog 171 0 = some F171_0 := by kernel_rfl
@[simp] theorem ft171_0 : F171_0.type = 12 := by kernel_rfl
@[simp] theorem fx171_0 : F171_0.offset = 0 := by kernel_rfl
noncomputable def F171_1 : Field := (fieldOf Try.prog 171 1).getD default
@[simp] theorem fo171_1 : fieldOf Try.prog 171 1 = some F171_1 := by kernel_rfl
@[simp] theorem ft171_1 : F171_1.type = 12 := by kernel_rfl
@[simp] theorem fx171_1 : F171_1.offset = 1 := by kernel_rfl
noncomputable def F171_2 : Field := (fieldOf Try.prog 171 2).getD default
@[simp] theorem fo171_2 : fieldOf Try.prog 171 2 = some F171_2 := by kernel_rfl
@[simp] theorem ft171_2 : F171_2.type = 135 := by kernel_rfl
@[simp] theorem fx171_2 : F171_2.offset = 2 := by kernel_rfl
noncomputable def F171_3 : Field := (fieldOf Try.prog 171 3).getD default
@[simp] theorem fo171_3 : fieldOf Try.prog 171 3 = some F171_3 := by kernel_rfl
@[simp] theorem ft171_3 : F171_3.type = 166 := by kernel_rfl
@[simp] theorem fx171_3 : F171_3.offset = 3 := by kernel_rfl
noncomputable def F171_4 : Field := (fieldOf Try.prog 171 4).getD default
@[simp] theorem fo171_4 : fieldOf Try.prog 171 4 = some F171_4 := by kernel_rfl
@[simp] theorem ft171_4 : F171_4.type = 5 := by kernel_rfl
@[simp] theorem fx171_4 : F171_4.offset = 4 := by kernel_rfl
noncomputable def F171_5 : Field := (fieldOf Try.prog 171 5).getD default
@[simp] theorem fo171_5 : fieldOf Try.prog 171 5 = some F171_5 := by kernel_rfl
@[simp] theorem ft171_5 : F171_5.type = 5 := by kernel_rfl
@[simp] theorem fx171_5 : F171_5.offset = 5 := by kernel_rfl
noncomputable def F171_6 : Field := (fieldOf Try.prog 171 6).getD default
@[simp] theorem fo171_6 : fieldOf Try.prog 171 6 = some F171_6 := by kernel_rfl
@[simp] theorem ft171_6 : F171_6.type = 167 := by kernel_rfl
@[simp] theorem fx171_6 : F171_6.offset = 6 := by kernel_rfl
noncomputable def F171_7 : Field := (fieldOf Try.prog 171 7).getD default
@[simp] theorem fo171_7 : fieldOf Try.prog 171 7 = some F171_7 := by kernel_rfl
@[simp] theorem ft171_7 : F171_7.type = 168 := by kernel_rfl
@[simp] theorem fx171_7 : F171_7.offset = 7 := by kernel_rfl
noncomputable def F171_8 : Field := (fieldOf Try.prog 171 8).getD default
@[simp] theorem fo171_8 : fieldOf Try.prog 171 8 = some F171_8 := by kernel_rfl
@[simp] theorem ft171_8 : F171_8.type = 125 := by kernel_rfl
@[simp] theorem fx171_8 : F171_8.offset = 8 := by kernel_rfl
noncomputable def F171_9 : Field := (fieldOf Try.prog 171 9).getD default
@[simp] theorem fo171_9 : fieldOf Try.prog 171 9 = some F171_9 := by kernel_rfl
@[simp] theorem ft171_9 : F171_9.type = 169 := by kernel_rfl
@[simp] theorem fx171_9 : F171_9.offset = 9 := by kernel_rfl
noncomputable def F171_10 : Field := (fieldOf Try.prog 171 10).getD default
@[simp] theorem fo171_10 : fieldOf Try.prog 171 10 = some F171_10 := by kernel_rfl
@[simp] theorem ft171_10 : F171_10.type = 170 := by kernel_rfl
@[simp] theorem fx171_10 : F171_10.offset = 10 := by kernel_rfl
@[simp] theorem inf172 : Try.prog.info? 172 = some Try.t172 := by kernel_rfl
@[simp] theorem tsz172 : Try.t172.size = 11 := by kernel_rfl
@[simp] theorem tby172 : Try.t172.bytes = 48 := by kernel_rfl
@[simp] theorem agg172 : aggT Try.prog 172 = some true := by kernel_rfl
@[simp] theorem slot172 : slotSize Try.prog 172 = 0 := by kernel_rfl
attribute [simp] Try.underlying172
@[simp] theorem zero172 : zeroV Try.prog 172 = some (.agg [(.int .u64 0), (.int .u64 0), (.int .u32 0), (.int .u8 0), (.int .u8 0), (.int .u8 0), (.int .u8 0), (.nilx 1), (.nilx 0), (.int .i32 0), (.int .i32 0)]) := by kernel_rfl
@[simp] theorem slots172 : slotSizes Try.prog 172 = [0, 0, 0, 0, 0, 0, 0, 0, 0, 0, 0] := by kernel_rfl
noncomputable def F172_0 : Field := (fieldOf Try.prog 172 0).getD default
@[simp] theorem fo172_0 : fieldOf Try.prog 172 0 = some F172_0 := by kernel_rfl
@[simp] theorem ft172_0 : F172_0.type = 12 := by kernel_rfl
@[simp] theorem fx172_0 : F172_0.offset = 0 := by kernel_rfl
noncomputable def F172_1 : Field := (fieldOf Try.prog 172 1).getD default
@[simp] theorem fo172_1 : fieldOf Try.prog 172 1 = some F172_1 := by kernel_rfl
@[simp] theorem ft172_1 : F172_1.type = 12 := by kernel_rfl
@[simp] theorem fx172_1 : F172_1.offset = 1 := by kernel_rfl
noncomputable def F172_2 : Field := (fieldOf Try.prog 172 2).getD default
@[simp] theorem fo172_2 : fieldOf Try.prog 172 2 = some F172_2 := by kernel_rfl
@[simp] theorem ft172_2 : F172_2.type = 135 := by kernel_rfl
@[simp] theorem fx172_2 : F172_2.offset = 2 := by kernel_rfl
noncomputable def F172_3 : Field := (fieldOf Try.prog 172 3).getD default
@[simp] theorem fo172_3 : fieldOf Try.prog 172 3 = some F172_3 := by kernel_rfl
@[simp] theorem ft172_3 : F172_3.type = 166 := by kernel_rfl
@[simp] theorem fx172_3 : F172_3.offset = 3 := by kernel_rfl
noncomputable def F172_4 : Field := (fieldOf Try.prog 172 4).getD default
@[simp] theorem fo172_4 : fieldOf Try.prog 172 4 = some F172_4 := by kernel_rfl
@[simp] theorem ft172_4 : F172_4.type = 5 := by kernel_rfl
@[simp] theorem fx172_4 : F172_4.offset = 4 := by kernel_rfl
noncomputable def F172_5 : Field := (fieldOf Try.prog 172 5).getD default
@[simp] theorem fo172_5 : fieldOf Try.prog 172 5 = some F172_5 := by kernel_rfl
@[simp] theorem ft172_5 : F172_5.type = 5 := by kernel_rfl
@[simp] theorem fx172_5 : F172_5.offset = 5 := by kernel_rfl
noncomputable def F172_6 : Field := (fieldOf Try.prog 172 6).getD default
@[simp] theorem fo172_6 : fieldOf Try.prog 172 6 = some F172_6 := by kernel_rfl
@[simp] theorem ft172_6 : F172_6.type = 167 := by kernel_rfl
@[simp] theorem fx172_6 : F172_6.offset = 6 := by kernel_rfl
noncomputable def F172_7 : Field := (fieldOf Try.prog 172 7).getD default
@[simp] theorem fo172_7 : fieldOf Try.prog 172 7 = some F172_7 := by kernel_rfl
@[simp] theorem ft172_7 : F172_7.type = 168 := by kernel_rfl
@[simp] theorem fx172_7 : F172_7.offset = 7 := by kernel_rfl
noncomputable def F172_8 : Field := (fieldOf Try.prog 172 8).getD default
@[simp] theorem fo172_8 : fieldOf Try.prog 172 8 = some F172_8 := by kernel_rfl
@[simp] theorem ft172_8 : F172_8.type = 125 := by kernel_rfl
@[simp] theorem fx172_8 : F172_8.offset = 8 := by kernel_rfl
noncomputable def F172_9 : Field := (fieldOf Try.prog 172 9).getD default
@[simp] theorem fo172_9 : fieldOf Try.prog 172 9 = some F172_9 := by kernel_rfl
@[simp] theorem ft172_9 : F172_9.type = 169 := by kernel_rfl
@[simp] theorem fx172_9 : F172_9.offset = 9 := by kernel_rfl
noncomputable def F172_10 : Field := (fieldOf Try.prog 172 10).getD default
@[simp] theorem fo172_10 : fieldOf Try.prog 172 10 = some F172_10 := by kernel_rfl
@[simp] theorem ft172_10 : F172_10.type = 170 := by kernel_rfl
@[simp] theorem fx172_10 : F172_10.offset = 10 := by kernel_rfl
@[simp] theorem inf173 : Try.prog.info? 173 = some Try.t173 := by kernel_rfl
@[simp] theorem tsz173 : Try.t173.size = 9 := by kernel_rfl
@[simp] theorem tby173 : Try.t173.bytes = 56 := by kernel_rfl
@[simp] theorem agg173 : aggT Try.prog 173 = some true := by kernel_rfl
@[simp] theorem slot173 : slotSize Try.prog 173 = 0 := by kernel_rfl
attribute [simp] Try.underlying173
@[simp] theorem zero173 : zeroV Try.prog 173 = some (.agg [(.bool false), (.bool false), (.bool false), (.int .i64 0), (.bool false), (.bool false), (.int .i64 0), (.int .i64 0), (.str [])]) := by kernel_rfl
@[simp] theorem slots173 : slotSizes Try.prog 173 = [0, 0, 0, 0, 0, 0, 0, 0, 0] := by kernel_rfl
noncomputable def F173_0 : Field := (fieldOf Try.prog 173 0).getD default
@[simp] theorem fo173_0 : fieldOf Try.prog 173 0 = some F173_0 := by kernel_rfl
@[simp] theorem ft173_0 : F173_0.type = 4 := by kernel_rfl
@[simp] theorem fx173_0 : F173_0.offset = 0 := by kernel_rfl
noncomputable def F173_1 : Field := (fieldOf Try.prog 173 1).getD default
@[simp] theorem fo173_1 : fieldOf Try.prog 173 1 = some F173_1 := by kernel_rfl
@[simp] theorem ft173_1 : F173_1.type = 4 := by kernel_rfl
@[simp] theorem fx173_1 : F173_1.offset = 1 := by kernel_rfl
noncomputable def F173_2 : Field := (fieldOf Try.prog 173 2).getD default
@[simp] theorem fo173_2 : fieldOf Try.prog 173 2 = some F173_2 := by kernel_rfl
@[simp] theorem ft173_2 : F173_2.type = 4 := by kernel_rfl
@[simp] theorem fx173_2 : F173_2.offset = 2 := by kernel_rfl
noncomputable def F173_3 : Field := (fieldOf Try.prog 173 3).getD default
@[simp] theorem fo173_3 : fieldOf Try.prog 173 3 = some F173_3 := by kernel_rfl
@[simp] theorem ft173_3 : F173_3.type = 3 := by kernel_rfl
@[simp] theorem fx173_3 : F173_3.offset = 3 := by kernel_rfl
noncomputable def F173_4 : Field := (fieldOf Try.prog 173 4).getD default
@[simp] theorem fo173_4 : fieldOf Try.prog 173 4 = some F173_4 := by kernel_rfl
@[simp] theorem ft173_4 : F173_4.type = 4 := by kernel_rfl
@[simp] theorem fx173_4 : F173_4.offset = 4 := by kernel_rfl
noncomputable def F173_5 : Field := (fieldOf Try.prog 173 5).getD default
@[simp] theorem fo173_5 : fieldOf Try.prog 173 5 = some F173_5 := by kernel_rfl
@[simp] theorem ft173_5 : F173_5.type = 4 := by kernel_rfl
@[simp] theorem fx173_5 : F173_5.offset = 5 := by kernel_rfl
noncomputable def F173_6 : Field := (fieldOf Try.prog 173 6).getD default
@[simp] theorem fo173_6 : fieldOf Try.prog 173 6 = some F173_6 := by kernel_rfl
@[simp] theorem ft173_6 : F173_6.type = 3 := by kernel_rfl
@[simp] theorem fx173_6 : F173_6.offset = 6 := by kernel_rfl
noncomputable def F173_7 : Field := (fieldOf Try.prog 173 7).getD default
@[simp] theorem fo173_7 : fieldOf Try.prog 173 7 = some F173_7 := by kernel_rfl
@[simp] theorem ft173_7 : F173_7.type = 3 := by kernel_rfl
@[simp] theorem fx173_7 : F173_7.offset = 7 := by kernel_rfl
noncomputable def F173_8 : Field := (fieldOf Try.prog 173 8).getD default
@[simp] theorem fo173_8 : fieldOf Try.prog 173 8 = some F173_8 := by kernel_rfl
@[simp] theorem ft173_8 : F173_8.type = 9 := by kernel_rfl
@[simp] theorem fx173_8 : F173_8.offset = 8 := by kernel_rfl
@[simp] theorem inf174 : Try.prog.info? 174 = some Try.t174 := by kernel_rfl
@[simp] theorem tsz174 : Try.t174.size = 9 := by kernel_rfl
@[simp] theorem tby174 : Try.t174.bytes = 56 := by kernel_rfl
@[simp] theorem agg174 : aggT Try.prog 174 = some true := by kernel_rfl
@[simp] theorem slot174 : slotSize Try.prog 174 = 0 := by kernel_rfl
attribute [simp] Try.underlying174
@[simp] theorem zero174 : zeroV Try.prog 174 = some (.agg [(.bool false), (.bool false), (.bool false), (.int .i64 0), (.bool false), (.bool false), (.int .i64 0), (.int .i64 0), (.str [])]) := by kernel_rfl
@[simp] theorem slots174 : slotSizes Try.prog 174 = [0, 0, 0, 0, 0, 0, 0, 0, 0] := by kernel_rfl
noncomputable def F174_0 : Field := (fieldOf Try.prog 174 0).getD default
@[simp] theorem fo174_0 : fieldOf Try.prog 174 0 = some F174_0 := by kernel_rfl
@[simp] theorem ft174_0 : F174_0.type = 4 := by kernel_rfl
@[simp] theorem fx174_0 : F174_0.offset = 0 := by kernel_rfl
noncomputable def F174_1 : Field := (fieldOf Try.prog 174 1).getD default
@[simp] theorem fo174_1 : fieldOf Try.prog 174 1 = some F174_1 := by kernel_rfl
@[simp] theorem ft174_1 : F174_1.type = 4 := by kernel_rfl
@[simp] theorem fx174_1 : F174_1.offset = 1 := by kernel_rfl
noncomputable def F174_2 : Field := (fieldOf Try.prog 174 2).getD default
@[simp] theorem fo174_2 : fieldOf Try.prog 174 2 = some F174_2 := by kernel_rfl
@[simp] theorem ft174_2 : F174_2.type = 4 := by kernel_rfl
@[simp] theorem fx174_2 : F174_2.offset = 2 := by kernel_rfl
noncomputable def F174_3 : Field := (fieldOf Try.prog 174 3).getD default
@[simp] theorem fo174_3 : fieldOf Try.prog 174 3 = some F174_3 := by kernel_rfl
@[simp] theorem ft174_3 : F174_3.type = 3 := by kernel_rfl
@[simp] theorem fx174_3 : F174_3.offset = 3 := by kernel_rfl
noncomputable def F174_4 : Field := (fieldOf Try.prog 174 4).getD default
@[simp] theorem fo174_4 : fieldOf Try.prog 174 4 = some F174_4 := by kernel_rfl
@[simp] theorem ft174_4 : F174_4.type = 4 := by kernel_rfl
@[simp] theorem fx174_4 : F174_4.offset = 4 := by kernel_rfl
noncomputable def F174_5 : Field := (fieldOf Try.prog 174 5).getD default
@[simp] theorem fo174_5 : fieldOf Try.prog 174 5 = some F174_5 := by kernel_rfl
@[simp] theorem ft174_5 : F174_5.type = 4 := by kernel_rfl
@[simp] theorem fx174_5 : F174_5.offset = 5 := by kernel_rfl
noncomputable def F174_6 : Field := (fieldOf Try.prog 174 6).getD default
@[simp] theorem fo174_6 : fieldOf Try.prog 174 6 = some F174_6 := by kernel_rfl
@[simp] theorem ft174_6 : F174_6.type = 3 := by kernel_rfl
@[simp] theorem fx174_6 : F174_6.offset = 6 := by kernel_rfl
noncomputable def F174_7 : Field := (fieldOf Try.prog 174 7).getD default
@[simp] theorem fo174_7 : fieldOf Try.prog 174 7 = some F174_7 := by kernel_rfl
@[simp] theorem ft174_7 : F174_7.type = 3 := by kernel_rfl
@[simp] theorem fx174_7 : F174_7.offset = 7 := by kernel_rfl
noncomputable def F174_8 : Field := (fieldOf Try.prog 174 8).getD default
@[simp] theorem fo174_8 : fieldOf Try.prog 174 8 = some F174_8 := by kernel_rfl
@[simp] theorem ft174_8 : F174_8.type = 9 := by kernel_rfl
@[simp] theorem fx174_8 : F174_8.offset = 8 := by kernel_rfl
@[simp] theorem inf175 : Try.prog.info? 175 = some Try.t175 := by kernel_rfl
@[simp] theorem tsz175 : Try.t175.size = 4 := by kernel_rfl
@[simp] theorem tby175 : Try.t175.bytes = 64 := by kernel_rfl
@[simp] theorem agg175 : aggT Try.prog 175 = some true := by kernel_rfl
@[simp] theorem slot175 : slotSize Try.prog 175 = 0 := by kernel_rfl
attribute [simp] Try.underlying175
@[simp] theorem zero175 : zeroV Try.prog 175 = some (.agg [(.bool false), (.str []), .nils, (.str [])]) := by kernel_rfl
@[simp] theorem slots175 : slotSizes Try.prog 175 = [0, 0, 1, 0] := by kernel_rfl
noncomputable def F175_0 : Field := (fieldOf Try.prog 175 0).getD default
@[simp] theorem fo175_0 : fieldOf Try.prog 175 0 = some F175_0 := by kernel_rfl
@[simp] theorem ft175_0 : F175_0.type = 4 := by kernel_rfl
@[simp] theorem fx175_0 : F175_0.offset = 0 := by kernel_rfl
noncomputable def F175_1 : Field := (fieldOf Try.prog 175 1).getD default
@[simp] theorem fo175_1 : fieldOf Try.prog 175 1 = some F175_1 := by kernel_rfl
@[simp] theorem ft175_1 : F175_1.type = 9 := by kernel_rfl
@[simp] theorem fx175_1 : F175_1.offset = 1 := by kernel_rfl
noncomputable def F175_2 : Field := (fieldOf Try.prog 175 2).getD default
@[simp] theorem fo175_2 : fieldOf Try.prog 175 2 = some F175_2 := by kernel_rfl
@[simp] theorem ft175_2 : F175_2.type = 45 := by kernel_rfl
@[simp] theorem fx175_2 : F175_2.offset = 2 := by kernel_rfl
noncomputable def F175_3 : Field := (fieldOf Try.prog 175 3).getD default
@[simp] theorem fo175_3 : fieldOf Try.prog 175 3 = some F175_3 := by kernel_rfl
@[simp] theorem ft175_3 : F175_3.type = 9 := by kernel_rfl
@[simp] theorem fx175_3 : F175_3.offset = 3 := by kernel_rfl
@[simp] theorem inf176 : Try.prog.info? 176 = some Try.t176 := by kernel_rfl
@[simp] theorem tsz176 : Try.t176.size = 4 := by kernel_rfl
@[simp] theorem tby176 : Try.t176.bytes = 64 := by kernel_rfl
@[simp] theorem agg176 : aggT Try.prog 176 = some true := by kernel_rfl
@[simp] theorem slot176 : slotSize Try.prog 176 = 0 := by kernel_rfl
attribute [simp] Try.underlying176
@[simp] theorem zero176 : zeroV Try.prog 176 = some (.agg [(.bool false), (.str []), .nils, (.str [])]) := by kernel_rfl
@[simp] theorem slots176 : slotSizes Try.prog 176 = [0, 0, 1, 0] := by kernel_rfl
noncomputable def F176_0 : Field := (fieldOf Try.prog 176 0).getD default
@[simp] theorem fo176_0 : fieldOf Try.prog 176 0 = some F176_0 := by kernel_rfl
@[simp] theorem ft176_0 : F176_0.type = 4 := by kernel_rfl
@[simp] theorem fx176_0 : F176_0.offset = 0 := by kernel_rfl
noncomputable def F176_1 : Field := (fieldOf Try.prog 176 1).getD default
@[simp] theorem fo176_1 : fieldOf Try.prog 176 1 = some F176_1 := by kernel_rfl
@[simp] theorem ft176_1 : F176_1.type = 9 := by kernel_rfl
@[simp] theorem fx176_1 : F176_1.offset = 1 := by kernel_rfl
noncomputable def F176_2 : Field := (fieldOf Try.prog 176 2).getD default
@[simp] theorem fo176_2 : fieldOf Try.prog 176 2 = some F176_2 := by kernel_rfl
@[simp] theorem ft176_2 : F176_2.type = 45 := by kernel_rfl
@[simp] theorem fx176_2 : F176_2.offset = 2 := by kernel_rfl
noncomputable def F176_3 : Field := (fieldOf Try.prog 176 3).getD default
@[simp] theorem fo176_3 : fieldOf Try.prog 176 3 = some F176_3 := by kernel_rfl
@[simp] theorem ft176_3 : F176_3.type = 9 := by kernel_rfl
@[simp] theorem fx176_3 : F176_3.offset = 3 := by kernel_rfl
-- T 0 ()
-- T 1 func()
-- T 2 int64
-- T 3 int
-- T 4 bool
-- T 5 uint8
-- T 6 abi.BoundsErrorCode
-- T 7 struct { x int64; y int; signed bool; code abi.BoundsErrorCode }
-- T 8 runtime.boundsError
-- T 9 string
-- T 10 runtime.errorString
-- T 11 runtime.plainError
-- T 12 uintptr
-- T 13 struct { msg string; addr uintptr }
-- T 14 runtime.errorAddressString
-- T 15 *runtime.TypeAssertionError
-- T 16 *runtime.PanicNilError
-- T 17 *abi.Type
-- T 18 struct { typ *abi.Type }
-- T 19 maps.unhashableTypeError
-- T 20 interface {}
-- T 21 int32
-- T 22 []api.Extent
-- T 23 struct { Start int; Count int }
-- T 24 api.Extent
-- T 25 func([]api.Extent) bool
-- T 26 func(api.Extent) bool
-- T 27 (int, bool)
-- T 28 func([]api.Extent, api.Extent, int) (int, bool)
-- T 29 func() bool
-- T 30 func([]api.Extent, api.Extent, int) bool
-- T 31 [6]int
-- T 32 [2]int
-- T 33 struct { R [6]int; SP [2]int; PC int; PSW int }
-- T 34 api.Cpu
-- T 35 []int
-- T 36 struct { Base int; Length int; Access int; Written bool }
-- T 37 api.Page
-- T 38 [8]api.Page
-- T 39 [2][8]api.Page
-- T 40 struct { On bool; Pages [2][8]api.Page; Status int; Addr int }
-- T 41 api.Mmu
-- T 42 struct { Enable bool; Ready bool; Period int; Left int }
-- T 43 api.Clock
-- T 44 []api.Line
-- T 45 []string
-- T 46 struct { Sectors []string; Bad []int }
-- T 47 api.Drive
-- T 48 struct { Drive api.Drive; Enable bool; Ready bool; Error bool; Command int; Words int; Addr int; Start int; Left int }
-- T 49 api.Disk
-- T 50 struct { Records []string; Pos int; Enable bool; Ready bool; Error bool; Mark bool; End bool; Command int; Count int; Addr int; Left int }
-- T 51 api.Tape
-- T 52 struct { Cpu api.Cpu; Mem []int; Bad []int; Mmu api.Mmu; Clock api.Clock; Lines []api.Line; Disk api.Disk; Tape api.Tape; Now int; Halted bool; Waiting bool; Power int; PowerTrap bool }
-- T 53 api.Machine
-- T 54 [8]int
-- T 55 struct { Pid int; Parent int; State int; Cpu api.Cpu; Base int; Blocks int; Swapped bool; Fds [8]int; Dir int; WaitKind int; WaitId int; Status int; Turn int }
-- T 56 api.Proc
-- T 57 [8]api.Proc
-- T 58 struct { Kind int; Id int; Read bool; Write bool; Offset int; Refs int }
-- T 59 api.Open
-- T 60 [24]api.Open
-- T 61 struct { Data string; Readers int; Writers int }
-- T 62 api.Pipe
-- T 63 [8]api.Pipe
-- T 64 []api.Tty
-- T 65 struct { Machine api.Machine; Procs [8]api.Proc; Opens [24]api.Open; Pipes [8]api.Pipe; Ttys []api.Tty; Swap api.Extent; Core api.Extent; Next int; Current int; Up bool }
-- T 66 api.System
-- T 67 func(int) int
-- T 68 func([]api.Extent, []api.Extent) bool
-- T 69 func([8]api.Proc) []api.Extent
-- T 70 func(api.System) bool
-- T 71 func(api.System, int) bool
-- T 72 api.Errno
-- T 73 (api.System, api.Errno)
-- T 74 func(api.System, int) (api.System, api.Errno)
-- T 75 func(api.Drive, api.Drive) []int
-- T 76 func([]int, []int) bool
-- T 77 func(api.Drive) bool
-- T 78 func(api.System, int) string
-- T 79 func(api.Extent) int
-- T 80 func([]int)
-- T 81 func(api.Extent, api.Extent) bool
-- T 82 func([]api.Extent, func(api.Extent) bool) bool
-- T 83 func([]api.Extent, api.Extent, api.Extent) bool
-- T 84 func() api.System
-- T 85 (string, api.Errno)
-- T 86 func(api.Drive, int) (string, api.Errno)
-- T 87 func(api.Proc) bool
-- T 88 func([]api.Extent, api.Extent) bool
-- T 89 func(api.System, int, bool) bool
-- T 90 *api.Proc
-- T 91 func([]int, int, int) (string, api.Errno)
-- T 92 []api.Write
-- T 93 struct { Sector int; Data string }
-- T 94 api.Write
-- T 95 (api.Drive, int, api.Errno)
-- T 96 func(api.Drive, []api.Write, int) (api.Drive, int, api.Errno)
-- T 97 *strings.Builder
-- T 98 []uint8
-- T 99 struct { addr *strings.Builder; buf []uint8 }
-- T 100 strings.Builder
-- T 101 interface { Error() string }
-- T 102 error
-- T 103 (int, error)
-- T 104 func(string) (int, error)
-- T 105 ([]int, api.Errno)
-- T 106 func([]int, int, string) ([]int, api.Errno)
-- T 107 func() string
-- T 108 func([]int, func(int) bool) []int
-- T 109 func([]int) []int
-- T 110 func(int) bool
-- T 111 func(api.Drive, int) bool
-- T 112 func([]int, int, int, int)
-- T 113 func(uint) int
-- T 114 uint
-- T 115 func([]api.Extent, func(api.Extent) bool) int
-- T 116 func(int) ([]int, api.Errno)
-- T 117 (api.Drive, api.Errno)
-- T 118 func(int) (api.Drive, api.Errno)
-- T 119 map[int]bool
-- T 120 func(api.Drive) map[int]bool
-- T 121 func([]int, int, int) bool
-- T 122 func(api.Drive) api.Drive
-- T 123 func(api.Drive, map[int]bool, api.Write) api.Errno
-- T 124 func(string, int) string
-- T 125 *uint8
-- T 126 func([]int, func(int) bool) int
-- T 127 func([]int, int, int)
-- T 128 slices.sortedHint
-- T 129 (int, slices.sortedHint)
-- T 130 func([]int, int, int) (int, slices.sortedHint)
-- T 131 func(int, int) bool
-- T 132 func([]int, int, int, int) int
-- T 133 func([]int, int, int, int) (int, bool)
-- T 134 func(uint32) int
-- T 135 uint32
-- T 136 func(uint64) int
-- T 137 uint64
-- T 138 func([]string, int) []string
-- T 139 func([]string) []string
-- T 140 (uint, uint)
-- T 141 func(uint, uint) (uint, uint)
-- T 142 func(string, string) bool
-- T 143 func(int)
-- T 144 func() int
-- T 145 unsafe.Pointer
-- T 146 func(unsafe.Pointer) unsafe.Pointer
-- T 147 slices.xorshift
-- T 148 func(int) uint
-- T 149 func() uint64
-- T 150 func([]int, int, *int) int
-- T 151 *int
-- T 152 func([]int, int, int, int, *int) int
-- T 153 (uint32, uint32)
-- T 154 func(uint32, uint32) (uint32, uint32)
-- T 155 (uint64, uint64)
-- T 156 func(uint64, uint64) (uint64, uint64)
-- T 157 *slices.xorshift
-- T 158 (int, int)
-- T 159 func([]int, int, int, *int) (int, int)
-- T 160 func(int) []uint8
-- T 161 struct { _interface *abi.Type; concrete *abi.Type; asserted *abi.Type; missingMethod string }
-- T 162 runtime.TypeAssertionError
-- T 163 [0]*runtime.PanicNilError
-- T 164 struct { _ [0]*runtime.PanicNilError }
-- T 165 runtime.PanicNilError
-- T 166 abi.TFlag
-- T 167 abi.Kind
-- T 168 func(unsafe.Pointer, unsafe.Pointer) bool
-- T 169 abi.NameOff
-- T 170 abi.TypeOff
-- T 171 struct { Size_ uintptr; PtrBytes uintptr; Hash uint32; TFlag abi.TFlag; Align_ uint8; FieldAlign_ uint8; Kind_ abi.Kind; Equal func(unsafe.Pointer, unsafe.Pointer) bool; GCData *uint8; Str abi.NameOff; PtrToThis abi.TypeOff }
-- T 172 abi.Type
-- T 173 struct { RxEnable bool; RxReady bool; Overrun bool; RxData int; TxEnable bool; TxReady bool; TxData int; TxLeft int; Out string }
-- T 174 api.Line
-- T 175 struct { Raw bool; Typed string; Lines []string; Out string }
-- T 176 api.Tty
-- LOUD [49, 51, 89]
@[simp] theorem k5_5 : DC.keep 5 5 = some [0, 2, 4, 7, 8, 9] := rfl
@[simp] theorem k5_9 : DC.keep 5 9 = some [0, 2, 4, 7, 8, 9, 10, 11] := rfl
@[simp] theorem k6_10 : DC.keep 6 10 = some [1, 2, 5, 7, 8, 9, 10] := rfl
@[simp] theorem k6_22 : DC.keep 6 22 = some [2, 7, 11, 12, 13] := rfl
@[simp] theorem k7_14 : DC.keep 7 14 = some [1, 2, 7, 9] := rfl
@[simp] theorem k8_2 : DC.keep 8 2 = some [0, 3] := rfl
@[simp] theorem k10_5 : DC.keep 10 5 = some [0, 2, 4, 8, 25, 26, 27] := rfl
@[simp] theorem k10_12 : DC.keep 10 12 = some [0, 2, 4, 42, 43, 44] := rfl
@[simp] theorem k11_5 : DC.keep 11 5 = some [0, 2, 4, 8, 9] := rfl
@[simp] theorem k15_4 : DC.keep 15 4 = some [0, 1, 5] := rfl
@[simp] theorem k16_3 : DC.keep 16 3 = some [3, 6, 7] := rfl
@[simp] theorem k17_3 : DC.keep 17 3 = some [1, 3, 4] := rfl
@[simp] theorem k18_3 : DC.keep 18 3 = some [3, 6, 7] := rfl
@[simp] theorem k19_3 : DC.keep 19 3 = some [1, 3, 4] := rfl
@[simp] theorem k20_6 : DC.keep 20 6 = some [1, 50, 51] := rfl
@[simp] theorem k21_6 : DC.keep 21 6 = some [1, 3] := rfl
@[simp] theorem k23_13 : DC.keep 23 13 = some [2, 4, 6, 8, 10, 12, 63, 64] := rfl
@[simp] theorem k24_9 : DC.keep 24 9 = some [2, 4, 6, 7, 9, 45, 46] := rfl
@[simp] theorem k25_3 : DC.keep 25 3 = some [2, 3, 5, 13, 14] := rfl
@[simp] theorem k26_4 : DC.keep 26 4 = some [0, 1, 5] := rfl
@[simp] theorem k27_4 : DC.keep 27 4 = some [0, 1, 15, 16, 17] := rfl
@[simp] theorem k27_11 : DC.keep 27 11 = some [0, 7, 26, 27, 28] := rfl
@[simp] theorem k28_4 : DC.keep 28 4 = some [1, 19, 20, 21] := rfl
@[simp] theorem k28_11 : DC.keep 28 11 = some [1, 5, 30, 31, 32] := rfl
@[simp] theorem k36_2 : DC.keep 36 2 = some [0, 4, 5, 7] := rfl
@[simp] theorem k42_2 : DC.keep 42 2 = some [0, 3, 7, 8, 9] := rfl
@[simp] theorem k43_2 : DC.keep 43 2 = some [0, 3, 5] := rfl
@[simp] theorem k43_7 : DC.keep 43 7 = some [0, 3, 5, 6] := rfl
@[simp] theorem k44_4 : DC.keep 44 4 = some [0, 1, 5] := rfl
@[simp] theorem k44_9 : DC.keep 44 9 = some [0, 1, 6] := rfl
@[simp] theorem k45_4 : DC.keep 45 4 = some [1, 3] := rfl
@[simp] theorem k45_9 : DC.keep 45 9 = some [1, 4] := rfl
@[simp] theorem k47_5 : DC.keep 47 5 = some [0, 1, 8, 19, 20] := rfl
@[simp] theorem k48_4 : DC.keep 48 4 = some [1, 2, 3, 6, 9, 17, 18, 19] := rfl
@[simp] theorem k50_5 : DC.keep 50 5 = some [1, 2, 8, 21, 22] := rfl
@[simp] theorem k52_5 : DC.keep 52 5 = some [0, 1, 5, 6] := rfl
@[simp] theorem k57_2 : DC.keep 57 2 = some [0, 1, 2, 3, 8, 9] := rfl
@[simp] theorem k59_2 : DC.keep 59 2 = some [0, 1, 7, 8] := rfl
@[simp] theorem k64_3 : DC.keep 64 3 = some [3, 8, 9, 10] := rfl
@[simp] theorem k73_2 : DC.keep 73 2 = some [0, 1, 7, 8] := rfl
@[simp] theorem k74_1 : DC.keep 74 1 = some [0, 1, 2, 6] := rfl
@[simp] theorem k74_4 : DC.keep 74 4 = some [0, 1, 2, 6, 7] := rfl
@[simp] theorem k75_4 : DC.keep 75 4 = some [0, 6, 7, 8, 9] := rfl
@[simp] theorem k75_8 : DC.keep 75 8 = some [0, 6, 7, 10] := rfl
@[simp] theorem k76_5 : DC.keep 76 5 = some [0, 1, 6, 7, 8, 9] := rfl
@[simp] theorem k78_2 : DC.keep 78 2 = some [0, 6, 7] := rfl
@[simp] theorem k79_3 : DC.keep 79 3 = some [0, 1, 2, 7, 8] := rfl
@[simp] theorem k79_5 : DC.keep 79 5 = some [0, 1, 2, 7, 8] := rfl
@[simp] theorem k79_14 : DC.keep 79 14 = some [0, 1, 2, 7, 8, 9] := rfl
@[simp] theorem k79_20 : DC.keep 79 20 = some [0, 1, 2, 7, 8, 10] := rfl
@[simp] theorem k81_3 : DC.keep 81 3 = some [0, 1, 9, 10] := rfl
@[simp] theorem k81_5 : DC.keep 81 5 = some [0, 1, 9, 10] := rfl
@[simp] theorem k82_3 : DC.keep 82 3 = some [0, 1, 10, 11] := rfl
@[simp] theorem k82_5 : DC.keep 82 5 = some [0, 1, 10, 11] := rfl
@[simp] theorem k82_13 : DC.keep 82 13 = some [0, 1, 10, 11] := rfl
@[simp] theorem k82_15 : DC.keep 82 15 = some [0, 1, 10, 11] := rfl
@[simp] theorem k85_8 : DC.keep 85 8 = some [7, 8] := rfl
@[simp] theorem k92_1 : DC.keep 92 1 = some [0, 2, 3, 8] := rfl
@[simp] theorem bldT100 : bldT Try.prog 100 = some 5 := by kernel_rfl
end Go.Abs
