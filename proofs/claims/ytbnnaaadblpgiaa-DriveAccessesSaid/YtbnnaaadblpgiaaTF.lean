/- Proved here: facts of the types. No condition but those that each theorem states. -/
import Derived.Test.YtbnnaaadblpgiaaDC
namespace Go.Abs
open Go.Proofs
set_option maxRecDepth 100000
set_option linter.unusedVariables false
set_option linter.unusedSimpArgs false

@[simp] theorem inf1 : Try.prog.info? 1 = some Try.t1 := by kernel_rfl
@[simp] theorem tsz1 : Try.t1.size = 1 := by kernel_rfl
@[simp] theorem tby1 : Try.t1.bytes = 8 := by kernel_rfl
@[simp] theorem agg1 : aggT Try.prog 1 = some false := by kernel_rfl
@[simp] theorem slot1 : slotSize Try.prog 1 = 0 := by kernel_rfl
attribute [simp] Try.underlying1
@[simp] theorem zero1 : zeroV Try.prog 1 = some (.nilx 1) := by kernel_rfl
@[simp] theorem inf2 : Try.prog.info? 2 = some Try.t2 := by kernel_rfl
@[simp] theorem tsz2 : Try.t2.size = 1 := by kernel_rfl
@[simp] theorem tby2 : Try.t2.bytes = 8 := by kernel_rfl
@[simp] theorem agg2 : aggT Try.prog 2 = some false := by kernel_rfl
@[simp] theorem slot2 : slotSize Try.prog 2 = 0 := by kernel_rfl
attribute [simp] Try.underlying2
@[simp] theorem zero2 : zeroV Try.prog 2 = some (.int .i64 0) := by kernel_rfl
@[simp] theorem inf3 : Try.prog.info? 3 = some Try.t3 := by kernel_rfl
@[simp] theorem tsz3 : Try.t3.size = 1 := by kernel_rfl
@[simp] theorem tby3 : Try.t3.bytes = 8 := by kernel_rfl
@[simp] theorem agg3 : aggT Try.prog 3 = some false := by kernel_rfl
@[simp] theorem slot3 : slotSize Try.prog 3 = 0 := by kernel_rfl
attribute [simp] Try.underlying3
@[simp] theorem zero3 : zeroV Try.prog 3 = some (.int .i64 0) := by kernel_rfl
@[simp] theorem inf4 : Try.prog.info? 4 = some Try.t4 := by kernel_rfl
@[simp] theorem tsz4 : Try.t4.size = 1 := by kernel_rfl
@[simp] theorem tby4 : Try.t4.bytes = 1 := by kernel_rfl
@[simp] theorem agg4 : aggT Try.prog 4 = some false := by kernel_rfl
@[simp] theorem slot4 : slotSize Try.prog 4 = 0 := by kernel_rfl
attribute [simp] Try.underlying4
@[simp] theorem zero4 : zeroV Try.prog 4 = some (.bool false) := by kernel_rfl
@[simp] theorem inf5 : Try.prog.info? 5 = some Try.t5 := by kernel_rfl
@[simp] theorem tsz5 : Try.t5.size = 1 := by kernel_rfl
@[simp] theorem tby5 : Try.t5.bytes = 1 := by kernel_rfl
@[simp] theorem agg5 : aggT Try.prog 5 = some false := by kernel_rfl
@[simp] theorem slot5 : slotSize Try.prog 5 = 0 := by kernel_rfl
attribute [simp] Try.underlying5
@[simp] theorem zero5 : zeroV Try.prog 5 = some (.int .u8 0) := by kernel_rfl
@[simp] theorem inf6 : Try.prog.info? 6 = some Try.t6 := by kernel_rfl
@[simp] theorem tsz6 : Try.t6.size = 1 := by kernel_rfl
@[simp] theorem tby6 : Try.t6.bytes = 1 := by kernel_rfl
@[simp] theorem agg6 : aggT Try.prog 6 = some false := by kernel_rfl
@[simp] theorem slot6 : slotSize Try.prog 6 = 0 := by kernel_rfl
attribute [simp] Try.underlying6
@[simp] theorem zero6 : zeroV Try.prog 6 = some (.int .u8 0) := by kernel_rfl
@[simp] theorem inf7 : Try.prog.info? 7 = some Try.t7 := by kernel_rfl
@[simp] theorem tsz7 : Try.t7.size = 4 := by kernel_rfl
@[simp] theorem tby7 : Try.t7.bytes = 24 := by kernel_rfl
@[simp] theorem agg7 : aggT Try.prog 7 = some true := by kernel_rfl
@[simp] theorem slot7 : slotSize Try.prog 7 = 0 := by kernel_rfl
attribute [simp] Try.underlying7
@[simp] theorem zero7 : zeroV Try.prog 7 = some (.agg [(.int .i64 0), (.int .i64 0), (.bool false), (.int .u8 0)]) := by kernel_rfl
@[simp] theorem slots7 : slotSizes Try.prog 7 = [0, 0, 0, 0] := by kernel_rfl
noncomputable def F7_0 : Field := (fieldOf Try.prog 7 0).getD default
@[simp] theorem fo7_0 : fieldOf Try.prog 7 0 = some F7_0 := by kernel_rfl
@[simp] theorem ft7_0 : F7_0.type = 2 := by kernel_rfl
@[simp] theorem fx7_0 : F7_0.offset = 0 := by kernel_rfl
noncomputable def F7_1 : Field := (fieldOf Try.prog 7 1).getD default
@[simp] theorem fo7_1 : fieldOf Try.prog 7 1 = some F7_1 := by kernel_rfl
@[simp] theorem ft7_1 : F7_1.type = 3 := by kernel_rfl
@[simp] theorem fx7_1 : F7_1.offset = 1 := by kernel_rfl
noncomputable def F7_2 : Field := (fieldOf Try.prog 7 2).getD default
@[simp] theorem fo7_2 : fieldOf Try.prog 7 2 = some F7_2 := by kernel_rfl
@[simp] theorem ft7_2 : F7_2.type = 4 := by kernel_rfl
@[simp] theorem fx7_2 : F7_2.offset = 2 := by kernel_rfl
noncomputable def F7_3 : Field := (fieldOf Try.prog 7 3).getD default
@[simp] theorem fo7_3 : fieldOf Try.prog 7 3 = some F7_3 := by kernel_rfl
@[simp] theorem ft7_3 : F7_3.type = 6 := by kernel_rfl
@[simp] theorem fx7_3 : F7_3.offset = 3 := by kernel_rfl
@[simp] theorem inf8 : Try.prog.info? 8 = some Try.t8 := by kernel_rfl
@[simp] theorem tsz8 : Try.t8.size = 4 := by kernel_rfl
@[simp] theorem tby8 : Try.t8.bytes = 24 := by kernel_rfl
@[simp] theorem agg8 : aggT Try.prog 8 = some true := by kernel_rfl
@[simp] theorem slot8 : slotSize Try.prog 8 = 0 := by kernel_rfl
attribute [simp] Try.underlying8
@[simp] theorem zero8 : zeroV Try.prog 8 = some (.agg [(.int .i64 0), (.int .i64 0), (.bool false), (.int .u8 0)]) := by kernel_rfl
@[simp] theorem slots8 : slotSizes Try.prog 8 = [0, 0, 0, 0] := by kernel_rfl
noncomputable def F8_0 : Field := (fieldOf Try.prog 8 0).getD default
@[simp] theorem fo8_0 : fieldOf Try.prog 8 0 = some F8_0 := by kernel_rfl
@[simp] theorem ft8_0 : F8_0.type = 2 := by kernel_rfl
@[simp] theorem fx8_0 : F8_0.offset = 0 := by kernel_rfl
noncomputable def F8_1 : Field := (fieldOf Try.prog 8 1).getD default
@[simp] theorem fo8_1 : fieldOf Try.prog 8 1 = some F8_1 := by kernel_rfl
@[simp] theorem ft8_1 : F8_1.type = 3 := by kernel_rfl
@[simp] theorem fx8_1 : F8_1.offset = 1 := by kernel_rfl
noncomputable def F8_2 : Field := (fieldOf Try.prog 8 2).getD default
@[simp] theorem fo8_2 : fieldOf Try.prog 8 2 = some F8_2 := by kernel_rfl
@[simp] theorem ft8_2 : F8_2.type = 4 := by kernel_rfl
@[simp] theorem fx8_2 : F8_2.offset = 2 := by kernel_rfl
noncomputable def F8_3 : Field := (fieldOf Try.prog 8 3).getD default
@[simp] theorem fo8_3 : fieldOf Try.prog 8 3 = some F8_3 := by kernel_rfl
@[simp] theorem ft8_3 : F8_3.type = 6 := by kernel_rfl
@[simp] theorem fx8_3 : F8_3.offset = 3 := by kernel_rfl
@[simp] theorem inf9 : Try.prog.info? 9 = some Try.t9 := by kernel_rfl
@[simp] theorem tsz9 : Try.t9.size = 1 := by kernel_rfl
@[simp] theorem tby9 : Try.t9.bytes = 16 := by kernel_rfl
@[simp] theorem agg9 : aggT Try.prog 9 = some false := by kernel_rfl
@[simp] theorem slot9 : slotSize Try.prog 9 = 0 := by kernel_rfl
attribute [simp] Try.underlying9
@[simp] theorem zero9 : zeroV Try.prog 9 = some (.str []) := by kernel_rfl
@[simp] theorem inf10 : Try.prog.info? 10 = some Try.t10 := by kernel_rfl
@[simp] theorem tsz10 : Try.t10.size = 1 := by kernel_rfl
@[simp] theorem tby10 : Try.t10.bytes = 16 := by kernel_rfl
@[simp] theorem agg10 : aggT Try.prog 10 = some false := by kernel_rfl
@[simp] theorem slot10 : slotSize Try.prog 10 = 0 := by kernel_rfl
attribute [simp] Try.underlying10
@[simp] theorem zero10 : zeroV Try.prog 10 = some (.str []) := by kernel_rfl
@[simp] theorem inf11 : Try.prog.info? 11 = some Try.t11 := by kernel_rfl
@[simp] theorem tsz11 : Try.t11.size = 1 := by kernel_rfl
@[simp] theorem tby11 : Try.t11.bytes = 16 := by kernel_rfl
@[simp] theorem agg11 : aggT Try.prog 11 = some false := by kernel_rfl
@[simp] theorem slot11 : slotSize Try.prog 11 = 0 := by kernel_rfl
attribute [simp] Try.underlying11
@[simp] theorem zero11 : zeroV Try.prog 11 = some (.str []) := by kernel_rfl
@[simp] theorem inf12 : Try.prog.info? 12 = some Try.t12 := by kernel_rfl
@[simp] theorem tsz12 : Try.t12.size = 1 := by kernel_rfl
@[simp] theorem tby12 : Try.t12.bytes = 8 := by kernel_rfl
@[simp] theorem agg12 : aggT Try.prog 12 = some false := by kernel_rfl
@[simp] theorem slot12 : slotSize Try.prog 12 = 0 := by kernel_rfl
attribute [simp] Try.underlying12
@[simp] theorem zero12 : zeroV Try.prog 12 = some (.int .u64 0) := by kernel_rfl
@[simp] theorem inf13 : Try.prog.info? 13 = some Try.t13 := by kernel_rfl
@[simp] theorem tsz13 : Try.t13.size = 2 := by kernel_rfl
@[simp] theorem tby13 : Try.t13.bytes = 24 := by kernel_rfl
@[simp] theorem agg13 : aggT Try.prog 13 = some true := by kernel_rfl
@[simp] theorem slot13 : slotSize Try.prog 13 = 0 := by kernel_rfl
attribute [simp] Try.underlying13
@[simp] theorem zero13 : zeroV Try.prog 13 = some (.agg [(.str []), (.int .u64 0)]) := by kernel_rfl
@[simp] theorem slots13 : slotSizes Try.prog 13 = [0, 0] := by kernel_rfl
noncomputable def F13_0 : Field := (fieldOf Try.prog 13 0).getD default
@[simp] theorem fo13_0 : fieldOf Try.prog 13 0 = some F13_0 := by kernel_rfl
@[simp] theorem ft13_0 : F13_0.type = 9 := by kernel_rfl
@[simp] theorem fx13_0 : F13_0.offset = 0 := by kernel_rfl
noncomputable def F13_1 : Field := (fieldOf Try.prog 13 1).getD default
@[simp] theorem fo13_1 : fieldOf Try.prog 13 1 = some F13_1 := by kernel_rfl
@[simp] theorem ft13_1 : F13_1.type = 12 := by kernel_rfl
@[simp] theorem fx13_1 : F13_1.offset = 1 := by kernel_rfl
@[simp] theorem inf14 : Try.prog.info? 14 = some Try.t14 := by kernel_rfl
@[simp] theorem tsz14 : Try.t14.size = 2 := by kernel_rfl
@[simp] theorem tby14 : Try.t14.bytes = 24 := by kernel_rfl
@[simp] theorem agg14 : aggT Try.prog 14 = some true := by kernel_rfl
@[simp] theorem slot14 : slotSize Try.prog 14 = 0 := by kernel_rfl
attribute [simp] Try.underlying14
@[simp] theorem zero14 : zeroV Try.prog 14 = some (.agg [(.str []), (.int .u64 0)]) := by kernel_rfl
@[simp] theorem slots14 : slotSizes Try.prog 14 = [0, 0] := by kernel_rfl
noncomputable def F14_0 : Field := (fieldOf Try.prog 14 0).getD default
@[simp] theorem fo14_0 : fieldOf Try.prog 14 0 = some F14_0 := by kernel_rfl
@[simp] theorem ft14_0 : F14_0.type = 9 := by kernel_rfl
@[simp] theorem fx14_0 : F14_0.offset = 0 := by kernel_rfl
noncomputable def F14_1 : Field := (fieldOf Try.prog 14 1).getD default
@[simp] theorem fo14_1 : fieldOf Try.prog 14 1 = some F14_1 := by kernel_rfl
@[simp] theorem ft14_1 : F14_1.type = 12 := by kernel_rfl
@[simp] theorem fx14_1 : F14_1.offset = 1 := by kernel_rfl
@[simp] theorem inf15 : Try.prog.info? 15 = some Try.t15 := by kernel_rfl
@[simp] theorem tsz15 : Try.t15.size = 1 := by kernel_rfl
@[simp] theorem tby15 : Try.t15.bytes = 8 := by kernel_rfl
@[simp] theorem agg15 : aggT Try.prog 15 = some false := by kernel_rfl
@[simp] theorem slot15 : slotSize Try.prog 15 = 0 := by kernel_rfl
attribute [simp] Try.underlying15
@[simp] theorem zero15 : zeroV Try.prog 15 = some (.nilx 0) := by kernel_rfl
@[simp] theorem inf16 : Try.prog.info? 16 = some Try.t16 := by kernel_rfl
@[simp] theorem tsz16 : Try.t16.size = 1 := by kernel_rfl
@[simp] theorem tby16 : Try.t16.bytes = 8 := by kernel_rfl
@[simp] theorem agg16 : aggT Try.prog 16 = some false := by kernel_rfl
@[simp] theorem slot16 : slotSize Try.prog 16 = 0 := by kernel_rfl
attribute [simp] Try.underlying16
@[simp] theorem zero16 : zeroV Try.prog 16 = some (.nilx 0) := by kernel_rfl
@[simp] theorem inf17 : Try.prog.info? 17 = some Try.t17 := by kernel_rfl
@[simp] theorem tsz17 : Try.t17.size = 1 := by kernel_rfl
@[simp] theorem tby17 : Try.t17.bytes = 8 := by kernel_rfl
@[simp] theorem agg17 : aggT Try.prog 17 = some false := by kernel_rfl
@[simp] theorem slot17 : slotSize Try.prog 17 = 0 := by kernel_rfl
attribute [simp] Try.underlying17
@[simp] theorem zero17 : zeroV Try.prog 17 = some (.nilx 0) := by kernel_rfl
@[simp] theorem inf18 : Try.prog.info? 18 = some Try.t18 := by kernel_rfl
@[simp] theorem tsz18 : Try.t18.size = 1 := by kernel_rfl
@[simp] theorem tby18 : Try.t18.bytes = 8 := by kernel_rfl
@[simp] theorem agg18 : aggT Try.prog 18 = some true := by kernel_rfl
@[simp] theorem slot18 : slotSize Try.prog 18 = 0 := by kernel_rfl
attribute [simp] Try.underlying18
@[simp] theorem zero18 : zeroV Try.prog 18 = some (.agg [(.nilx 0)]) := by kernel_rfl
@[simp] theorem slots18 : slotSizes Try.prog 18 = [0] := by kernel_rfl
noncomputable def F18_0 : Field := (fieldOf Try.prog 18 0).getD default
@[simp] theorem fo18_0 : fieldOf Try.prog 18 0 = some F18_0 := by kernel_rfl
@[simp] theorem ft18_0 : F18_0.type = 17 := by kernel_rfl
@[simp] theorem fx18_0 : F18_0.offset = 0 := by kernel_rfl
@[simp] theorem inf19 : Try.prog.info? 19 = some Try.t19 := by kernel_rfl
@[simp] theorem tsz19 : Try.t19.size = 1 := by kernel_rfl
@[simp] theorem tby19 : Try.t19.bytes = 8 := by kernel_rfl
@[simp] theorem agg19 : aggT Try.prog 19 = some true := by kernel_rfl
@[simp] theorem slot19 : slotSize Try.prog 19 = 0 := by kernel_rfl
attribute [simp] Try.underlying19
@[simp] theorem zero19 : zeroV Try.prog 19 = some (.agg [(.nilx 0)]) := by kernel_rfl
@[simp] theorem slots19 : slotSizes Try.prog 19 = [0] := by kernel_rfl
noncomputable def F19_0 : Field := (fieldOf Try.prog 19 0).getD default
@[simp] theorem fo19_0 : fieldOf Try.prog 19 0 = some F19_0 := by kernel_rfl
@[simp] theorem ft19_0 : F19_0.type = 17 := by kernel_rfl
@[simp] theorem fx19_0 : F19_0.offset = 0 := by kernel_rfl
@[simp] theorem inf21 : Try.prog.info? 21 = some Try.t21 := by kernel_rfl
@[simp] theorem tsz21 : Try.t21.size = 1 := by kernel_rfl
@[simp] theorem tby21 : Try.t21.bytes = 4 := by kernel_rfl
@[simp] theorem agg21 : aggT Try.prog 21 = some false := by kernel_rfl
@[simp] theorem slot21 : slotSize Try.prog 21 = 0 := by kernel_rfl
attribute [simp] Try.underlying21
@[simp] theorem zero21 : zeroV Try.prog 21 = some (.int .i32 0) := by kernel_rfl
@[simp] theorem inf22 : Try.prog.info? 22 = some Try.t22 := by kernel_rfl
@[simp] theorem tsz22 : Try.t22.size = 1 := by kernel_rfl
@[simp] theorem tby22 : Try.t22.bytes = 24 := by kernel_rfl
@[simp] theorem agg22 : aggT Try.prog 22 = some false := by kernel_rfl
@[simp] theorem slot22 : slotSize Try.prog 22 = 1 := by kernel_rfl
attribute [simp] Try.underlying22
@[simp] theorem zero22 : zeroV Try.prog 22 = some .nils := by kernel_rfl
@[simp] theorem elem22 : elemT Try.prog 22 = some Try.t9 := by kernel_rfl
@[simp] theorem inf23 : Try.prog.info? 23 = some Try.t23 := by kernel_rfl
@[simp] theorem tsz23 : Try.t23.size = 1 := by kernel_rfl
@[simp] theorem tby23 : Try.t23.bytes = 24 := by kernel_rfl
@[simp] theorem agg23 : aggT Try.prog 23 = some false := by kernel_rfl
@[simp] theorem slot23 : slotSize Try.prog 23 = 1 := by kernel_rfl
attribute [simp] Try.underlying23
@[simp] theorem zero23 : zeroV Try.prog 23 = some .nils := by kernel_rfl
@[simp] theorem elem23 : elemT Try.prog 23 = some Try.t3 := by kernel_rfl
@[simp] theorem inf24 : Try.prog.info? 24 = some Try.t24 := by kernel_rfl
@[simp] theorem tsz24 : Try.t24.size = 2 := by kernel_rfl
@[simp] theorem tby24 : Try.t24.bytes = 48 := by kernel_rfl
@[simp] theorem agg24 : aggT Try.prog 24 = some true := by kernel_rfl
@[simp] theorem slot24 : slotSize Try.prog 24 = 0 := by kernel_rfl
attribute [simp] Try.underlying24
@[simp] theorem zero24 : zeroV Try.prog 24 = some (.agg [.nils, .nils]) := by kernel_rfl
@[simp] theorem slots24 : slotSizes Try.prog 24 = [1, 1] := by kernel_rfl
noncomputable def F24_0 : Field := (fieldOf Try.prog 24 0).getD default
@[simp] theorem fo24_0 : fieldOf Try.prog 24 0 = some F24_0 := by kernel_rfl
@[simp] theorem ft24_0 : F24_0.type = 22 := by kernel_rfl
@[simp] theorem fx24_0 : F24_0.offset = 0 := by kernel_rfl
noncomputable def F24_1 : Field := (fieldOf Try.prog 24 1).getD default
@[simp] theorem fo24_1 : fieldOf Try.prog 24 1 = some F24_1 := by kernel_rfl
@[simp] theorem ft24_1 : F24_1.type = 23 := by kernel_rfl
@[simp] theorem fx24_1 : F24_1.offset = 1 := by kernel_rfl
@[simp] theorem inf25 : Try.prog.info? 25 = some Try.t25 := by kernel_rfl
@[simp] theorem tsz25 : Try.t25.size = 2 := by kernel_rfl
@[simp] theorem tby25 : Try.t25.bytes = 48 := by kernel_rfl
@[simp] theorem agg25 : aggT Try.prog 25 = some true := by kernel_rfl
@[simp] theorem slot25 : slotSize Try.prog 25 = 0 := by kernel_rfl
attribute [simp] Try.underlying25
@[simp] theorem zero25 : zeroV Try.prog 25 = some (.agg [.nils, .nils]) := by kernel_rfl
@[simp] theorem slots25 : slotSizes Try.prog 25 = [1, 1] := by kernel_rfl
noncomputable def F25_0 : Field := (fieldOf Try.prog 25 0).getD default
@[simp] theorem fo25_0 : fieldOf Try.prog 25 0 = some F25_0 := by kernel_rfl
@[simp] theorem ft25_0 : F25_0.type = 22 := by kernel_rfl
@[simp] theorem fx25_0 : F25_0.offset = 0 := by kernel_rfl
noncomputable def F25_1 : Field := (fieldOf Try.prog 25 1).getD default
@[simp] theorem fo25_1 : fieldOf Try.prog 25 1 = some F25_1 := by kernel_rfl
@[simp] theorem ft25_1 : F25_1.type = 23 := by kernel_rfl
@[simp] theorem fx25_1 : F25_1.offset = 1 := by kernel_rfl
@[simp] theorem inf26 : Try.prog.info? 26 = some Try.t26 := by kernel_rfl
@[simp] theorem tsz26 : Try.t26.size = 1 := by kernel_rfl
@[simp] theorem tby26 : Try.t26.bytes = 8 := by kernel_rfl
@[simp] theorem agg26 : aggT Try.prog 26 = some false := by kernel_rfl
@[simp] theorem slot26 : slotSize Try.prog 26 = 0 := by kernel_rfl
attribute [simp] Try.underlying26
@[simp] theorem zero26 : zeroV Try.prog 26 = some (.nilx 1) := by kernel_rfl
@[simp] theorem inf27 : Try.prog.info? 27 = some Try.t27 := by kernel_rfl
@[simp] theorem tsz27 : Try.t27.size = 1 := by kernel_rfl
@[simp] theorem tby27 : Try.t27.bytes = 8 := by kernel_rfl
@[simp] theorem agg27 : aggT Try.prog 27 = some false := by kernel_rfl
@[simp] theorem slot27 : slotSize Try.prog 27 = 0 := by kernel_rfl
attribute [simp] Try.underlying27
@[simp] theorem zero27 : zeroV Try.prog 27 = some (.nilx 1) := by kernel_rfl
@[simp] theorem inf28 : Try.prog.info? 28 = some Try.t28 := by kernel_rfl
@[simp] theorem tsz28 : Try.t28.size = 1 := by kernel_rfl
@[simp] theorem tby28 : Try.t28.bytes = 8 := by kernel_rfl
@[simp] theorem agg28 : aggT Try.prog 28 = some false := by kernel_rfl
@[simp] theorem slot28 : slotSize Try.prog 28 = 0 := by kernel_rfl
attribute [simp] Try.underlying28
@[simp] theorem zero28 : zeroV Try.prog 28 = some (.int .i64 0) := by kernel_rfl
@[simp] theorem inf30 : Try.prog.info? 30 = some Try.t30 := by kernel_rfl
@[simp] theorem tsz30 : Try.t30.size = 1 := by kernel_rfl
@[simp] theorem tby30 : Try.t30.bytes = 8 := by kernel_rfl
@[simp] theorem agg30 : aggT Try.prog 30 = some false := by kernel_rfl
@[simp] theorem slot30 : slotSize Try.prog 30 = 0 := by kernel_rfl
attribute [simp] Try.underlying30
@[simp] theorem zero30 : zeroV Try.prog 30 = some (.nilx 1) := by kernel_rfl
@[simp] theorem inf32 : Try.prog.info? 32 = some Try.t32 := by kernel_rfl
@[simp] theorem tsz32 : Try.t32.size = 1 := by kernel_rfl
@[simp] theorem tby32 : Try.t32.bytes = 8 := by kernel_rfl
@[simp] theorem agg32 : aggT Try.prog 32 = some false := by kernel_rfl
@[simp] theorem slot32 : slotSize Try.prog 32 = 0 := by kernel_rfl
attribute [simp] Try.underlying32
@[simp] theorem zero32 : zeroV Try.prog 32 = some (.nilx 1) := by kernel_rfl
@[simp] theorem inf33 : Try.prog.info? 33 = some Try.t33 := by kernel_rfl
@[simp] theorem tsz33 : Try.t33.size = 1 := by kernel_rfl
@[simp] theorem tby33 : Try.t33.bytes = 8 := by kernel_rfl
@[simp] theorem agg33 : aggT Try.prog 33 = some false := by kernel_rfl
@[simp] theorem slot33 : slotSize Try.prog 33 = 0 := by kernel_rfl
attribute [simp] Try.underlying33
@[simp] theorem zero33 : zeroV Try.prog 33 = some (.nilx 1) := by kernel_rfl
@[simp] theorem inf34 : Try.prog.info? 34 = some Try.t34 := by kernel_rfl
@[simp] theorem tsz34 : Try.t34.size = 1 := by kernel_rfl
@[simp] theorem tby34 : Try.t34.bytes = 8 := by kernel_rfl
@[simp] theorem agg34 : aggT Try.prog 34 = some false := by kernel_rfl
@[simp] theorem slot34 : slotSize Try.prog 34 = 0 := by kernel_rfl
attribute [simp] Try.underlying34
@[simp] theorem zero34 : zeroV Try.prog 34 = some (.nilx 1) := by kernel_rfl
@[simp] theorem inf35 : Try.prog.info? 35 = some Try.t35 := by kernel_rfl
@[simp] theorem tsz35 : Try.t35.size = 1 := by kernel_rfl
@[simp] theorem tby35 : Try.t35.bytes = 8 := by kernel_rfl
@[simp] theorem agg35 : aggT Try.prog 35 = some false := by kernel_rfl
@[simp] theorem slot35 : slotSize Try.prog 35 = 0 := by kernel_rfl
attribute [simp] Try.underlying35
@[simp] theorem zero35 : zeroV Try.prog 35 = some (.nilx 1) := by kernel_rfl
@[simp] theorem inf36 : Try.prog.info? 36 = some Try.t36 := by kernel_rfl
@[simp] theorem tsz36 : Try.t36.size = 1 := by kernel_rfl
@[simp] theorem tby36 : Try.t36.bytes = 8 := by kernel_rfl
@[simp] theorem agg36 : aggT Try.prog 36 = some false := by kernel_rfl
@[simp] theorem slot36 : slotSize Try.prog 36 = 0 := by kernel_rfl
attribute [simp] Try.underlying36
@[simp] theorem zero36 : zeroV Try.prog 36 = some (.nilx 1) := by kernel_rfl
@[simp] theorem inf37 : Try.prog.info? 37 = some Try.t37 := by kernel_rfl
@[simp] theorem tsz37 : Try.t37.size = 1 := by kernel_rfl
@[simp] theorem tby37 : Try.t37.bytes = 8 := by kernel_rfl
@[simp] theorem agg37 : aggT Try.prog 37 = some false := by kernel_rfl
@[simp] theorem slot37 : slotSize Try.prog 37 = 0 := by kernel_rfl
attribute [simp] Try.underlying37
@[simp] theorem zero37 : zeroV Try.prog 37 = some (.nilx 1) := by kernel_rfl
@[simp] theorem inf38 : Try.prog.info? 38 = some Try.t38 := by kernel_rfl
@[simp] theorem tsz38 : Try.t38.size = 1 := by kernel_rfl
@[simp] theorem tby38 : Try.t38.bytes = 24 := by kernel_rfl
@[simp] theorem agg38 : aggT Try.prog 38 = some false := by kernel_rfl
@[simp] theorem slot38 : slotSize Try.prog 38 = 1 := by kernel_rfl
attribute [simp] Try.underlying38
@[simp] theorem zero38 : zeroV Try.prog 38 = some .nils := by kernel_rfl
@[simp] theorem elem38 : elemT Try.prog 38 = some Try.t5 := by kernel_rfl
@[simp] theorem inf40 : Try.prog.info? 40 = some Try.t40 := by kernel_rfl
@[simp] theorem tsz40 : Try.t40.size = 1 := by kernel_rfl
@[simp] theorem tby40 : Try.t40.bytes = 8 := by kernel_rfl
@[simp] theorem agg40 : aggT Try.prog 40 = some false := by kernel_rfl
@[simp] theorem slot40 : slotSize Try.prog 40 = 0 := by kernel_rfl
attribute [simp] Try.underlying40
@[simp] theorem zero40 : zeroV Try.prog 40 = some (.nilx 1) := by kernel_rfl
@[simp] theorem inf41 : Try.prog.info? 41 = some Try.t41 := by kernel_rfl
@[simp] theorem tsz41 : Try.t41.size = 2 := by kernel_rfl
@[simp] theorem tby41 : Try.t41.bytes = 24 := by kernel_rfl
@[simp] theorem agg41 : aggT Try.prog 41 = some true := by kernel_rfl
@[simp] theorem slot41 : slotSize Try.prog 41 = 0 := by kernel_rfl
attribute [simp] Try.underlying41
@[simp] theorem zero41 : zeroV Try.prog 41 = some (.agg [(.int .i64 0), (.str [])]) := by kernel_rfl
@[simp] theorem slots41 : slotSizes Try.prog 41 = [0, 0] := by kernel_rfl
noncomputable def F41_0 : Field := (fieldOf Try.prog 41 0).getD default
@[simp] theorem fo41_0 : fieldOf Try.prog 41 0 = some F41_0 := by kernel_rfl
@[simp] theorem ft41_0 : F41_0.type = 3 := by kernel_rfl
@[simp] theorem fx41_0 : F41_0.offset = 0 := by kernel_rfl
noncomputable def F41_1 : Field := (fieldOf Try.prog 41 1).getD default
@[simp] theorem fo41_1 : fieldOf Try.prog 41 1 = some F41_1 := by kernel_rfl
@[simp] theorem ft41_1 : F41_1.type = 9 := by kernel_rfl
@[simp] theorem fx41_1 : F41_1.offset = 1 := by kernel_rfl
@[simp] theorem inf42 : Try.prog.info? 42 = some Try.t42 := by kernel_rfl
@[simp] theorem tsz42 : Try.t42.size = 2 := by kernel_rfl
@[simp] theorem tby42 : Try.t42.bytes = 24 := by kernel_rfl
@[simp] theorem agg42 : aggT Try.prog 42 = some true := by kernel_rfl
@[simp] theorem slot42 : slotSize Try.prog 42 = 0 := by kernel_rfl
attribute [simp] Try.underlying42
@[simp] theorem zero42 : zeroV Try.prog 42 = some (.agg [(.int .i64 0), (.str [])]) := by kernel_rfl
@[simp] theorem slots42 : slotSizes Try.prog 42 = [0, 0] := by kernel_rfl
noncomputable def F42_0 : Field := (fieldOf Try.prog 42 0).getD default
@[simp] theorem fo42_0 : fieldOf Try.prog 42 0 = some F42_0 := by kernel_rfl
@[simp] theorem ft42_0 : F42_0.type = 3 := by kernel_rfl
@[simp] theorem fx42_0 : F42_0.offset = 0 := by kernel_rfl
noncomputable def F42_1 : Field := (fieldOf Try.prog 42 1).getD default
@[simp] theorem fo42_1 : fieldOf Try.prog 42 1 = some F42_1 := by kernel_rfl
@[simp] theorem ft42_1 : F42_1.type = 9 := by kernel_rfl
@[simp] theorem fx42_1 : F42_1.offset = 1 := by kernel_rfl
@[simp] theorem inf43 : Try.prog.info? 43 = some Try.t43 := by kernel_rfl
@[simp] theorem tsz43 : Try.t43.size = 1 := by kernel_rfl
@[simp] theorem tby43 : Try.t43.bytes = 24 := by kernel_rfl
@[simp] theorem agg43 : aggT Try.prog 43 = some false := by kernel_rfl
@[simp] theorem slot43 : slotSize Try.prog 43 = 2 := by kernel_rfl
attribute [simp] Try.underlying43
@[simp] theorem zero43 : zeroV Try.prog 43 = some .nils := by kernel_rfl
@[simp] theorem elem43 : elemT Try.prog 43 = some Try.t42 := by kernel_rfl
@[simp] theorem inf44 : Try.prog.info? 44 = some Try.t44 := by kernel_rfl
@[simp] theorem tsz44 : Try.t44.size = 1 := by kernel_rfl
@[simp] theorem tby44 : Try.t44.bytes = 8 := by kernel_rfl
@[simp] theorem agg44 : aggT Try.prog 44 = some false := by kernel_rfl
@[simp] theorem slot44 : slotSize Try.prog 44 = 0 := by kernel_rfl
attribute [simp] Try.underlying44
@[simp] theorem zero44 : zeroV Try.prog 44 = some (.nilx 1) := by kernel_rfl
@[simp] theorem inf45 : Try.prog.info? 45 = some Try.t45 := by kernel_rfl
@[simp] theorem tsz45 : Try.t45.size = 1 := by kernel_rfl
@[simp] theorem tby45 : Try.t45.bytes = 8 := by kernel_rfl
@[simp] theorem agg45 : aggT Try.prog 45 = some false := by kernel_rfl
@[simp] theorem slot45 : slotSize Try.prog 45 = 0 := by kernel_rfl
attribute [simp] Try.underlying45
@[simp] theorem zero45 : zeroV Try.prog 45 = some .nilm := by kernel_rfl
@[simp] theorem inf46 : Try.prog.info? 46 = some Try.t46 := by kernel_rfl
@[simp] theorem tsz46 : Try.t46.size = 1 := by kernel_rfl
@[simp] theorem tby46 : Try.t46.bytes = 8 := by kernel_rfl
@[simp] theorem agg46 : aggT Try.prog 46 = some false := by kernel_rfl
@[simp] theorem slot46 : slotSize Try.prog 46 = 0 := by kernel_rfl
attribute [simp] Try.underlying46
@[simp] theorem zero46 : zeroV Try.prog 46 = some (.nilx 1) := by kernel_rfl
@[simp] theorem inf47 : Try.prog.info? 47 = some Try.t47 := by kernel_rfl
@[simp] theorem tsz47 : Try.t47.size = 1 := by kernel_rfl
@[simp] theorem tby47 : Try.t47.bytes = 8 := by kernel_rfl
@[simp] theorem agg47 : aggT Try.prog 47 = some false := by kernel_rfl
@[simp] theorem slot47 : slotSize Try.prog 47 = 0 := by kernel_rfl
attribute [simp] Try.underlying47
@[simp] theorem zero47 : zeroV Try.prog 47 = some (.nilx 1) := by kernel_rfl
@[simp] theorem inf48 : Try.prog.info? 48 = some Try.t48 := by kernel_rfl
@[simp] theorem tsz48 : Try.t48.size = 1 := by kernel_rfl
@[simp] theorem tby48 : Try.t48.bytes = 8 := by kernel_rfl
@[simp] theorem agg48 : aggT Try.prog 48 = some false := by kernel_rfl
@[simp] theorem slot48 : slotSize Try.prog 48 = 0 := by kernel_rfl
attribute [simp] Try.underlying48
@[simp] theorem zero48 : zeroV Try.prog 48 = some (.nilx 1) := by kernel_rfl
@[simp] theorem inf50 : Try.prog.info? 50 = some Try.t50 := by kernel_rfl
@[simp] theorem tsz50 : Try.t50.size = 1 := by kernel_rfl
@[simp] theorem tby50 : Try.t50.bytes = 8 := by kernel_rfl
@[simp] theorem agg50 : aggT Try.prog 50 = some false := by kernel_rfl
@[simp] theorem slot50 : slotSize Try.prog 50 = 0 := by kernel_rfl
attribute [simp] Try.underlying50
@[simp] theorem zero50 : zeroV Try.prog 50 = some (.nilx 1) := by kernel_rfl
@[simp] theorem inf51 : Try.prog.info? 51 = some Try.t51 := by kernel_rfl
@[simp] theorem tsz51 : Try.t51.size = 1 := by kernel_rfl
@[simp] theorem tby51 : Try.t51.bytes = 8 := by kernel_rfl
@[simp] theorem agg51 : aggT Try.prog 51 = some false := by kernel_rfl
@[simp] theorem slot51 : slotSize Try.prog 51 = 0 := by kernel_rfl
attribute [simp] Try.underlying51
@[simp] theorem zero51 : zeroV Try.prog 51 = some (.nilx 1) := by kernel_rfl
@[simp] theorem inf52 : Try.prog.info? 52 = some Try.t52 := by kernel_rfl
@[simp] theorem tsz52 : Try.t52.size = 1 := by kernel_rfl
@[simp] theorem tby52 : Try.t52.bytes = 8 := by kernel_rfl
@[simp] theorem agg52 : aggT Try.prog 52 = some false := by kernel_rfl
@[simp] theorem slot52 : slotSize Try.prog 52 = 0 := by kernel_rfl
attribute [simp] Try.underlying52
@[simp] theorem zero52 : zeroV Try.prog 52 = some (.nilx 1) := by kernel_rfl
@[simp] theorem inf53 : Try.prog.info? 53 = some Try.t53 := by kernel_rfl
@[simp] theorem tsz53 : Try.t53.size = 1 := by kernel_rfl
@[simp] theorem tby53 : Try.t53.bytes = 8 := by kernel_rfl
@[simp] theorem agg53 : aggT Try.prog 53 = some false := by kernel_rfl
@[simp] theorem slot53 : slotSize Try.prog 53 = 0 := by kernel_rfl
attribute [simp] Try.underlying53
@[simp] theorem zero53 : zeroV Try.prog 53 = some (.nilx 1) := by kernel_rfl
@[simp] theorem inf54 : Try.prog.info? 54 = some Try.t54 := by kernel_rfl
@[simp] theorem tsz54 : Try.t54.size = 1 := by kernel_rfl
@[simp] theorem tby54 : Try.t54.bytes = 8 := by kernel_rfl
@[simp] theorem agg54 : aggT Try.prog 54 = some false := by kernel_rfl
@[simp] theorem slot54 : slotSize Try.prog 54 = 0 := by kernel_rfl
attribute [simp] Try.underlying54
@[simp] theorem zero54 : zeroV Try.prog 54 = some (.nilx 1) := by kernel_rfl
@[simp] theorem inf55 : Try.prog.info? 55 = some Try.t55 := by kernel_rfl
@[simp] theorem tsz55 : Try.t55.size = 1 := by kernel_rfl
@[simp] theorem tby55 : Try.t55.bytes = 8 := by kernel_rfl
@[simp] theorem agg55 : aggT Try.prog 55 = some false := by kernel_rfl
@[simp] theorem slot55 : slotSize Try.prog 55 = 0 := by kernel_rfl
attribute [simp] Try.underlying55
@[simp] theorem zero55 : zeroV Try.prog 55 = some (.nilx 1) := by kernel_rfl
@[simp] theorem inf56 : Try.prog.info? 56 = some Try.t56 := by kernel_rfl
@[simp] theorem tsz56 : Try.t56.size = 1 := by kernel_rfl
@[simp] theorem tby56 : Try.t56.bytes = 8 := by kernel_rfl
@[simp] theorem agg56 : aggT Try.prog 56 = some false := by kernel_rfl
@[simp] theorem slot56 : slotSize Try.prog 56 = 0 := by kernel_rfl
attribute [simp] Try.underlying56
@[simp] theorem zero56 : zeroV Try.prog 56 = some (.nilx 1) := by kernel_rfl
@[simp] theorem inf57 : Try.prog.info? 57 = some Try.t57 := by kernel_rfl
@[simp] theorem tsz57 : Try.t57.size = 1 := by kernel_rfl
@[simp] theorem tby57 : Try.t57.bytes = 8 := by kernel_rfl
@[simp] theorem agg57 : aggT Try.prog 57 = some false := by kernel_rfl
@[simp] theorem slot57 : slotSize Try.prog 57 = 0 := by kernel_rfl
attribute [simp] Try.underlying57
@[simp] theorem zero57 : zeroV Try.prog 57 = some (.int .u64 0) := by kernel_rfl
@[simp] theorem inf58 : Try.prog.info? 58 = some Try.t58 := by kernel_rfl
@[simp] theorem tsz58 : Try.t58.size = 1 := by kernel_rfl
@[simp] theorem tby58 : Try.t58.bytes = 8 := by kernel_rfl
@[simp] theorem agg58 : aggT Try.prog 58 = some false := by kernel_rfl
@[simp] theorem slot58 : slotSize Try.prog 58 = 0 := by kernel_rfl
attribute [simp] Try.underlying58
@[simp] theorem zero58 : zeroV Try.prog 58 = some (.nilx 1) := by kernel_rfl
@[simp] theorem inf59 : Try.prog.info? 59 = some Try.t59 := by kernel_rfl
@[simp] theorem tsz59 : Try.t59.size = 1 := by kernel_rfl
@[simp] theorem tby59 : Try.t59.bytes = 8 := by kernel_rfl
@[simp] theorem agg59 : aggT Try.prog 59 = some false := by kernel_rfl
@[simp] theorem slot59 : slotSize Try.prog 59 = 0 := by kernel_rfl
attribute [simp] Try.underlying59
@[simp] theorem zero59 : zeroV Try.prog 59 = some (.nilx 1) := by kernel_rfl
@[simp] theorem inf60 : Try.prog.info? 60 = some Try.t60 := by kernel_rfl
@[simp] theorem tsz60 : Try.t60.size = 1 := by kernel_rfl
@[simp] theorem tby60 : Try.t60.bytes = 8 := by kernel_rfl
@[simp] theorem agg60 : aggT Try.prog 60 = some false := by kernel_rfl
@[simp] theorem slot60 : slotSize Try.prog 60 = 0 := by kernel_rfl
attribute [simp] Try.underlying60
@[simp] theorem zero60 : zeroV Try.prog 60 = some (.nilx 1) := by kernel_rfl
@[simp] theorem inf61 : Try.prog.info? 61 = some Try.t61 := by kernel_rfl
@[simp] theorem tsz61 : Try.t61.size = 1 := by kernel_rfl
@[simp] theorem tby61 : Try.t61.bytes = 8 := by kernel_rfl
@[simp] theorem agg61 : aggT Try.prog 61 = some false := by kernel_rfl
@[simp] theorem slot61 : slotSize Try.prog 61 = 0 := by kernel_rfl
attribute [simp] Try.underlying61
@[simp] theorem zero61 : zeroV Try.prog 61 = some (.nilx 1) := by kernel_rfl
@[simp] theorem inf63 : Try.prog.info? 63 = some Try.t63 := by kernel_rfl
@[simp] theorem tsz63 : Try.t63.size = 1 := by kernel_rfl
@[simp] theorem tby63 : Try.t63.bytes = 8 := by kernel_rfl
@[simp] theorem agg63 : aggT Try.prog 63 = some false := by kernel_rfl
@[simp] theorem slot63 : slotSize Try.prog 63 = 0 := by kernel_rfl
attribute [simp] Try.underlying63
@[simp] theorem zero63 : zeroV Try.prog 63 = some (.nilx 1) := by kernel_rfl
@[simp] theorem inf64 : Try.prog.info? 64 = some Try.t64 := by kernel_rfl
@[simp] theorem tsz64 : Try.t64.size = 1 := by kernel_rfl
@[simp] theorem tby64 : Try.t64.bytes = 8 := by kernel_rfl
@[simp] theorem agg64 : aggT Try.prog 64 = some false := by kernel_rfl
@[simp] theorem slot64 : slotSize Try.prog 64 = 0 := by kernel_rfl
attribute [simp] Try.underlying64
@[simp] theorem zero64 : zeroV Try.prog 64 = some (.nilx 1) := by kernel_rfl
@[simp] theorem inf65 : Try.prog.info? 65 = some Try.t65 := by kernel_rfl
@[simp] theorem tsz65 : Try.t65.size = 1 := by kernel_rfl
@[simp] theorem tby65 : Try.t65.bytes = 8 := by kernel_rfl
@[simp] theorem agg65 : aggT Try.prog 65 = some false := by kernel_rfl
@[simp] theorem slot65 : slotSize Try.prog 65 = 0 := by kernel_rfl
attribute [simp] Try.underlying65
@[simp] theorem zero65 : zeroV Try.prog 65 = some (.nilx 0) := by kernel_rfl
@[simp] theorem inf66 : Try.prog.info? 66 = some Try.t66 := by kernel_rfl
@[simp] theorem tsz66 : Try.t66.size = 2 := by kernel_rfl
@[simp] theorem tby66 : Try.t66.bytes = 32 := by kernel_rfl
@[simp] theorem agg66 : aggT Try.prog 66 = some true := by kernel_rfl
@[simp] theorem slot66 : slotSize Try.prog 66 = 0 := by kernel_rfl
attribute [simp] Try.underlying66
@[simp] theorem zero66 : zeroV Try.prog 66 = some (.agg [(.nilx 0), .nils]) := by kernel_rfl
@[simp] theorem slots66 : slotSizes Try.prog 66 = [0, 1] := by kernel_rfl
noncomputable def F66_0 : Field := (fieldOf Try.prog 66 0).getD default
@[simp] theorem fo66_0 : fieldOf Try.prog 66 0 = some F66_0 := by kernel_rfl
@[simp] theorem ft66_0 : F66_0.type = 65 := by kernel_rfl
@[simp] theorem fx66_0 : F66_0.offset = 0 := by kernel_rfl
noncomputable def F66_1 : Field := (fieldOf Try.prog 66 1).getD default
@[simp] theorem fo66_1 : fieldOf Try.prog 66 1 = some F66_1 := by kernel_rfl
@[simp] theorem ft66_1 : F66_1.type = 38 := by kernel_rfl
@[simp] theorem fx66_1 : F66_1.offset = 1 := by kernel_rfl
@[simp] theorem inf67 : Try.prog.info? 67 = some Try.t67 := by kernel_rfl
@[simp] theorem tsz67 : Try.t67.size = 2 := by kernel_rfl
@[simp] theorem tby67 : Try.t67.bytes = 32 := by kernel_rfl
@[simp] theorem agg67 : aggT Try.prog 67 = some true := by kernel_rfl
@[simp] theorem slot67 : slotSize Try.prog 67 = 0 := by kernel_rfl
attribute [simp] Try.underlying67
@[simp] theorem zero67 : zeroV Try.prog 67 = some (.agg [(.nilx 0), .nils]) := by kernel_rfl
@[simp] theorem slots67 : slotSizes Try.prog 67 = [0, 1] := by kernel_rfl
noncomputable def F67_0 : Field := (fieldOf Try.prog 67 0).getD default
@[simp] theorem fo67_0 : fieldOf Try.prog 67 0 = some F67_0 := by kernel_rfl
@[simp] theorem ft67_0 : F67_0.type = 65 := by kernel_rfl
@[simp] theorem fx67_0 : F67_0.offset = 0 := by kernel_rfl
noncomputable def F67_1 : Field := (fieldOf Try.prog 67 1).getD default
@[simp] theorem fo67_1 : fieldOf Try.prog 67 1 = some F67_1 := by kernel_rfl
@[simp] theorem ft67_1 : F67_1.type = 38 := by kernel_rfl
@[simp] theorem fx67_1 : F67_1.offset = 1 := by kernel_rfl
@[simp] theorem inf68 : Try.prog.info? 68 = some Try.t68 := by kernel_rfl
@[simp] theorem tsz68 : Try.t68.size = 1 := by kernel_rfl
@[simp] theorem tby68 : Try.t68.bytes = 8 := by kernel_rfl
@[simp] theorem agg68 : aggT Try.prog 68 = some false := by kernel_rfl
@[simp] theorem slot68 : slotSize Try.prog 68 = 0 := by kernel_rfl
attribute [simp] Try.underlying68
@[simp] theorem zero68 : zeroV Try.prog 68 = some (.nilx 1) := by kernel_rfl
@[simp] theorem inf72 : Try.prog.info? 72 = some Try.t72 := by kernel_rfl
@[simp] theorem tsz72 : Try.t72.size = 1 := by kernel_rfl
@[simp] theorem tby72 : Try.t72.bytes = 8 := by kernel_rfl
@[simp] theorem agg72 : aggT Try.prog 72 = some false := by kernel_rfl
@[simp] theorem slot72 : slotSize Try.prog 72 = 0 := by kernel_rfl
attribute [simp] Try.underlying72
@[simp] theorem zero72 : zeroV Try.prog 72 = some (.nilx 1) := by kernel_rfl
@[simp] theorem inf73 : Try.prog.info? 73 = some Try.t73 := by kernel_rfl
@[simp] theorem tsz73 : Try.t73.size = 1 := by kernel_rfl
@[simp] theorem tby73 : Try.t73.bytes = 8 := by kernel_rfl
@[simp] theorem agg73 : aggT Try.prog 73 = some false := by kernel_rfl
@[simp] theorem slot73 : slotSize Try.prog 73 = 0 := by kernel_rfl
attribute [simp] Try.underlying73
@[simp] theorem zero73 : zeroV Try.prog 73 = some (.nilx 1) := by kernel_rfl
@[simp] theorem inf74 : Try.prog.info? 74 = some Try.t74 := by kernel_rfl
@[simp] theorem tsz74 : Try.t74.size = 1 := by kernel_rfl
@[simp] theorem tby74 : Try.t74.bytes = 8 := by kernel_rfl
@[simp] theorem agg74 : aggT Try.prog 74 = some false := by kernel_rfl
@[simp] theorem slot74 : slotSize Try.prog 74 = 0 := by kernel_rfl
attribute [simp] Try.underlying74
@[simp] theorem zero74 : zeroV Try.prog 74 = some (.nilx 1) := by kernel_rfl
@[simp] theorem inf75 : Try.prog.info? 75 = some Try.t75 := by kernel_rfl
@[simp] theorem tsz75 : Try.t75.size = 1 := by kernel_rfl
@[simp] theorem tby75 : Try.t75.bytes = 4 := by kernel_rfl
@[simp] theorem agg75 : aggT Try.prog 75 = some false := by kernel_rfl
@[simp] theorem slot75 : slotSize Try.prog 75 = 0 := by kernel_rfl
attribute [simp] Try.underlying75
@[simp] theorem zero75 : zeroV Try.prog 75 = some (.int .u32 0) := by kernel_rfl
@[simp] theorem inf77 : Try.prog.info? 77 = some Try.t77 := by kernel_rfl
@[simp] theorem tsz77 : Try.t77.size = 1 := by kernel_rfl
@[simp] theorem tby77 : Try.t77.bytes = 8 := by kernel_rfl
@[simp] theorem agg77 : aggT Try.prog 77 = some false := by kernel_rfl
@[simp] theorem slot77 : slotSize Try.prog 77 = 0 := by kernel_rfl
attribute [simp] Try.underlying77
@[simp] theorem zero77 : zeroV Try.prog 77 = some (.nilx 1) := by kernel_rfl
@[simp] theorem inf78 : Try.prog.info? 78 = some Try.t78 := by kernel_rfl
@[simp] theorem tsz78 : Try.t78.size = 1 := by kernel_rfl
@[simp] theorem tby78 : Try.t78.bytes = 8 := by kernel_rfl
@[simp] theorem agg78 : aggT Try.prog 78 = some false := by kernel_rfl
@[simp] theorem slot78 : slotSize Try.prog 78 = 0 := by kernel_rfl
attribute [simp] Try.underlying78
@[simp] theorem zero78 : zeroV Try.prog 78 = some (.int .u64 0) := by kernel_rfl
@[simp] theorem inf80 : Try.prog.info? 80 = some Try.t80 := by kernel_rfl
@[simp] theorem tsz80 : Try.t80.size = 1 := by kernel_rfl
@[simp] theorem tby80 : Try.t80.bytes = 8 := by kernel_rfl
@[simp] theorem agg80 : aggT Try.prog 80 = some false := by kernel_rfl
@[simp] theorem slot80 : slotSize Try.prog 80 = 0 := by kernel_rfl
attribute [simp] Try.underlying80
@[simp] theorem zero80 : zeroV Try.prog 80 = some (.nilx 1) := by kernel_rfl
@[simp] theorem inf81 : Try.prog.info? 81 = some Try.t81 := by kernel_rfl
@[simp] theorem tsz81 : Try.t81.size = 1 := by kernel_rfl
@[simp] theorem tby81 : Try.t81.bytes = 8 := by kernel_rfl
@[simp] theorem agg81 : aggT Try.prog 81 = some false := by kernel_rfl
@[simp] theorem slot81 : slotSize Try.prog 81 = 0 := by kernel_rfl
attribute [simp] Try.underlying81
@[simp] theorem zero81 : zeroV Try.prog 81 = some (.nilx 0) := by kernel_rfl
@[simp] theorem inf82 : Try.prog.info? 82 = some Try.t82 := by kernel_rfl
@[simp] theorem tsz82 : Try.t82.size = 1 := by kernel_rfl
@[simp] theorem tby82 : Try.t82.bytes = 8 := by kernel_rfl
@[simp] theorem agg82 : aggT Try.prog 82 = some false := by kernel_rfl
@[simp] theorem slot82 : slotSize Try.prog 82 = 0 := by kernel_rfl
attribute [simp] Try.underlying82
@[simp] theorem zero82 : zeroV Try.prog 82 = some (.nilx 1) := by kernel_rfl
@[simp] theorem inf84 : Try.prog.info? 84 = some Try.t84 := by kernel_rfl
@[simp] theorem tsz84 : Try.t84.size = 1 := by kernel_rfl
@[simp] theorem tby84 : Try.t84.bytes = 8 := by kernel_rfl
@[simp] theorem agg84 : aggT Try.prog 84 = some false := by kernel_rfl
@[simp] theorem slot84 : slotSize Try.prog 84 = 0 := by kernel_rfl
attribute [simp] Try.underlying84
@[simp] theorem zero84 : zeroV Try.prog 84 = some (.nilx 1) := by kernel_rfl
@[simp] theorem inf85 : Try.prog.info? 85 = some Try.t85 := by kernel_rfl
@[simp] theorem tsz85 : Try.t85.size = 1 := by kernel_rfl
@[simp] theorem tby85 : Try.t85.bytes = 8 := by kernel_rfl
@[simp] theorem agg85 : aggT Try.prog 85 = some false := by kernel_rfl
@[simp] theorem slot85 : slotSize Try.prog 85 = 0 := by kernel_rfl
attribute [simp] Try.underlying85
@[simp] theorem zero85 : zeroV Try.prog 85 = some (.nilx 1) := by kernel_rfl
@[simp] theorem inf86 : Try.prog.info? 86 = some Try.t86 := by kernel_rfl
@[simp] theorem tsz86 : Try.t86.size = 4 := by kernel_rfl
@[simp] theorem tby86 : Try.t86.bytes = 40 := by kernel_rfl
@[simp] theorem agg86 : aggT Try.prog 86 = some true := by kernel_rfl
@[simp] theorem slot86 : slotSize Try.prog 86 = 0 := by kernel_rfl
attribute [simp] Try.underlying86
@[simp] theorem zero86 : zeroV Try.prog 86 = some (.agg [(.nilx 0), (.nilx 0), (.nilx 0), (.str [])]) := by kernel_rfl
@[simp] theorem slots86 : slotSizes Try.prog 86 = [0, 0, 0, 0] := by kernel_rfl
noncomputable def F86_0 : Field := (fieldOf Try.prog 86 0).getD default
@[simp] theorem fo86_0 : fieldOf Try.prog 86 0 = some F86_0 := by kernel_rfl
@[simp] theorem ft86_0 : F86_0.type = 17 := by kernel_rfl
@[simp] theorem fx86_0 : F86_0.offset = 0 := by kernel_rfl
noncomputable def F86_1 : Field := (fieldOf Try.prog 86 1).getD default
@[simp] theorem fo86_1 : fieldOf Try.prog 86 1 = some F86_1 := by kernel_rfl
@[simp] theorem ft86_1 : F86_1.type = 17 := by kernel_rfl
@[simp] theorem fx86_1 : F86_1.offset = 1 := by kernel_rfl
noncomputable def F86_2 : Field := (fieldOf Try.prog 86 2).getD default
@[simp] theorem fo86_2 : fieldOf Try.prog 86 2 = some F86_2 := by kernel_rfl
@[simp] theorem ft86_2 : F86_2.type = 17 := by kernel_rfl
@[simp] theorem fx86_2 : F86_2.offset = 2 := by kernel_rfl
noncomputable def F86_3 : Field := (fieldOf Try.prog 86 3).getD default
@[simp] theorem fo86_3 : fieldOf Try.prog 86 3 = some F86_3 := by kernel_rfl
@[simp] theorem ft86_3 : F86_3.type = 9 := by kernel_rfl
@[simp] theorem fx86_3 : F86_3.offset = 3 := by kernel_rfl
@[simp] theorem inf87 : Try.prog.info? 87 = some Try.t87 := by kernel_rfl
@[simp] theorem tsz87 : Try.t87.size = 4 := by kernel_rfl
@[simp] theorem tby87 : Try.t87.bytes = 40 := by kernel_rfl
@[simp] theorem agg87 : aggT Try.prog 87 = some true := by kernel_rfl
@[simp] theorem slot87 : slotSize Try.prog 87 = 0 := by kernel_rfl
attribute [simp] Try.underlying87
@[simp] theorem zero87 : zeroV Try.prog 87 = some (.agg [(.nilx 0), (.nilx 0), (.nilx 0), (.str [])]) := by kernel_rfl
@[simp] theorem slots87 : slotSizes Try.prog 87 = [0, 0, 0, 0] := by kernel_rfl
noncomputable def F87_0 : Field := (fieldOf Try.prog 87 0).getD default
@[simp] theorem fo87_0 : fieldOf Try.prog 87 0 = some F87_0 := by kernel_rfl
@[simp] theorem ft87_0 : F87_0.type = 17 := by kernel_rfl
@[simp] theorem fx87_0 : F87_0.offset = 0 := by kernel_rfl
noncomputable def F87_1 : Field := (fieldOf Try.prog 87 1).getD default
@[simp] theorem fo87_1 : fieldOf Try.prog 87 1 = some F87_1 := by kernel_rfl
@[simp] theorem ft87_1 : F87_1.type = 17 := by kernel_rfl
@[simp] theorem fx87_1 : F87_1.offset = 1 := by kernel_rfl
noncomputable def F87_2 : Field := (fieldOf Try.prog 87 2).getD default
@[simp] theorem fo87_2 : fieldOf Try.prog 87 2 = some F87_2 := by kernel_rfl
@[simp] theorem ft87_2 : F87_2.type = 17 := by kernel_rfl
@[simp] theorem fx87_2 : F87_2.offset = 2 := by kernel_rfl
noncomputable def F87_3 : Field := (fieldOf Try.prog 87 3).getD default
@[simp] theorem fo87_3 : fieldOf Try.prog 87 3 = some F87_3 := by kernel_rfl
@[simp] theorem ft87_3 : F87_3.type = 9 := by kernel_rfl
@[simp] theorem fx87_3 : F87_3.offset = 3 := by kernel_rfl
@[simp] theorem inf88 : Try.prog.info? 88 = some Try.t88 := by kernel_rfl
@[simp] theorem tsz88 : Try.t88.size = 0 := by kernel_rfl
@[simp] theorem tby88 : Try.t88.bytes = 0 := by kernel_rfl
@[simp] theorem agg88 : aggT Try.prog 88 = some true := by kernel_rfl
@[simp] theorem slot88 : slotSize Try.prog 88 = 0 := by kernel_rfl
attribute [simp] Try.underlying88
@[simp] theorem zero88 : zeroV Try.prog 88 = some (.agg []) := by kernel_rfl
@[simp] theorem inf89 : Try.prog.info? 89 = some Try.t89 := by kernel_rfl
@[simp] theorem tsz89 : Try.t89.size = 0 := by kernel_rfl
@[simp] theorem tby89 : Try.t89.bytes = 0 := by kernel_rfl
@[simp] theorem agg89 : aggT Try.prog 89 = some true := by kernel_rfl
@[simp] theorem slot89 : slotSize Try.prog 89 = 0 := by kernel_rfl
attribute [simp] Try.underlying89
@[simp] theorem zero89 : zeroV Try.prog 89 = some (.agg []) := by kernel_rfl
@[simp] theorem slots89 : slotSizes Try.prog 89 = [] := by kernel_rfl
noncomputable def F89_0 : Field := (fieldOf Try.prog 89 0).getD default
@[simp] theorem fo89_0 : fieldOf Try.prog 89 0 = some F89_0 := by kernel_rfl
@[simp] theorem ft89_0 : F89_0.type = 88 := by kernel_rfl
@[simp] theorem fx89_0 : F89_0.offset = 0 := by kernel_rfl
@[simp] theorem inf90 : Try.prog.info? 90 = some Try.t90 := by kernel_rfl
@[simp] theorem tsz90 : Try.t90.size = 0 := by kernel_rfl
@[simp] theorem tby90 : Try.t90.bytes = 0 := by kernel_rfl
@[simp] theorem agg90 : aggT Try.prog 90 = some true := by kernel_rfl
@[simp] theorem slot90 : slotSize Try.prog 90 = 0 := by kernel_rfl
attribute [simp] Try.underlying90
@[simp] theorem zero90 : zeroV Try.prog 90 = some (.agg []) := by kernel_rfl
@[simp] theorem slots90 : slotSizes Try.prog 90 = [] := by kernel_rfl
noncomputable def F90_0 : Field := (fieldOf Try.prog 90 0).getD default
@[simp] theorem fo90_0 : fieldOf Try.prog 90 0 = some F90_0 := by kernel_rfl
@[simp] theorem ft90_0 : F90_0.type = 88 := by kernel_rfl
@[simp] theorem fx90_0 : F90_0.offset = 0 := by kernel_rfl
@[simp] theorem inf91 : Try.prog.info? 91 = some Try.t91 := by kernel_rfl
@[simp] theorem tsz91 : Try.t91.size = 1 := by kernel_rfl
@[simp] theorem tby91 : Try.t91.bytes = 1 := by kernel_rfl
@[simp] theorem agg91 : aggT Try.prog 91 = some false := by kernel_rfl
@[simp] theorem slot91 : slotSize Try.prog 91 = 0 := by kernel_rfl
attribute [simp] Try.underlying91
@[simp] theorem zero91 : zeroV Try.prog 91 = some (.int .u8 0) := by kernel_rfl
@[simp] theorem inf92 : Try.prog.info? 92 = some Try.t92 := by kernel_rfl
@[simp] theorem tsz92 : Try.t92.size = 1 := by kernel_rfl
@[simp] theorem tby92 : Try.t92.bytes = 1 := by kernel_rfl
@[simp] theorem agg92 : aggT Try.prog 92 = some false := by kernel_rfl
@[simp] theorem slot92 : slotSize Try.prog 92 = 0 := by kernel_rfl
attribute [simp] Try.underlying92
@[simp] theorem zero92 : zeroV Try.prog 92 = some (.int .u8 0) := by kernel_rfl
@[simp] theorem inf93 : Try.prog.info? 93 = some Try.t93 := by kernel_rfl
@[simp] theorem tsz93 : Try.t93.size = 1 := by kernel_rfl
@[simp] theorem tby93 : Try.t93.bytes = 8 := by kernel_rfl
@[simp] theorem agg93 : aggT Try.prog 93 = some false := by kernel_rfl
@[simp] theorem slot93 : slotSize Try.prog 93 = 0 := by kernel_rfl
attribute [simp] Try.underlying93
@[simp] theorem zero93 : zeroV Try.prog 93 = some (.nilx 1) := by kernel_rfl
@[simp] theorem inf94 : Try.prog.info? 94 = some Try.t94 := by kernel_rfl
@[simp] theorem tsz94 : Try.t94.size = 1 := by kernel_rfl
@[simp] theorem tby94 : Try.t94.bytes = 4 := by kernel_rfl
@[simp] theorem agg94 : aggT Try.prog 94 = some false := by kernel_rfl
@[simp] theorem slot94 : slotSize Try.prog 94 = 0 := by kernel_rfl
attribute [simp] Try.underlying94
@[simp] theorem zero94 : zeroV Try.prog 94 = some (.int .i32 0) := by kernel_rfl
@[simp] theorem inf95 : Try.prog.info? 95 = some Try.t95 := by kernel_rfl
@[simp] theorem tsz95 : Try.t95.size = 1 := by kernel_rfl
@[simp] theorem tby95 : Try.t95.bytes = 4 := by kernel_rfl
@[simp] theorem agg95 : aggT Try.prog 95 = some false := by kernel_rfl
@[simp] theorem slot95 : slotSize Try.prog 95 = 0 := by kernel_rfl
attribute [simp] Try.underlying95
@[simp] theorem zero95 : zeroV Try.prog 95 = some (.int .i32 0) := by kernel_rfl
@[simp] theorem inf96 : Try.prog.info? 96 = some Try.t96 := by kernel_rfl
@[simp] theorem tsz96 : Try.t96.size = 11 := by kernel_rfl
@[simp] theorem tby96 : Try.t96.bytes = 48 := by kernel_rfl
@[simp] theorem agg96 : aggT Try.prog 96 = some true := by kernel_rfl
@[simp] theorem slot96 : slotSize Try.prog 96 = 0 := by kernel_rfl
attribute [simp] Try.underlying96
@[simp] theorem zero96 : zeroV Try.prog 96 = some (.agg [(.int .u64 0), (.int .u64 0), (.int .u32 0), (.int .u8 0), (.int .u8 0), (.int .u8 0), (.int .u8 0), (.nilx 1), (.nilx 0), (.int .i32 0), (.int .i32 0)]) := by kernel_rfl
@[simp] theorem slots96 : slotSizes Try.prog 96 = [0, 0, 0, 0, 0, 0, 0, 0, 0, 0, 0] := by kernel_rfl
noncomputable def F96_0 : Field := (fieldOf Try.prog 96 0).getD default
@[simp] theorem fo96_0 : fieldOf Try.prog 96 0 = some F96_0 := by kernel_rfl
@[simp] theorem ft96_0 : F96_0.type = 12 := by kernel_rfl
@[simp] theorem fx96_0 : F96_0.offset = 0 := by kernel_rfl
noncomputable def F96_1 : Field := (fieldOf Try.prog 96 1).getD default
@[simp] theorem fo96_1 : fieldOf Try.prog 96 1 = some F96_1 := by kernel_rfl
@[simp] theorem ft96_1 : F96_1.type = 12 := by kernel_rfl
@[simp] theorem fx96_1 : F96_1.offset = 1 := by kernel_rfl
noncomputable def F96_2 : Field := (fieldOf Try.prog 96 2).getD default
@[simp] theorem fo96_2 : fieldOf Try.prog 96 2 = some F96_2 := by kernel_rfl
@[simp] theorem ft96_2 : F96_2.type = 75 := by kernel_rfl
@[simp] theorem fx96_2 : F96_2.offset = 2 := by kernel_rfl
noncomputable def F96_3 : Field := (fieldOf Try.prog 96 3).getD default
@[simp] theorem fo96_3 : fieldOf Try.prog 96 3 = some F96_3 := by kernel_rfl
@[simp] theorem ft96_3 : F96_3.type = 91 := by kernel_rfl
@[simp] theorem fx96_3 : F96_3.offset = 3 := by kernel_rfl
noncomputable def F96_4 : Field := (fieldOf Try.prog 96 4).getD default
@[simp] theorem fo96_4 : fieldOf Try.prog 96 4 = some F96_4 := by kernel_rfl
@[simp] theorem ft96_4 : F96_4.type = 5 := by kernel_rfl
@[simp] theorem fx96_4 : F96_4.offset = 4 := by kernel_rfl
noncomputable def F96_5 : Field := (fieldOf Try.prog 96 5).getD default
@[simp] theorem fo96_5 : fieldOf Try.prog 96 5 = some F96_5 := by kernel_rfl
@[simp] theorem ft96_5 : F96_5.type = 5 := by kernel_rfl
@[simp] theorem fx96_5 : F96_5.offset = 5 := by kernel_rfl
noncomputable def F96_6 : Field := (fieldOf Try.prog 96 6).getD default
@[simp] theorem fo96_6 : fieldOf Try.prog 96 6 = some F96_6 := by kernel_rfl
@[simp] theorem ft96_6 : F96_6.type = 92 := by kernel_rfl
@[simp] theorem fx96_6 : F96_6.offset = 6 := by kernel_rfl
noncomputable def F96_7 : Field := (fieldOf Try.prog 96 7).getD default
@[simp] theorem fo96_7 : fieldOf Try.prog 96 7 = some F96_7 := by kernel_rfl
@[simp] theorem ft96_7 : F96_7.type = 93 := by kernel_rfl
@[simp] theorem fx96_7 : F96_7.offset = 7 := by kernel_rfl
noncomputable def F96_8 : Field := (fieldOf Try.prog 96 8).getD default
@[simp] theorem fo96_8 : fieldOf Try.prog 96 8 = some F96_8 := by kernel_rfl
@[simp] theorem ft96_8 : F96_8.type = 81 := by kernel_rfl
@[simp] theorem fx96_8 : F96_8.offset = 8 := by kernel_rfl
noncomputable def F96_9 : Field := (fieldOf Try.prog 96 9).getD default
@[simp] theorem fo96_9 : fieldOf Try.prog 96 9 = some F96_9 := by kernel_rfl
@[simp] theorem ft96_9 : F96_9.type = 94 := by kernel_rfl
@[simp] theorem fx96_9 : F96_9.offset = 9 := by kernel_rfl
noncomputable def F96_10 : Field := (fieldOf Try.prog 96 10).getD default
@[simp] theorem fo96_10 : fieldOf Try.prog 96 10 = some F96_10 := by kernel_rfl
@[simp] theorem ft96_10 : F96_10.type = 95 := by kernel_rfl
@[simp] theorem fx96_10 : F96_10.offset = 10 := by kernel_rfl
@[simp] theorem inf97 : Try.prog.info? 97 = some Try.t97 := by kernel_rfl
@[simp] theorem tsz97 : Try.t97.size = 11 := by kernel_rfl
@[simp] theorem tby97 : Try.t97.bytes = 48 := by kernel_rfl
@[simp] theorem agg97 : aggT Try.prog 97 = some true := by kernel_rfl
@[simp] theorem slot97 : slotSize Try.prog 97 = 0 := by kernel_rfl
attribute [simp] Try.underlying97
@[simp] theorem zero97 : zeroV Try.prog 97 = some (.agg [(.int .u64 0), (.int .u64 0), (.int .u32 0), (.int .u8 0), (.int .u8 0), (.int .u8 0), (.int .u8 0), (.nilx 1), (.nilx 0), (.int .i32 0), (.int .i32 0)]) := by kernel_rfl
@[simp] theorem slots97 : slotSizes Try.prog 97 = [0, 0, 0, 0, 0, 0, 0, 0, 0, 0, 0] := by kernel_rfl
noncomputable def F97_0 : Field := (fieldOf Try.prog 97 0).getD default
@[simp] theorem fo97_0 : fieldOf Try.prog 97 0 = some F97_0 := by kernel_rfl
@[simp] theorem ft97_0 : F97_0.type = 12 := by kernel_rfl
@[simp] theorem fx97_0 : F97_0.offset = 0 := by kernel_rfl
noncomputable def F97_1 : Field := (fieldOf Try.prog 97 1).getD default
@[simp] theorem fo97_1 : fieldOf Try.prog 97 1 = some F97_1 := by kernel_rfl
@[simp] theorem ft97_1 : F97_1.type = 12 := by kernel_rfl
@[simp] theorem fx97_1 : F97_1.offset = 1 := by kernel_rfl
noncomputable def F97_2 : Field := (fieldOf Try.prog 97 2).getD default
@[simp] theorem fo97_2 : fieldOf Try.prog 97 2 = some F97_2 := by kernel_rfl
@[simp] theorem ft97_2 : F97_2.type = 75 := by kernel_rfl
@[simp] theorem fx97_2 : F97_2.offset = 2 := by kernel_rfl
noncomputable def F97_3 : Field := (fieldOf Try.prog 97 3).getD default
@[simp] theorem fo97_3 : fieldOf Try.prog 97 3 = some F97_3 := by kernel_rfl
@[simp] theorem ft97_3 : F97_3.type = 91 := by kernel_rfl
@[simp] theorem fx97_3 : F97_3.offset = 3 := by kernel_rfl
noncomputable def F97_4 : Field := (fieldOf Try.prog 97 4).getD default
@[simp] theorem fo97_4 : fieldOf Try.prog 97 4 = some F97_4 := by kernel_rfl
@[simp] theorem ft97_4 : F97_4.type = 5 := by kernel_rfl
@[simp] theorem fx97_4 : F97_4.offset = 4 := by kernel_rfl
noncomputable def F97_5 : Field := (fieldOf Try.prog 97 5).getD default
@[simp] theorem fo97_5 : fieldOf Try.prog 97 5 = some F97_5 := by kernel_rfl
@[simp] theorem ft97_5 : F97_5.type = 5 := by kernel_rfl
@[simp] theorem fx97_5 : F97_5.offset = 5 := by kernel_rfl
noncomputable def F97_6 : Field := (fieldOf Try.prog 97 6).getD default
@[simp] theorem fo97_6 : fieldOf Try.prog 97 6 = some F97_6 := by kernel_rfl
@[simp] theorem ft97_6 : F97_6.type = 92 := by kernel_rfl
@[simp] theorem fx97_6 : F97_6.offset = 6 := by kernel_rfl
noncomputable def F97_7 : Field := (fieldOf Try.prog 97 7).getD default
@[simp] theorem fo97_7 : fieldOf Try.prog 97 7 = some F97_7 := by kernel_rfl
@[simp] theorem ft97_7 : F97_7.type = 93 := by kernel_rfl
@[simp] theorem fx97_7 : F97_7.offset = 7 := by kernel_rfl
noncomputable def F97_8 : Field := (fieldOf Try.prog 97 8).getD default
@[simp] theorem fo97_8 : fieldOf Try.prog 97 8 = some F97_8 := by kernel_rfl
@[simp] theorem ft97_8 : F97_8.type = 81 := by kernel_rfl
@[simp] theorem fx97_8 : F97_8.offset = 8 := by kernel_rfl
noncomputable def F97_9 : Field := (fieldOf Try.prog 97 9).getD default
@[simp] theorem fo97_9 : fieldOf Try.prog 97 9 = some F97_9 := by kernel_rfl
@[simp] theorem ft97_9 : F97_9.type = 94 := by kernel_rfl
@[simp] theorem fx97_9 : F97_9.offset = 9 := by kernel_rfl
noncomputable def F97_10 : Field := (fieldOf Try.prog 97 10).getD default
@[simp] theorem fo97_10 : fieldOf Try.prog 97 10 = some F97_10 := by kernel_rfl
@[simp] theorem ft97_10 : F97_10.type = 95 := by kernel_rfl
@[simp] theorem fx97_10 : F97_10.offset = 10 := by kernel_rfl
-- T 0 ()
-- T 1 func()
-- T 2 int64
-- T 3 int
-- T 4 bool
-- T 5 uint8
-- T 6 abi.BoundsErrorCode
-- T 7 struct { x int64; y int; signed bool; code abi.BoundsErrorCode }
-- T 8 runtime.boundsError
-- T 9 string
-- T 10 runtime.errorString
-- T 11 runtime.plainError
-- T 12 uintptr
-- T 13 struct { msg string; addr uintptr }
-- T 14 runtime.errorAddressString
-- T 15 *runtime.TypeAssertionError
-- T 16 *runtime.PanicNilError
-- T 17 *abi.Type
-- T 18 struct { typ *abi.Type }
-- T 19 maps.unhashableTypeError
-- T 20 interface {}
-- T 21 int32
-- T 22 []string
-- T 23 []int
-- T 24 struct { Sectors []string; Bad []int }
-- T 25 api.Drive
-- T 26 func(api.Drive) bool
-- T 27 func() bool
-- T 28 api.Errno
-- T 29 (string, api.Errno)
-- T 30 func(api.Drive, int) (string, api.Errno)
-- T 31 (api.Drive, api.Errno)
-- T 32 func(api.Drive, int, string) (api.Drive, api.Errno)
-- T 33 func(api.Drive, int) (api.Drive, api.Errno)
-- T 34 func(api.Drive, api.Drive) bool
-- T 35 func(api.Drive, int, string) bool
-- T 36 func(int) (api.Drive, api.Errno)
-- T 37 func(api.Drive, api.Drive) []int
-- T 38 []uint8
-- T 39 (api.Drive, int, api.Errno)
-- T 40 func(api.Drive, []api.Write, int) (api.Drive, int, api.Errno)
-- T 41 struct { Sector int; Data string }
-- T 42 api.Write
-- T 43 []api.Write
-- T 44 func(api.Drive, int) bool
-- T 45 map[int]bool
-- T 46 func(api.Drive) map[int]bool
-- T 47 func(int) string
-- T 48 func(api.Drive) api.Drive
-- T 49 (int, bool)
-- T 50 func([]int, int) (int, bool)
-- T 51 func([]int, int, ...int) []int
-- T 52 func(string, int) string
-- T 53 func([]string, int) []string
-- T 54 func(api.Drive, map[int]bool, api.Write) api.Errno
-- T 55 func([]string) []string
-- T 56 func([]int) []int
-- T 57 uint
-- T 58 func(int, int) bool
-- T 59 func(int) bool
-- T 60 func([]int, []int) bool
-- T 61 func([]int, int)
-- T 62 (uint, uint)
-- T 63 func(uint, uint) (uint, uint)
-- T 64 func(string, string) bool
-- T 65 *strings.Builder
-- T 66 struct { addr *strings.Builder; buf []uint8 }
-- T 67 strings.Builder
-- T 68 func(int)
-- T 69 interface { Error() string }
-- T 70 error
-- T 71 (int, error)
-- T 72 func(string) (int, error)
-- T 73 func() int
-- T 74 func() string
-- T 75 uint32
-- T 76 (uint32, uint32)
-- T 77 func(uint32, uint32) (uint32, uint32)
-- T 78 uint64
-- T 79 (uint64, uint64)
-- T 80 func(uint64, uint64) (uint64, uint64)
-- T 81 *uint8
-- T 82 func([]int)
-- T 83 unsafe.Pointer
-- T 84 func(unsafe.Pointer) unsafe.Pointer
-- T 85 func(int) []uint8
-- T 86 struct { _interface *abi.Type; concrete *abi.Type; asserted *abi.Type; missingMethod string }
-- T 87 runtime.TypeAssertionError
-- T 88 [0]*runtime.PanicNilError
-- T 89 struct { _ [0]*runtime.PanicNilError }
-- T 90 runtime.PanicNilError
-- T 91 abi.TFlag
-- T 92 abi.Kind
-- T 93 func(unsafe.Pointer, unsafe.Pointer) bool
-- T 94 abi.NameOff
-- T 95 abi.TypeOff
-- T 96 struct { Size_ uintptr; PtrBytes uintptr; Hash uint32; TFlag abi.TFlag; Align_ uint8; FieldAlign_ uint8; Kind_ abi.Kind; Equal func(unsafe.Pointer, unsafe.Pointer) bool; GCData *uint8; Str abi.NameOff; PtrToThis abi.TypeOff }
-- T 97 abi.Type
-- LOUD [37, 38, 40]
@[simp] theorem k11_6 : DC.keep 11 6 = some [1, 2, 4, 6] := rfl
@[simp] theorem k12_4 : DC.keep 12 4 = some [2, 3, 5] := rfl
@[simp] theorem k13_4 : DC.keep 13 4 = some [1, 3] := rfl
@[simp] theorem k14_4 : DC.keep 14 4 = some [1, 3] := rfl
@[simp] theorem k14_9 : DC.keep 14 9 = some [1, 4] := rfl
@[simp] theorem k16_3 : DC.keep 16 3 = some [2, 3, 5, 13, 14] := rfl
@[simp] theorem k17_4 : DC.keep 17 4 = some [1, 2, 3, 6, 9, 17, 18, 19] := rfl
@[simp] theorem k19_3 : DC.keep 19 3 = some [3, 8, 9, 10] := rfl
@[simp] theorem k20_2 : DC.keep 20 2 = some [1, 2, 5] := rfl
@[simp] theorem k21_3 : DC.keep 21 3 = some [0, 3, 4] := rfl
@[simp] theorem k23_3 : DC.keep 23 3 = some [0, 1, 6, 7, 8] := rfl
@[simp] theorem k25_3 : DC.keep 25 3 = some [2, 3, 5, 6] := rfl
@[simp] theorem k27_8 : DC.keep 27 8 = some [7, 8] := rfl
@[simp] theorem k48_1 : DC.keep 48 1 = some [0, 2, 3] := rfl
@[simp] theorem bldT67 : bldT Try.prog 67 = some 5 := by kernel_rfl
end Go.Abs
