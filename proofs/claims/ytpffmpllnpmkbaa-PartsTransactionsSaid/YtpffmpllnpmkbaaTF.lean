/- Proved here: facts of the types. No condition but those that each theorem states. -/
import Derived.Test.YtpffmpllnpmkbaaDC
namespace Go.Abs
open Go.Proofs
set_option maxRecDepth 100000
set_option linter.unusedVariables false
set_option linter.unusedSimpArgs false

@[simp] theorem inf1 : Try.prog.info? 1 = some Try.t1 := by kernel_rfl
@[simp] theorem tsz1 : Try.t1.size = 1 := by kernel_rfl
@[simp] theorem tby1 : Try.t1.bytes = 8 := by kernel_rfl
@[simp] theorem agg1 : aggT Try.prog 1 = some false := by kernel_rfl
@[simp] theorem slot1 : slotSize Try.prog 1 = 0 := by kernel_rfl
attribute [simp] Try.underlying1
@[simp] theorem zero1 : zeroV Try.prog 1 = some .undef := by kernel_rfl
@[simp] theorem inf2 : Try.prog.info? 2 = some Try.t2 := by kernel_rfl
@[simp] theorem tsz2 : Try.t2.size = 1 := by kernel_rfl
@[simp] theorem tby2 : Try.t2.bytes = 8 := by kernel_rfl
@[simp] theorem agg2 : aggT Try.prog 2 = some false := by kernel_rfl
@[simp] theorem slot2 : slotSize Try.prog 2 = 0 := by kernel_rfl
attribute [simp] Try.underlying2
@[simp] theorem zero2 : zeroV Try.prog 2 = some (.int .i64 0) := by kernel_rfl
@[simp] theorem inf3 : Try.prog.info? 3 = some Try.t3 := by kernel_rfl
@[simp] theorem tsz3 : Try.t3.size = 1 := by kernel_rfl
@[simp] theorem tby3 : Try.t3.bytes = 8 := by kernel_rfl
@[simp] theorem agg3 : aggT Try.prog 3 = some false := by kernel_rfl
@[simp] theorem slot3 : slotSize Try.prog 3 = 0 := by kernel_rfl
attribute [simp] Try.underlying3
@[simp] theorem zero3 : zeroV Try.prog 3 = some (.int .i64 0) := by kernel_rfl
@[simp] theorem inf4 : Try.prog.info? 4 = some Try.t4 := by kernel_rfl
@[simp] theorem tsz4 : Try.t4.size = 1 := by kernel_rfl
@[simp] theorem tby4 : Try.t4.bytes = 1 := by kernel_rfl
@[simp] theorem agg4 : aggT Try.prog 4 = some false := by kernel_rfl
@[simp] theorem slot4 : slotSize Try.prog 4 = 0 := by kernel_rfl
attribute [simp] Try.underlying4
@[simp] theorem zero4 : zeroV Try.prog 4 = some (.bool false) := by kernel_rfl
@[simp] theorem inf5 : Try.prog.info? 5 = some Try.t5 := by kernel_rfl
@[simp] theorem tsz5 : Try.t5.size = 1 := by kernel_rfl
@[simp] theorem tby5 : Try.t5.bytes = 1 := by kernel_rfl
@[simp] theorem agg5 : aggT Try.prog 5 = some false := by kernel_rfl
@[simp] theorem slot5 : slotSize Try.prog 5 = 0 := by kernel_rfl
attribute [simp] Try.underlying5
@[simp] theorem zero5 : zeroV Try.prog 5 = some (.int .u8 0) := by kernel_rfl
@[simp] theorem inf6 : Try.prog.info? 6 = some Try.t6 := by kernel_rfl
@[simp] theorem tsz6 : Try.t6.size = 1 := by kernel_rfl
@[simp] theorem tby6 : Try.t6.bytes = 1 := by kernel_rfl
@[simp] theorem agg6 : aggT Try.prog 6 = some false := by kernel_rfl
@[simp] theorem slot6 : slotSize Try.prog 6 = 0 := by kernel_rfl
attribute [simp] Try.underlying6
@[simp] theorem zero6 : zeroV Try.prog 6 = some (.int .u8 0) := by kernel_rfl
@[simp] theorem inf7 : Try.prog.info? 7 = some Try.t7 := by kernel_rfl
@[simp] theorem tsz7 : Try.t7.size = 4 := by kernel_rfl
@[simp] theorem tby7 : Try.t7.bytes = 24 := by kernel_rfl
@[simp] theorem agg7 : aggT Try.prog 7 = some true := by kernel_rfl
@[simp] theorem slot7 : slotSize Try.prog 7 = 0 := by kernel_rfl
attribute [simp] Try.underlying7
@[simp] theorem zero7 : zeroV Try.prog 7 = some (.agg [(.int .i64 0), (.int .i64 0), (.bool false), (.int .u8 0)]) := by kernel_rfl
@[simp] theorem slots7 : slotSizes Try.prog 7 = [0, 0, 0, 0] := by kernel_rfl
noncomputable def F7_0 : Field := (fieldOf Try.prog 7 0).getD default
@[simp] theorem fo7_0 : fieldOf Try.prog 7 0 = some F7_0 := by kernel_rfl
@[simp] theorem ft7_0 : F7_0.type = 2 := by kernel_rfl
@[simp] theorem fx7_0 : F7_0.offset = 0 := by kernel_rfl
noncomputable def F7_1 : Field := (fieldOf Try.prog 7 1).getD default
@[simp] theorem fo7_1 : fieldOf Try.prog 7 1 = some F7_1 := by kernel_rfl
@[simp] theorem ft7_1 : F7_1.type = 3 := by kernel_rfl
@[simp] theorem fx7_1 : F7_1.offset = 1 := by kernel_rfl
noncomputable def F7_2 : Field := (fieldOf Try.prog 7 2).getD default
@[simp] theorem fo7_2 : fieldOf Try.prog 7 2 = some F7_2 := by kernel_rfl
@[simp] theorem ft7_2 : F7_2.type = 4 := by kernel_rfl
@[simp] theorem fx7_2 : F7_2.offset = 2 := by kernel_rfl
noncomputable def F7_3 : Field := (fieldOf Try.prog 7 3).getD default
@[simp] theorem fo7_3 : fieldOf Try.prog 7 3 = some F7_3 := by kernel_rfl
@[simp] theorem ft7_3 : F7_3.type = 6 := by kernel_rfl
@[simp] theorem fx7_3 : F7_3.offset = 3 := by kernel_rfl
@[simp] theorem inf8 : Try.prog.info? 8 = some Try.t8 := by kernel_rfl
@[simp] theorem tsz8 : Try.t8.size = 4 := by kernel_rfl
@[simp] theorem tby8 : Try.t8.bytes = 24 := by kernel_rfl
@[simp] theorem agg8 : aggT Try.prog 8 = some true := by kernel_rfl
@[simp] theorem slot8 : slotSize Try.prog 8 = 0 := by kernel_rfl
attribute [simp] Try.underlying8
@[simp] theorem zero8 : zeroV Try.prog 8 = some (.agg [(.int .i64 0), (.int .i64 0), (.bool false), (.int .u8 0)]) := by kernel_rfl
@[simp] theorem slots8 : slotSizes Try.prog 8 = [0, 0, 0, 0] := by kernel_rfl
noncomputable def F8_0 : Field := (fieldOf Try.prog 8 0).getD default
@[simp] theorem fo8_0 : fieldOf Try.prog 8 0 = some F8_0 := by kernel_rfl
@[simp] theorem ft8_0 : F8_0.type = 2 := by kernel_rfl
@[simp] theorem fx8_0 : F8_0.offset = 0 := by kernel_rfl
noncomputable def F8_1 : Field := (fieldOf Try.prog 8 1).getD default
@[simp] theorem fo8_1 : fieldOf Try.prog 8 1 = some F8_1 := by kernel_rfl
@[simp] theorem ft8_1 : F8_1.type = 3 := by kernel_rfl
@[simp] theorem fx8_1 : F8_1.offset = 1 := by kernel_rfl
noncomputable def F8_2 : Field := (fieldOf Try.prog 8 2).getD default
@[simp] theorem fo8_2 : fieldOf Try.prog 8 2 = some F8_2 := by kernel_rfl
@[simp] theorem ft8_2 : F8_2.type = 4 := by kernel_rfl
@[simp] theorem fx8_2 : F8_2.offset = 2 := by kernel_rfl
noncomputable def F8_3 : Field := (fieldOf Try.prog 8 3).getD default
@[simp] theorem fo8_3 : fieldOf Try.prog 8 3 = some F8_3 := by kernel_rfl
@[simp] theorem ft8_3 : F8_3.type = 6 := by kernel_rfl
@[simp] theorem fx8_3 : F8_3.offset = 3 := by kernel_rfl
@[simp] theorem inf9 : Try.prog.info? 9 = some Try.t9 := by kernel_rfl
@[simp] theorem tsz9 : Try.t9.size = 1 := by kernel_rfl
@[simp] theorem tby9 : Try.t9.bytes = 16 := by kernel_rfl
@[simp] theorem agg9 : aggT Try.prog 9 = some false := by kernel_rfl
@[simp] theorem slot9 : slotSize Try.prog 9 = 0 := by kernel_rfl
attribute [simp] Try.underlying9
@[simp] theorem zero9 : zeroV Try.prog 9 = some (.str []) := by kernel_rfl
@[simp] theorem inf10 : Try.prog.info? 10 = some Try.t10 := by kernel_rfl
@[simp] theorem tsz10 : Try.t10.size = 1 := by kernel_rfl
@[simp] theorem tby10 : Try.t10.bytes = 16 := by kernel_rfl
@[simp] theorem agg10 : aggT Try.prog 10 = some false := by kernel_rfl
@[simp] theorem slot10 : slotSize Try.prog 10 = 0 := by kernel_rfl
attribute [simp] Try.underlying10
@[simp] theorem zero10 : zeroV Try.prog 10 = some (.str []) := by kernel_rfl
@[simp] theorem inf11 : Try.prog.info? 11 = some Try.t11 := by kernel_rfl
@[simp] theorem tsz11 : Try.t11.size = 1 := by kernel_rfl
@[simp] theorem tby11 : Try.t11.bytes = 16 := by kernel_rfl
@[simp] theorem agg11 : aggT Try.prog 11 = some false := by kernel_rfl
@[simp] theorem slot11 : slotSize Try.prog 11 = 0 := by kernel_rfl
attribute [simp] Try.underlying11
@[simp] theorem zero11 : zeroV Try.prog 11 = some (.str []) := by kernel_rfl
@[simp] theorem inf12 : Try.prog.info? 12 = some Try.t12 := by kernel_rfl
@[simp] theorem tsz12 : Try.t12.size = 1 := by kernel_rfl
@[simp] theorem tby12 : Try.t12.bytes = 8 := by kernel_rfl
@[simp] theorem agg12 : aggT Try.prog 12 = some false := by kernel_rfl
@[simp] theorem slot12 : slotSize Try.prog 12 = 0 := by kernel_rfl
attribute [simp] Try.underlying12
@[simp] theorem zero12 : zeroV Try.prog 12 = some (.int .u64 0) := by kernel_rfl
@[simp] theorem inf13 : Try.prog.info? 13 = some Try.t13 := by kernel_rfl
@[simp] theorem tsz13 : Try.t13.size = 2 := by kernel_rfl
@[simp] theorem tby13 : Try.t13.bytes = 24 := by kernel_rfl
@[simp] theorem agg13 : aggT Try.prog 13 = some true := by kernel_rfl
@[simp] theorem slot13 : slotSize Try.prog 13 = 0 := by kernel_rfl
attribute [simp] Try.underlying13
@[simp] theorem zero13 : zeroV Try.prog 13 = some (.agg [(.str []), (.int .u64 0)]) := by kernel_rfl
@[simp] theorem slots13 : slotSizes Try.prog 13 = [0, 0] := by kernel_rfl
noncomputable def F13_0 : Field := (fieldOf Try.prog 13 0).getD default
@[simp] theorem fo13_0 : fieldOf Try.prog 13 0 = some F13_0 := by kernel_rfl
@[simp] theorem ft13_0 : F13_0.type = 9 := by kernel_rfl
@[simp] theorem fx13_0 : F13_0.offset = 0 := by kernel_rfl
noncomputable def F13_1 : Field := (fieldOf Try.prog 13 1).getD default
@[simp] theorem fo13_1 : fieldOf Try.prog 13 1 = some F13_1 := by kernel_rfl
@[simp] theorem ft13_1 : F13_1.type = 12 := by kernel_rfl
@[simp] theorem fx13_1 : F13_1.offset = 1 := by kernel_rfl
@[simp] theorem inf14 : Try.prog.info? 14 = some Try.t14 := by kernel_rfl
@[simp] theorem tsz14 : Try.t14.size = 2 := by kernel_rfl
@[simp] theorem tby14 : Try.t14.bytes = 24 := by kernel_rfl
@[simp] theorem agg14 : aggT Try.prog 14 = some true := by kernel_rfl
@[simp] theorem slot14 : slotSize Try.prog 14 = 0 := by kernel_rfl
attribute [simp] Try.underlying14
@[simp] theorem zero14 : zeroV Try.prog 14 = some (.agg [(.str []), (.int .u64 0)]) := by kernel_rfl
@[simp] theorem slots14 : slotSizes Try.prog 14 = [0, 0] := by kernel_rfl
noncomputable def F14_0 : Field := (fieldOf Try.prog 14 0).getD default
@[simp] theorem fo14_0 : fieldOf Try.prog 14 0 = some F14_0 := by kernel_rfl
@[simp] theorem ft14_0 : F14_0.type = 9 := by kernel_rfl
@[simp] theorem fx14_0 : F14_0.offset = 0 := by kernel_rfl
noncomputable def F14_1 : Field := (fieldOf Try.prog 14 1).getD default
@[simp] theorem fo14_1 : fieldOf Try.prog 14 1 = some F14_1 := by kernel_rfl
@[simp] theorem ft14_1 : F14_1.type = 12 := by kernel_rfl
@[simp] theorem fx14_1 : F14_1.offset = 1 := by kernel_rfl
@[simp] theorem inf15 : Try.prog.info? 15 = some Try.t15 := by kernel_rfl
@[simp] theorem tsz15 : Try.t15.size = 1 := by kernel_rfl
@[simp] theorem tby15 : Try.t15.bytes = 8 := by kernel_rfl
@[simp] theorem agg15 : aggT Try.prog 15 = some false := by kernel_rfl
@[simp] theorem slot15 : slotSize Try.prog 15 = 0 := by kernel_rfl
attribute [simp] Try.underlying15
@[simp] theorem zero15 : zeroV Try.prog 15 = some .undef := by kernel_rfl
@[simp] theorem inf16 : Try.prog.info? 16 = some Try.t16 := by kernel_rfl
@[simp] theorem tsz16 : Try.t16.size = 1 := by kernel_rfl
@[simp] theorem tby16 : Try.t16.bytes = 8 := by kernel_rfl
@[simp] theorem agg16 : aggT Try.prog 16 = some false := by kernel_rfl
@[simp] theorem slot16 : slotSize Try.prog 16 = 0 := by kernel_rfl
attribute [simp] Try.underlying16
@[simp] theorem zero16 : zeroV Try.prog 16 = some .undef := by kernel_rfl
@[simp] theorem inf17 : Try.prog.info? 17 = some Try.t17 := by kernel_rfl
@[simp] theorem tsz17 : Try.t17.size = 1 := by kernel_rfl
@[simp] theorem tby17 : Try.t17.bytes = 8 := by kernel_rfl
@[simp] theorem agg17 : aggT Try.prog 17 = some false := by kernel_rfl
@[simp] theorem slot17 : slotSize Try.prog 17 = 0 := by kernel_rfl
attribute [simp] Try.underlying17
@[simp] theorem zero17 : zeroV Try.prog 17 = some .undef := by kernel_rfl
@[simp] theorem inf18 : Try.prog.info? 18 = some Try.t18 := by kernel_rfl
@[simp] theorem tsz18 : Try.t18.size = 1 := by kernel_rfl
@[simp] theorem tby18 : Try.t18.bytes = 8 := by kernel_rfl
@[simp] theorem agg18 : aggT Try.prog 18 = some true := by kernel_rfl
@[simp] theorem slot18 : slotSize Try.prog 18 = 0 := by kernel_rfl
attribute [simp] Try.underlying18
@[simp] theorem zero18 : zeroV Try.prog 18 = some (.agg [.undef]) := by kernel_rfl
@[simp] theorem slots18 : slotSizes Try.prog 18 = [0] := by kernel_rfl
noncomputable def F18_0 : Field := (fieldOf Try.prog 18 0).getD default
@[simp] theorem fo18_0 : fieldOf Try.prog 18 0 = some F18_0 := by kernel_rfl
@[simp] theorem ft18_0 : F18_0.type = 17 := by kernel_rfl
@[simp] theorem fx18_0 : F18_0.offset = 0 := by kernel_rfl
@[simp] theorem inf19 : Try.prog.info? 19 = some Try.t19 := by kernel_rfl
@[simp] theorem tsz19 : Try.t19.size = 1 := by kernel_rfl
@[simp] theorem tby19 : Try.t19.bytes = 8 := by kernel_rfl
@[simp] theorem agg19 : aggT Try.prog 19 = some true := by kernel_rfl
@[simp] theorem slot19 : slotSize Try.prog 19 = 0 := by kernel_rfl
attribute [simp] Try.underlying19
@[simp] theorem zero19 : zeroV Try.prog 19 = some (.agg [.undef]) := by kernel_rfl
@[simp] theorem slots19 : slotSizes Try.prog 19 = [0] := by kernel_rfl
noncomputable def F19_0 : Field := (fieldOf Try.prog 19 0).getD default
@[simp] theorem fo19_0 : fieldOf Try.prog 19 0 = some F19_0 := by kernel_rfl
@[simp] theorem ft19_0 : F19_0.type = 17 := by kernel_rfl
@[simp] theorem fx19_0 : F19_0.offset = 0 := by kernel_rfl
@[simp] theorem inf21 : Try.prog.info? 21 = some Try.t21 := by kernel_rfl
@[simp] theorem tsz21 : Try.t21.size = 1 := by kernel_rfl
@[simp] theorem tby21 : Try.t21.bytes = 4 := by kernel_rfl
@[simp] theorem agg21 : aggT Try.prog 21 = some false := by kernel_rfl
@[simp] theorem slot21 : slotSize Try.prog 21 = 0 := by kernel_rfl
attribute [simp] Try.underlying21
@[simp] theorem zero21 : zeroV Try.prog 21 = some (.int .i32 0) := by kernel_rfl
@[simp] theorem inf22 : Try.prog.info? 22 = some Try.t22 := by kernel_rfl
@[simp] theorem tsz22 : Try.t22.size = 8 := by kernel_rfl
@[simp] theorem tby22 : Try.t22.bytes = 64 := by kernel_rfl
@[simp] theorem agg22 : aggT Try.prog 22 = some true := by kernel_rfl
@[simp] theorem slot22 : slotSize Try.prog 22 = 0 := by kernel_rfl
attribute [simp] Try.underlying22
@[simp] theorem zero22 : zeroV Try.prog 22 = some (.agg [(.int .i64 0), (.int .i64 0), (.int .i64 0), (.int .i64 0), (.int .i64 0), (.int .i64 0), (.int .i64 0), (.int .i64 0)]) := by kernel_rfl
@[simp] theorem inf23 : Try.prog.info? 23 = some Try.t23 := by kernel_rfl
@[simp] theorem tsz23 : Try.t23.size = 11 := by kernel_rfl
@[simp] theorem tby23 : Try.t23.bytes = 88 := by kernel_rfl
@[simp] theorem agg23 : aggT Try.prog 23 = some true := by kernel_rfl
@[simp] theorem slot23 : slotSize Try.prog 23 = 0 := by kernel_rfl
attribute [simp] Try.underlying23
@[simp] theorem zero23 : zeroV Try.prog 23 = some (.agg [(.int .i64 0), (.int .i64 0), (.int .i64 0), (.int .i64 0), (.int .i64 0), (.int .i64 0), (.int .i64 0), (.int .i64 0), (.int .i64 0), (.int .i64 0), (.int .i64 0)]) := by kernel_rfl
@[simp] theorem slots23 : slotSizes Try.prog 23 = [0, 0, 0, 0, 0, 0, 0, 0, 0, 0, 0] := by kernel_rfl
noncomputable def F23_0 : Field := (fieldOf Try.prog 23 0).getD default
@[simp] theorem fo23_0 : fieldOf Try.prog 23 0 = some F23_0 := by kernel_rfl
@[simp] theorem ft23_0 : F23_0.type = 3 := by kernel_rfl
@[simp] theorem fx23_0 : F23_0.offset = 0 := by kernel_rfl
noncomputable def F23_1 : Field := (fieldOf Try.prog 23 1).getD default
@[simp] theorem fo23_1 : fieldOf Try.prog 23 1 = some F23_1 := by kernel_rfl
@[simp] theorem ft23_1 : F23_1.type = 3 := by kernel_rfl
@[simp] theorem fx23_1 : F23_1.offset = 1 := by kernel_rfl
noncomputable def F23_2 : Field := (fieldOf Try.prog 23 2).getD default
@[simp] theorem fo23_2 : fieldOf Try.prog 23 2 = some F23_2 := by kernel_rfl
@[simp] theorem ft23_2 : F23_2.type = 3 := by kernel_rfl
@[simp] theorem fx23_2 : F23_2.offset = 2 := by kernel_rfl
noncomputable def F23_3 : Field := (fieldOf Try.prog 23 3).getD default
@[simp] theorem fo23_3 : fieldOf Try.prog 23 3 = some F23_3 := by kernel_rfl
@[simp] theorem ft23_3 : F23_3.type = 22 := by kernel_rfl
@[simp] theorem fx23_3 : F23_3.offset = 3 := by kernel_rfl
@[simp] theorem inf24 : Try.prog.info? 24 = some Try.t24 := by kernel_rfl
@[simp] theorem tsz24 : Try.t24.size = 11 := by kernel_rfl
@[simp] theorem tby24 : Try.t24.bytes = 88 := by kernel_rfl
@[simp] theorem agg24 : aggT Try.prog 24 = some true := by kernel_rfl
@[simp] theorem slot24 : slotSize Try.prog 24 = 0 := by kernel_rfl
attribute [simp] Try.underlying24
@[simp] theorem zero24 : zeroV Try.prog 24 = some (.agg [(.int .i64 0), (.int .i64 0), (.int .i64 0), (.int .i64 0), (.int .i64 0), (.int .i64 0), (.int .i64 0), (.int .i64 0), (.int .i64 0), (.int .i64 0), (.int .i64 0)]) := by kernel_rfl
@[simp] theorem slots24 : slotSizes Try.prog 24 = [0, 0, 0, 0, 0, 0, 0, 0, 0, 0, 0] := by kernel_rfl
noncomputable def F24_0 : Field := (fieldOf Try.prog 24 0).getD default
@[simp] theorem fo24_0 : fieldOf Try.prog 24 0 = some F24_0 := by kernel_rfl
@[simp] theorem ft24_0 : F24_0.type = 3 := by kernel_rfl
@[simp] theorem fx24_0 : F24_0.offset = 0 := by kernel_rfl
noncomputable def F24_1 : Field := (fieldOf Try.prog 24 1).getD default
@[simp] theorem fo24_1 : fieldOf Try.prog 24 1 = some F24_1 := by kernel_rfl
@[simp] theorem ft24_1 : F24_1.type = 3 := by kernel_rfl
@[simp] theorem fx24_1 : F24_1.offset = 1 := by kernel_rfl
noncomputable def F24_2 : Field := (fieldOf Try.prog 24 2).getD default
@[simp] theorem fo24_2 : fieldOf Try.prog 24 2 = some F24_2 := by kernel_rfl
@[simp] theorem ft24_2 : F24_2.type = 3 := by kernel_rfl
@[simp] theorem fx24_2 : F24_2.offset = 2 := by kernel_rfl
noncomputable def F24_3 : Field := (fieldOf Try.prog 24 3).getD default
@[simp] theorem fo24_3 : fieldOf Try.prog 24 3 = some F24_3 := by kernel_rfl
@[simp] theorem ft24_3 : F24_3.type = 22 := by kernel_rfl
@[simp] theorem fx24_3 : F24_3.offset = 3 := by kernel_rfl
@[simp] theorem inf25 : Try.prog.info? 25 = some Try.t25 := by kernel_rfl
@[simp] theorem tsz25 : Try.t25.size = 1 := by kernel_rfl
@[simp] theorem tby25 : Try.t25.bytes = 8 := by kernel_rfl
@[simp] theorem agg25 : aggT Try.prog 25 = some false := by kernel_rfl
@[simp] theorem slot25 : slotSize Try.prog 25 = 0 := by kernel_rfl
attribute [simp] Try.underlying25
@[simp] theorem zero25 : zeroV Try.prog 25 = some (.int .i64 0) := by kernel_rfl
@[simp] theorem inf27 : Try.prog.info? 27 = some Try.t27 := by kernel_rfl
@[simp] theorem tsz27 : Try.t27.size = 1 := by kernel_rfl
@[simp] theorem tby27 : Try.t27.bytes = 8 := by kernel_rfl
@[simp] theorem agg27 : aggT Try.prog 27 = some false := by kernel_rfl
@[simp] theorem slot27 : slotSize Try.prog 27 = 0 := by kernel_rfl
attribute [simp] Try.underlying27
@[simp] theorem zero27 : zeroV Try.prog 27 = some .undef := by kernel_rfl
@[simp] theorem inf28 : Try.prog.info? 28 = some Try.t28 := by kernel_rfl
@[simp] theorem tsz28 : Try.t28.size = 1 := by kernel_rfl
@[simp] theorem tby28 : Try.t28.bytes = 8 := by kernel_rfl
@[simp] theorem agg28 : aggT Try.prog 28 = some false := by kernel_rfl
@[simp] theorem slot28 : slotSize Try.prog 28 = 0 := by kernel_rfl
attribute [simp] Try.underlying28
@[simp] theorem zero28 : zeroV Try.prog 28 = some .undef := by kernel_rfl
@[simp] theorem inf29 : Try.prog.info? 29 = some Try.t29 := by kernel_rfl
@[simp] theorem tsz29 : Try.t29.size = 1 := by kernel_rfl
@[simp] theorem tby29 : Try.t29.bytes = 8 := by kernel_rfl
@[simp] theorem agg29 : aggT Try.prog 29 = some false := by kernel_rfl
@[simp] theorem slot29 : slotSize Try.prog 29 = 0 := by kernel_rfl
attribute [simp] Try.underlying29
@[simp] theorem zero29 : zeroV Try.prog 29 = some .undef := by kernel_rfl
@[simp] theorem inf30 : Try.prog.info? 30 = some Try.t30 := by kernel_rfl
@[simp] theorem tsz30 : Try.t30.size = 1 := by kernel_rfl
@[simp] theorem tby30 : Try.t30.bytes = 8 := by kernel_rfl
@[simp] theorem agg30 : aggT Try.prog 30 = some false := by kernel_rfl
@[simp] theorem slot30 : slotSize Try.prog 30 = 0 := by kernel_rfl
attribute [simp] Try.underlying30
@[simp] theorem zero30 : zeroV Try.prog 30 = some .undef := by kernel_rfl
@[simp] theorem inf31 : Try.prog.info? 31 = some Try.t31 := by kernel_rfl
@[simp] theorem tsz31 : Try.t31.size = 1 := by kernel_rfl
@[simp] theorem tby31 : Try.t31.bytes = 24 := by kernel_rfl
@[simp] theorem agg31 : aggT Try.prog 31 = some false := by kernel_rfl
@[simp] theorem slot31 : slotSize Try.prog 31 = 1 := by kernel_rfl
attribute [simp] Try.underlying31
@[simp] theorem zero31 : zeroV Try.prog 31 = some .nils := by kernel_rfl
@[simp] theorem elem31 : elemT Try.prog 31 = some Try.t9 := by kernel_rfl
@[simp] theorem inf32 : Try.prog.info? 32 = some Try.t32 := by kernel_rfl
@[simp] theorem tsz32 : Try.t32.size = 1 := by kernel_rfl
@[simp] theorem tby32 : Try.t32.bytes = 24 := by kernel_rfl
@[simp] theorem agg32 : aggT Try.prog 32 = some false := by kernel_rfl
@[simp] theorem slot32 : slotSize Try.prog 32 = 1 := by kernel_rfl
attribute [simp] Try.underlying32
@[simp] theorem zero32 : zeroV Try.prog 32 = some .nils := by kernel_rfl
@[simp] theorem elem32 : elemT Try.prog 32 = some Try.t3 := by kernel_rfl
@[simp] theorem inf33 : Try.prog.info? 33 = some Try.t33 := by kernel_rfl
@[simp] theorem tsz33 : Try.t33.size = 2 := by kernel_rfl
@[simp] theorem tby33 : Try.t33.bytes = 48 := by kernel_rfl
@[simp] theorem agg33 : aggT Try.prog 33 = some true := by kernel_rfl
@[simp] theorem slot33 : slotSize Try.prog 33 = 0 := by kernel_rfl
attribute [simp] Try.underlying33
@[simp] theorem zero33 : zeroV Try.prog 33 = some (.agg [.nils, .nils]) := by kernel_rfl
@[simp] theorem slots33 : slotSizes Try.prog 33 = [1, 1] := by kernel_rfl
noncomputable def F33_0 : Field := (fieldOf Try.prog 33 0).getD default
@[simp] theorem fo33_0 : fieldOf Try.prog 33 0 = some F33_0 := by kernel_rfl
@[simp] theorem ft33_0 : F33_0.type = 31 := by kernel_rfl
@[simp] theorem fx33_0 : F33_0.offset = 0 := by kernel_rfl
noncomputable def F33_1 : Field := (fieldOf Try.prog 33 1).getD default
@[simp] theorem fo33_1 : fieldOf Try.prog 33 1 = some F33_1 := by kernel_rfl
@[simp] theorem ft33_1 : F33_1.type = 32 := by kernel_rfl
@[simp] theorem fx33_1 : F33_1.offset = 1 := by kernel_rfl
@[simp] theorem inf34 : Try.prog.info? 34 = some Try.t34 := by kernel_rfl
@[simp] theorem tsz34 : Try.t34.size = 2 := by kernel_rfl
@[simp] theorem tby34 : Try.t34.bytes = 48 := by kernel_rfl
@[simp] theorem agg34 : aggT Try.prog 34 = some true := by kernel_rfl
@[simp] theorem slot34 : slotSize Try.prog 34 = 0 := by kernel_rfl
attribute [simp] Try.underlying34
@[simp] theorem zero34 : zeroV Try.prog 34 = some (.agg [.nils, .nils]) := by kernel_rfl
@[simp] theorem slots34 : slotSizes Try.prog 34 = [1, 1] := by kernel_rfl
noncomputable def F34_0 : Field := (fieldOf Try.prog 34 0).getD default
@[simp] theorem fo34_0 : fieldOf Try.prog 34 0 = some F34_0 := by kernel_rfl
@[simp] theorem ft34_0 : F34_0.type = 31 := by kernel_rfl
@[simp] theorem fx34_0 : F34_0.offset = 0 := by kernel_rfl
noncomputable def F34_1 : Field := (fieldOf Try.prog 34 1).getD default
@[simp] theorem fo34_1 : fieldOf Try.prog 34 1 = some F34_1 := by kernel_rfl
@[simp] theorem ft34_1 : F34_1.type = 32 := by kernel_rfl
@[simp] theorem fx34_1 : F34_1.offset = 1 := by kernel_rfl
@[simp] theorem inf35 : Try.prog.info? 35 = some Try.t35 := by kernel_rfl
@[simp] theorem tsz35 : Try.t35.size = 1 := by kernel_rfl
@[simp] theorem tby35 : Try.t35.bytes = 8 := by kernel_rfl
@[simp] theorem agg35 : aggT Try.prog 35 = some false := by kernel_rfl
@[simp] theorem slot35 : slotSize Try.prog 35 = 0 := by kernel_rfl
attribute [simp] Try.underlying35
@[simp] theorem zero35 : zeroV Try.prog 35 = some .undef := by kernel_rfl
@[simp] theorem inf36 : Try.prog.info? 36 = some Try.t36 := by kernel_rfl
@[simp] theorem tsz36 : Try.t36.size = 1 := by kernel_rfl
@[simp] theorem tby36 : Try.t36.bytes = 8 := by kernel_rfl
@[simp] theorem agg36 : aggT Try.prog 36 = some false := by kernel_rfl
@[simp] theorem slot36 : slotSize Try.prog 36 = 0 := by kernel_rfl
attribute [simp] Try.underlying36
@[simp] theorem zero36 : zeroV Try.prog 36 = some .undef := by kernel_rfl
@[simp] theorem inf37 : Try.prog.info? 37 = some Try.t37 := by kernel_rfl
@[simp] theorem tsz37 : Try.t37.size = 2 := by kernel_rfl
@[simp] theorem tby37 : Try.t37.bytes = 24 := by kernel_rfl
@[simp] theorem agg37 : aggT Try.prog 37 = some true := by kernel_rfl
@[simp] theorem slot37 : slotSize Try.prog 37 = 0 := by kernel_rfl
attribute [simp] Try.underlying37
@[simp] theorem zero37 : zeroV Try.prog 37 = some (.agg [(.int .i64 0), (.str [])]) := by kernel_rfl
@[simp] theorem slots37 : slotSizes Try.prog 37 = [0, 0] := by kernel_rfl
noncomputable def F37_0 : Field := (fieldOf Try.prog 37 0).getD default
@[simp] theorem fo37_0 : fieldOf Try.prog 37 0 = some F37_0 := by kernel_rfl
@[simp] theorem ft37_0 : F37_0.type = 3 := by kernel_rfl
@[simp] theorem fx37_0 : F37_0.offset = 0 := by kernel_rfl
noncomputable def F37_1 : Field := (fieldOf Try.prog 37 1).getD default
@[simp] theorem fo37_1 : fieldOf Try.prog 37 1 = some F37_1 := by kernel_rfl
@[simp] theorem ft37_1 : F37_1.type = 9 := by kernel_rfl
@[simp] theorem fx37_1 : F37_1.offset = 1 := by kernel_rfl
@[simp] theorem inf38 : Try.prog.info? 38 = some Try.t38 := by kernel_rfl
@[simp] theorem tsz38 : Try.t38.size = 2 := by kernel_rfl
@[simp] theorem tby38 : Try.t38.bytes = 24 := by kernel_rfl
@[simp] theorem agg38 : aggT Try.prog 38 = some true := by kernel_rfl
@[simp] theorem slot38 : slotSize Try.prog 38 = 0 := by kernel_rfl
attribute [simp] Try.underlying38
@[simp] theorem zero38 : zeroV Try.prog 38 = some (.agg [(.int .i64 0), (.str [])]) := by kernel_rfl
@[simp] theorem slots38 : slotSizes Try.prog 38 = [0, 0] := by kernel_rfl
noncomputable def F38_0 : Field := (fieldOf Try.prog 38 0).getD default
@[simp] theorem fo38_0 : fieldOf Try.prog 38 0 = some F38_0 := by kernel_rfl
@[simp] theorem ft38_0 : F38_0.type = 3 := by kernel_rfl
@[simp] theorem fx38_0 : F38_0.offset = 0 := by kernel_rfl
noncomputable def F38_1 : Field := (fieldOf Try.prog 38 1).getD default
@[simp] theorem fo38_1 : fieldOf Try.prog 38 1 = some F38_1 := by kernel_rfl
@[simp] theorem ft38_1 : F38_1.type = 9 := by kernel_rfl
@[simp] theorem fx38_1 : F38_1.offset = 1 := by kernel_rfl
@[simp] theorem inf40 : Try.prog.info? 40 = some Try.t40 := by kernel_rfl
@[simp] theorem tsz40 : Try.t40.size = 1 := by kernel_rfl
@[simp] theorem tby40 : Try.t40.bytes = 8 := by kernel_rfl
@[simp] theorem agg40 : aggT Try.prog 40 = some false := by kernel_rfl
@[simp] theorem slot40 : slotSize Try.prog 40 = 0 := by kernel_rfl
attribute [simp] Try.underlying40
@[simp] theorem zero40 : zeroV Try.prog 40 = some .undef := by kernel_rfl
@[simp] theorem inf41 : Try.prog.info? 41 = some Try.t41 := by kernel_rfl
@[simp] theorem tsz41 : Try.t41.size = 1 := by kernel_rfl
@[simp] theorem tby41 : Try.t41.bytes = 8 := by kernel_rfl
@[simp] theorem agg41 : aggT Try.prog 41 = some false := by kernel_rfl
@[simp] theorem slot41 : slotSize Try.prog 41 = 0 := by kernel_rfl
attribute [simp] Try.underlying41
@[simp] theorem zero41 : zeroV Try.prog 41 = some .undef := by kernel_rfl
@[simp] theorem inf43 : Try.prog.info? 43 = some Try.t43 := by kernel_rfl
@[simp] theorem tsz43 : Try.t43.size = 1 := by kernel_rfl
@[simp] theorem tby43 : Try.t43.bytes = 8 := by kernel_rfl
@[simp] theorem agg43 : aggT Try.prog 43 = some false := by kernel_rfl
@[simp] theorem slot43 : slotSize Try.prog 43 = 0 := by kernel_rfl
attribute [simp] Try.underlying43
@[simp] theorem zero43 : zeroV Try.prog 43 = some .undef := by kernel_rfl
@[simp] theorem inf45 : Try.prog.info? 45 = some Try.t45 := by kernel_rfl
@[simp] theorem tsz45 : Try.t45.size = 1 := by kernel_rfl
@[simp] theorem tby45 : Try.t45.bytes = 8 := by kernel_rfl
@[simp] theorem agg45 : aggT Try.prog 45 = some false := by kernel_rfl
@[simp] theorem slot45 : slotSize Try.prog 45 = 0 := by kernel_rfl
attribute [simp] Try.underlying45
@[simp] theorem zero45 : zeroV Try.prog 45 = some .undef := by kernel_rfl
@[simp] theorem inf46 : Try.prog.info? 46 = some Try.t46 := by kernel_rfl
@[simp] theorem tsz46 : Try.t46.size = 1 := by kernel_rfl
@[simp] theorem tby46 : Try.t46.bytes = 8 := by kernel_rfl
@[simp] theorem agg46 : aggT Try.prog 46 = some false := by kernel_rfl
@[simp] theorem slot46 : slotSize Try.prog 46 = 0 := by kernel_rfl
attribute [simp] Try.underlying46
@[simp] theorem zero46 : zeroV Try.prog 46 = some .undef := by kernel_rfl
@[simp] theorem inf47 : Try.prog.info? 47 = some Try.t47 := by kernel_rfl
@[simp] theorem tsz47 : Try.t47.size = 1 := by kernel_rfl
@[simp] theorem tby47 : Try.t47.bytes = 8 := by kernel_rfl
@[simp] theorem agg47 : aggT Try.prog 47 = some false := by kernel_rfl
@[simp] theorem slot47 : slotSize Try.prog 47 = 0 := by kernel_rfl
attribute [simp] Try.underlying47
@[simp] theorem zero47 : zeroV Try.prog 47 = some .undef := by kernel_rfl
@[simp] theorem inf48 : Try.prog.info? 48 = some Try.t48 := by kernel_rfl
@[simp] theorem tsz48 : Try.t48.size = 1 := by kernel_rfl
@[simp] theorem tby48 : Try.t48.bytes = 8 := by kernel_rfl
@[simp] theorem agg48 : aggT Try.prog 48 = some false := by kernel_rfl
@[simp] theorem slot48 : slotSize Try.prog 48 = 0 := by kernel_rfl
attribute [simp] Try.underlying48
@[simp] theorem zero48 : zeroV Try.prog 48 = some .undef := by kernel_rfl
@[simp] theorem inf49 : Try.prog.info? 49 = some Try.t49 := by kernel_rfl
@[simp] theorem tsz49 : Try.t49.size = 1 := by kernel_rfl
@[simp] theorem tby49 : Try.t49.bytes = 8 := by kernel_rfl
@[simp] theorem agg49 : aggT Try.prog 49 = some false := by kernel_rfl
@[simp] theorem slot49 : slotSize Try.prog 49 = 0 := by kernel_rfl
attribute [simp] Try.underlying49
@[simp] theorem zero49 : zeroV Try.prog 49 = some .undef := by kernel_rfl
@[simp] theorem inf51 : Try.prog.info? 51 = some Try.t51 := by kernel_rfl
@[simp] theorem tsz51 : Try.t51.size = 1 := by kernel_rfl
@[simp] theorem tby51 : Try.t51.bytes = 8 := by kernel_rfl
@[simp] theorem agg51 : aggT Try.prog 51 = some false := by kernel_rfl
@[simp] theorem slot51 : slotSize Try.prog 51 = 0 := by kernel_rfl
attribute [simp] Try.underlying51
@[simp] theorem zero51 : zeroV Try.prog 51 = some .undef := by kernel_rfl
@[simp] theorem inf52 : Try.prog.info? 52 = some Try.t52 := by kernel_rfl
@[simp] theorem tsz52 : Try.t52.size = 1 := by kernel_rfl
@[simp] theorem tby52 : Try.t52.bytes = 8 := by kernel_rfl
@[simp] theorem agg52 : aggT Try.prog 52 = some false := by kernel_rfl
@[simp] theorem slot52 : slotSize Try.prog 52 = 0 := by kernel_rfl
attribute [simp] Try.underlying52
@[simp] theorem zero52 : zeroV Try.prog 52 = some .undef := by kernel_rfl
@[simp] theorem inf53 : Try.prog.info? 53 = some Try.t53 := by kernel_rfl
@[simp] theorem tsz53 : Try.t53.size = 2 := by kernel_rfl
@[simp] theorem tby53 : Try.t53.bytes = 16 := by kernel_rfl
@[simp] theorem agg53 : aggT Try.prog 53 = some true := by kernel_rfl
@[simp] theorem slot53 : slotSize Try.prog 53 = 0 := by kernel_rfl
attribute [simp] Try.underlying53
@[simp] theorem zero53 : zeroV Try.prog 53 = some (.agg [(.int .i64 0), (.int .i64 0)]) := by kernel_rfl
@[simp] theorem slots53 : slotSizes Try.prog 53 = [0, 0] := by kernel_rfl
noncomputable def F53_0 : Field := (fieldOf Try.prog 53 0).getD default
@[simp] theorem fo53_0 : fieldOf Try.prog 53 0 = some F53_0 := by kernel_rfl
@[simp] theorem ft53_0 : F53_0.type = 3 := by kernel_rfl
@[simp] theorem fx53_0 : F53_0.offset = 0 := by kernel_rfl
noncomputable def F53_1 : Field := (fieldOf Try.prog 53 1).getD default
@[simp] theorem fo53_1 : fieldOf Try.prog 53 1 = some F53_1 := by kernel_rfl
@[simp] theorem ft53_1 : F53_1.type = 3 := by kernel_rfl
@[simp] theorem fx53_1 : F53_1.offset = 1 := by kernel_rfl
@[simp] theorem inf54 : Try.prog.info? 54 = some Try.t54 := by kernel_rfl
@[simp] theorem tsz54 : Try.t54.size = 2 := by kernel_rfl
@[simp] theorem tby54 : Try.t54.bytes = 16 := by kernel_rfl
@[simp] theorem agg54 : aggT Try.prog 54 = some true := by kernel_rfl
@[simp] theorem slot54 : slotSize Try.prog 54 = 0 := by kernel_rfl
attribute [simp] Try.underlying54
@[simp] theorem zero54 : zeroV Try.prog 54 = some (.agg [(.int .i64 0), (.int .i64 0)]) := by kernel_rfl
@[simp] theorem slots54 : slotSizes Try.prog 54 = [0, 0] := by kernel_rfl
noncomputable def F54_0 : Field := (fieldOf Try.prog 54 0).getD default
@[simp] theorem fo54_0 : fieldOf Try.prog 54 0 = some F54_0 := by kernel_rfl
@[simp] theorem ft54_0 : F54_0.type = 3 := by kernel_rfl
@[simp] theorem fx54_0 : F54_0.offset = 0 := by kernel_rfl
noncomputable def F54_1 : Field := (fieldOf Try.prog 54 1).getD default
@[simp] theorem fo54_1 : fieldOf Try.prog 54 1 = some F54_1 := by kernel_rfl
@[simp] theorem ft54_1 : F54_1.type = 3 := by kernel_rfl
@[simp] theorem fx54_1 : F54_1.offset = 1 := by kernel_rfl
@[simp] theorem inf56 : Try.prog.info? 56 = some Try.t56 := by kernel_rfl
@[simp] theorem tsz56 : Try.t56.size = 1 := by kernel_rfl
@[simp] theorem tby56 : Try.t56.bytes = 8 := by kernel_rfl
@[simp] theorem agg56 : aggT Try.prog 56 = some false := by kernel_rfl
@[simp] theorem slot56 : slotSize Try.prog 56 = 0 := by kernel_rfl
attribute [simp] Try.underlying56
@[simp] theorem zero56 : zeroV Try.prog 56 = some .undef := by kernel_rfl
@[simp] theorem inf57 : Try.prog.info? 57 = some Try.t57 := by kernel_rfl
@[simp] theorem tsz57 : Try.t57.size = 1 := by kernel_rfl
@[simp] theorem tby57 : Try.t57.bytes = 24 := by kernel_rfl
@[simp] theorem agg57 : aggT Try.prog 57 = some false := by kernel_rfl
@[simp] theorem slot57 : slotSize Try.prog 57 = 2 := by kernel_rfl
attribute [simp] Try.underlying57
@[simp] theorem zero57 : zeroV Try.prog 57 = some .nils := by kernel_rfl
@[simp] theorem elem57 : elemT Try.prog 57 = some Try.t38 := by kernel_rfl
@[simp] theorem inf59 : Try.prog.info? 59 = some Try.t59 := by kernel_rfl
@[simp] theorem tsz59 : Try.t59.size = 1 := by kernel_rfl
@[simp] theorem tby59 : Try.t59.bytes = 8 := by kernel_rfl
@[simp] theorem agg59 : aggT Try.prog 59 = some false := by kernel_rfl
@[simp] theorem slot59 : slotSize Try.prog 59 = 0 := by kernel_rfl
attribute [simp] Try.underlying59
@[simp] theorem zero59 : zeroV Try.prog 59 = some .undef := by kernel_rfl
@[simp] theorem inf61 : Try.prog.info? 61 = some Try.t61 := by kernel_rfl
@[simp] theorem tsz61 : Try.t61.size = 1 := by kernel_rfl
@[simp] theorem tby61 : Try.t61.bytes = 8 := by kernel_rfl
@[simp] theorem agg61 : aggT Try.prog 61 = some false := by kernel_rfl
@[simp] theorem slot61 : slotSize Try.prog 61 = 0 := by kernel_rfl
attribute [simp] Try.underlying61
@[simp] theorem zero61 : zeroV Try.prog 61 = some .undef := by kernel_rfl
@[simp] theorem inf62 : Try.prog.info? 62 = some Try.t62 := by kernel_rfl
@[simp] theorem tsz62 : Try.t62.size = 1 := by kernel_rfl
@[simp] theorem tby62 : Try.t62.bytes = 8 := by kernel_rfl
@[simp] theorem agg62 : aggT Try.prog 62 = some false := by kernel_rfl
@[simp] theorem slot62 : slotSize Try.prog 62 = 0 := by kernel_rfl
attribute [simp] Try.underlying62
@[simp] theorem zero62 : zeroV Try.prog 62 = some .undef := by kernel_rfl
@[simp] theorem inf63 : Try.prog.info? 63 = some Try.t63 := by kernel_rfl
@[simp] theorem tsz63 : Try.t63.size = 1 := by kernel_rfl
@[simp] theorem tby63 : Try.t63.bytes = 8 := by kernel_rfl
@[simp] theorem agg63 : aggT Try.prog 63 = some false := by kernel_rfl
@[simp] theorem slot63 : slotSize Try.prog 63 = 0 := by kernel_rfl
attribute [simp] Try.underlying63
@[simp] theorem zero63 : zeroV Try.prog 63 = some .undef := by kernel_rfl
@[simp] theorem inf64 : Try.prog.info? 64 = some Try.t64 := by kernel_rfl
@[simp] theorem tsz64 : Try.t64.size = 1 := by kernel_rfl
@[simp] theorem tby64 : Try.t64.bytes = 8 := by kernel_rfl
@[simp] theorem agg64 : aggT Try.prog 64 = some false := by kernel_rfl
@[simp] theorem slot64 : slotSize Try.prog 64 = 0 := by kernel_rfl
attribute [simp] Try.underlying64
@[simp] theorem zero64 : zeroV Try.prog 64 = some .undef := by kernel_rfl
@[simp] theorem inf65 : Try.prog.info? 65 = some Try.t65 := by kernel_rfl
@[simp] theorem tsz65 : Try.t65.size = 1 := by kernel_rfl
@[simp] theorem tby65 : Try.t65.bytes = 8 := by kernel_rfl
@[simp] theorem agg65 : aggT Try.prog 65 = some false := by kernel_rfl
@[simp] theorem slot65 : slotSize Try.prog 65 = 0 := by kernel_rfl
attribute [simp] Try.underlying65
@[simp] theorem zero65 : zeroV Try.prog 65 = some .undef := by kernel_rfl
@[simp] theorem inf66 : Try.prog.info? 66 = some Try.t66 := by kernel_rfl
@[simp] theorem tsz66 : Try.t66.size = 1 := by kernel_rfl
@[simp] theorem tby66 : Try.t66.bytes = 8 := by kernel_rfl
@[simp] theorem agg66 : aggT Try.prog 66 = some false := by kernel_rfl
@[simp] theorem slot66 : slotSize Try.prog 66 = 0 := by kernel_rfl
attribute [simp] Try.underlying66
@[simp] theorem zero66 : zeroV Try.prog 66 = some .undef := by kernel_rfl
@[simp] theorem inf67 : Try.prog.info? 67 = some Try.t67 := by kernel_rfl
@[simp] theorem tsz67 : Try.t67.size = 1 := by kernel_rfl
@[simp] theorem tby67 : Try.t67.bytes = 8 := by kernel_rfl
@[simp] theorem agg67 : aggT Try.prog 67 = some false := by kernel_rfl
@[simp] theorem slot67 : slotSize Try.prog 67 = 0 := by kernel_rfl
attribute [simp] Try.underlying67
@[simp] theorem zero67 : zeroV Try.prog 67 = some .undef := by kernel_rfl
@[simp] theorem inf68 : Try.prog.info? 68 = some Try.t68 := by kernel_rfl
@[simp] theorem tsz68 : Try.t68.size = 1 := by kernel_rfl
@[simp] theorem tby68 : Try.t68.bytes = 8 := by kernel_rfl
@[simp] theorem agg68 : aggT Try.prog 68 = some false := by kernel_rfl
@[simp] theorem slot68 : slotSize Try.prog 68 = 0 := by kernel_rfl
attribute [simp] Try.underlying68
@[simp] theorem zero68 : zeroV Try.prog 68 = some .undef := by kernel_rfl
@[simp] theorem inf69 : Try.prog.info? 69 = some Try.t69 := by kernel_rfl
@[simp] theorem tsz69 : Try.t69.size = 1 := by kernel_rfl
@[simp] theorem tby69 : Try.t69.bytes = 24 := by kernel_rfl
@[simp] theorem agg69 : aggT Try.prog 69 = some false := by kernel_rfl
@[simp] theorem slot69 : slotSize Try.prog 69 = 1 := by kernel_rfl
attribute [simp] Try.underlying69
@[simp] theorem zero69 : zeroV Try.prog 69 = some .nils := by kernel_rfl
@[simp] theorem elem69 : elemT Try.prog 69 = some Try.t5 := by kernel_rfl
@[simp] theorem inf71 : Try.prog.info? 71 = some Try.t71 := by kernel_rfl
@[simp] theorem tsz71 : Try.t71.size = 1 := by kernel_rfl
@[simp] theorem tby71 : Try.t71.bytes = 8 := by kernel_rfl
@[simp] theorem agg71 : aggT Try.prog 71 = some false := by kernel_rfl
@[simp] theorem slot71 : slotSize Try.prog 71 = 0 := by kernel_rfl
attribute [simp] Try.underlying71
@[simp] theorem zero71 : zeroV Try.prog 71 = some .undef := by kernel_rfl
@[simp] theorem inf73 : Try.prog.info? 73 = some Try.t73 := by kernel_rfl
@[simp] theorem tsz73 : Try.t73.size = 1 := by kernel_rfl
@[simp] theorem tby73 : Try.t73.bytes = 8 := by kernel_rfl
@[simp] theorem agg73 : aggT Try.prog 73 = some false := by kernel_rfl
@[simp] theorem slot73 : slotSize Try.prog 73 = 0 := by kernel_rfl
attribute [simp] Try.underlying73
@[simp] theorem zero73 : zeroV Try.prog 73 = some .undef := by kernel_rfl
@[simp] theorem inf75 : Try.prog.info? 75 = some Try.t75 := by kernel_rfl
@[simp] theorem tsz75 : Try.t75.size = 1 := by kernel_rfl
@[simp] theorem tby75 : Try.t75.bytes = 8 := by kernel_rfl
@[simp] theorem agg75 : aggT Try.prog 75 = some false := by kernel_rfl
@[simp] theorem slot75 : slotSize Try.prog 75 = 0 := by kernel_rfl
attribute [simp] Try.underlying75
@[simp] theorem zero75 : zeroV Try.prog 75 = some .undef := by kernel_rfl
@[simp] theorem inf77 : Try.prog.info? 77 = some Try.t77 := by kernel_rfl
@[simp] theorem tsz77 : Try.t77.size = 1 := by kernel_rfl
@[simp] theorem tby77 : Try.t77.bytes = 8 := by kernel_rfl
@[simp] theorem agg77 : aggT Try.prog 77 = some false := by kernel_rfl
@[simp] theorem slot77 : slotSize Try.prog 77 = 0 := by kernel_rfl
attribute [simp] Try.underlying77
@[simp] theorem zero77 : zeroV Try.prog 77 = some .undef := by kernel_rfl
@[simp] theorem inf78 : Try.prog.info? 78 = some Try.t78 := by kernel_rfl
@[simp] theorem tsz78 : Try.t78.size = 1 := by kernel_rfl
@[simp] theorem tby78 : Try.t78.bytes = 8 := by kernel_rfl
@[simp] theorem agg78 : aggT Try.prog 78 = some false := by kernel_rfl
@[simp] theorem slot78 : slotSize Try.prog 78 = 0 := by kernel_rfl
attribute [simp] Try.underlying78
@[simp] theorem zero78 : zeroV Try.prog 78 = some .undef := by kernel_rfl
@[simp] theorem inf80 : Try.prog.info? 80 = some Try.t80 := by kernel_rfl
@[simp] theorem tsz80 : Try.t80.size = 1 := by kernel_rfl
@[simp] theorem tby80 : Try.t80.bytes = 8 := by kernel_rfl
@[simp] theorem agg80 : aggT Try.prog 80 = some false := by kernel_rfl
@[simp] theorem slot80 : slotSize Try.prog 80 = 0 := by kernel_rfl
attribute [simp] Try.underlying80
@[simp] theorem zero80 : zeroV Try.prog 80 = some .undef := by kernel_rfl
@[simp] theorem inf81 : Try.prog.info? 81 = some Try.t81 := by kernel_rfl
@[simp] theorem tsz81 : Try.t81.size = 1 := by kernel_rfl
@[simp] theorem tby81 : Try.t81.bytes = 8 := by kernel_rfl
@[simp] theorem agg81 : aggT Try.prog 81 = some false := by kernel_rfl
@[simp] theorem slot81 : slotSize Try.prog 81 = 0 := by kernel_rfl
attribute [simp] Try.underlying81
@[simp] theorem zero81 : zeroV Try.prog 81 = some .undef := by kernel_rfl
@[simp] theorem inf82 : Try.prog.info? 82 = some Try.t82 := by kernel_rfl
@[simp] theorem tsz82 : Try.t82.size = 1 := by kernel_rfl
@[simp] theorem tby82 : Try.t82.bytes = 8 := by kernel_rfl
@[simp] theorem agg82 : aggT Try.prog 82 = some false := by kernel_rfl
@[simp] theorem slot82 : slotSize Try.prog 82 = 0 := by kernel_rfl
attribute [simp] Try.underlying82
@[simp] theorem zero82 : zeroV Try.prog 82 = some (.int .u64 0) := by kernel_rfl
@[simp] theorem inf83 : Try.prog.info? 83 = some Try.t83 := by kernel_rfl
@[simp] theorem tsz83 : Try.t83.size = 1 := by kernel_rfl
@[simp] theorem tby83 : Try.t83.bytes = 8 := by kernel_rfl
@[simp] theorem agg83 : aggT Try.prog 83 = some false := by kernel_rfl
@[simp] theorem slot83 : slotSize Try.prog 83 = 0 := by kernel_rfl
attribute [simp] Try.underlying83
@[simp] theorem zero83 : zeroV Try.prog 83 = some .undef := by kernel_rfl
@[simp] theorem inf84 : Try.prog.info? 84 = some Try.t84 := by kernel_rfl
@[simp] theorem tsz84 : Try.t84.size = 1 := by kernel_rfl
@[simp] theorem tby84 : Try.t84.bytes = 8 := by kernel_rfl
@[simp] theorem agg84 : aggT Try.prog 84 = some false := by kernel_rfl
@[simp] theorem slot84 : slotSize Try.prog 84 = 0 := by kernel_rfl
attribute [simp] Try.underlying84
@[simp] theorem zero84 : zeroV Try.prog 84 = some .undef := by kernel_rfl
@[simp] theorem inf86 : Try.prog.info? 86 = some Try.t86 := by kernel_rfl
@[simp] theorem tsz86 : Try.t86.size = 1 := by kernel_rfl
@[simp] theorem tby86 : Try.t86.bytes = 8 := by kernel_rfl
@[simp] theorem agg86 : aggT Try.prog 86 = some false := by kernel_rfl
@[simp] theorem slot86 : slotSize Try.prog 86 = 0 := by kernel_rfl
attribute [simp] Try.underlying86
@[simp] theorem zero86 : zeroV Try.prog 86 = some .undef := by kernel_rfl
@[simp] theorem inf88 : Try.prog.info? 88 = some Try.t88 := by kernel_rfl
@[simp] theorem tsz88 : Try.t88.size = 1 := by kernel_rfl
@[simp] theorem tby88 : Try.t88.bytes = 8 := by kernel_rfl
@[simp] theorem agg88 : aggT Try.prog 88 = some false := by kernel_rfl
@[simp] theorem slot88 : slotSize Try.prog 88 = 0 := by kernel_rfl
attribute [simp] Try.underlying88
@[simp] theorem zero88 : zeroV Try.prog 88 = some .undef := by kernel_rfl
@[simp] theorem inf89 : Try.prog.info? 89 = some Try.t89 := by kernel_rfl
@[simp] theorem tsz89 : Try.t89.size = 1 := by kernel_rfl
@[simp] theorem tby89 : Try.t89.bytes = 8 := by kernel_rfl
@[simp] theorem agg89 : aggT Try.prog 89 = some false := by kernel_rfl
@[simp] theorem slot89 : slotSize Try.prog 89 = 0 := by kernel_rfl
attribute [simp] Try.underlying89
@[simp] theorem zero89 : zeroV Try.prog 89 = some .undef := by kernel_rfl
@[simp] theorem inf90 : Try.prog.info? 90 = some Try.t90 := by kernel_rfl
@[simp] theorem tsz90 : Try.t90.size = 1 := by kernel_rfl
@[simp] theorem tby90 : Try.t90.bytes = 8 := by kernel_rfl
@[simp] theorem agg90 : aggT Try.prog 90 = some false := by kernel_rfl
@[simp] theorem slot90 : slotSize Try.prog 90 = 0 := by kernel_rfl
attribute [simp] Try.underlying90
@[simp] theorem zero90 : zeroV Try.prog 90 = some .undef := by kernel_rfl
@[simp] theorem inf91 : Try.prog.info? 91 = some Try.t91 := by kernel_rfl
@[simp] theorem tsz91 : Try.t91.size = 1 := by kernel_rfl
@[simp] theorem tby91 : Try.t91.bytes = 8 := by kernel_rfl
@[simp] theorem agg91 : aggT Try.prog 91 = some false := by kernel_rfl
@[simp] theorem slot91 : slotSize Try.prog 91 = 0 := by kernel_rfl
attribute [simp] Try.underlying91
@[simp] theorem zero91 : zeroV Try.prog 91 = some .undef := by kernel_rfl
@[simp] theorem inf92 : Try.prog.info? 92 = some Try.t92 := by kernel_rfl
@[simp] theorem tsz92 : Try.t92.size = 1 := by kernel_rfl
@[simp] theorem tby92 : Try.t92.bytes = 8 := by kernel_rfl
@[simp] theorem agg92 : aggT Try.prog 92 = some false := by kernel_rfl
@[simp] theorem slot92 : slotSize Try.prog 92 = 0 := by kernel_rfl
attribute [simp] Try.underlying92
@[simp] theorem zero92 : zeroV Try.prog 92 = some .nilm := by kernel_rfl
@[simp] theorem inf93 : Try.prog.info? 93 = some Try.t93 := by kernel_rfl
@[simp] theorem tsz93 : Try.t93.size = 1 := by kernel_rfl
@[simp] theorem tby93 : Try.t93.bytes = 8 := by kernel_rfl
@[simp] theorem agg93 : aggT Try.prog 93 = some false := by kernel_rfl
@[simp] theorem slot93 : slotSize Try.prog 93 = 0 := by kernel_rfl
attribute [simp] Try.underlying93
@[simp] theorem zero93 : zeroV Try.prog 93 = some .undef := by kernel_rfl
@[simp] theorem inf94 : Try.prog.info? 94 = some Try.t94 := by kernel_rfl
@[simp] theorem tsz94 : Try.t94.size = 1 := by kernel_rfl
@[simp] theorem tby94 : Try.t94.bytes = 8 := by kernel_rfl
@[simp] theorem agg94 : aggT Try.prog 94 = some false := by kernel_rfl
@[simp] theorem slot94 : slotSize Try.prog 94 = 0 := by kernel_rfl
attribute [simp] Try.underlying94
@[simp] theorem zero94 : zeroV Try.prog 94 = some .undef := by kernel_rfl
@[simp] theorem inf95 : Try.prog.info? 95 = some Try.t95 := by kernel_rfl
@[simp] theorem tsz95 : Try.t95.size = 1 := by kernel_rfl
@[simp] theorem tby95 : Try.t95.bytes = 8 := by kernel_rfl
@[simp] theorem agg95 : aggT Try.prog 95 = some false := by kernel_rfl
@[simp] theorem slot95 : slotSize Try.prog 95 = 0 := by kernel_rfl
attribute [simp] Try.underlying95
@[simp] theorem zero95 : zeroV Try.prog 95 = some .undef := by kernel_rfl
@[simp] theorem inf96 : Try.prog.info? 96 = some Try.t96 := by kernel_rfl
@[simp] theorem tsz96 : Try.t96.size = 1 := by kernel_rfl
@[simp] theorem tby96 : Try.t96.bytes = 8 := by kernel_rfl
@[simp] theorem agg96 : aggT Try.prog 96 = some false := by kernel_rfl
@[simp] theorem slot96 : slotSize Try.prog 96 = 0 := by kernel_rfl
attribute [simp] Try.underlying96
@[simp] theorem zero96 : zeroV Try.prog 96 = some .nilm := by kernel_rfl
@[simp] theorem inf98 : Try.prog.info? 98 = some Try.t98 := by kernel_rfl
@[simp] theorem tsz98 : Try.t98.size = 1 := by kernel_rfl
@[simp] theorem tby98 : Try.t98.bytes = 8 := by kernel_rfl
@[simp] theorem agg98 : aggT Try.prog 98 = some false := by kernel_rfl
@[simp] theorem slot98 : slotSize Try.prog 98 = 0 := by kernel_rfl
attribute [simp] Try.underlying98
@[simp] theorem zero98 : zeroV Try.prog 98 = some .undef := by kernel_rfl
@[simp] theorem inf99 : Try.prog.info? 99 = some Try.t99 := by kernel_rfl
@[simp] theorem tsz99 : Try.t99.size = 1 := by kernel_rfl
@[simp] theorem tby99 : Try.t99.bytes = 8 := by kernel_rfl
@[simp] theorem agg99 : aggT Try.prog 99 = some false := by kernel_rfl
@[simp] theorem slot99 : slotSize Try.prog 99 = 0 := by kernel_rfl
attribute [simp] Try.underlying99
@[simp] theorem zero99 : zeroV Try.prog 99 = some .undef := by kernel_rfl
@[simp] theorem inf100 : Try.prog.info? 100 = some Try.t100 := by kernel_rfl
@[simp] theorem tsz100 : Try.t100.size = 1 := by kernel_rfl
@[simp] theorem tby100 : Try.t100.bytes = 8 := by kernel_rfl
@[simp] theorem agg100 : aggT Try.prog 100 = some false := by kernel_rfl
@[simp] theorem slot100 : slotSize Try.prog 100 = 0 := by kernel_rfl
attribute [simp] Try.underlying100
@[simp] theorem zero100 : zeroV Try.prog 100 = some .undef := by kernel_rfl
@[simp] theorem inf101 : Try.prog.info? 101 = some Try.t101 := by kernel_rfl
@[simp] theorem tsz101 : Try.t101.size = 1 := by kernel_rfl
@[simp] theorem tby101 : Try.t101.bytes = 8 := by kernel_rfl
@[simp] theorem agg101 : aggT Try.prog 101 = some false := by kernel_rfl
@[simp] theorem slot101 : slotSize Try.prog 101 = 0 := by kernel_rfl
attribute [simp] Try.underlying101
@[simp] theorem zero101 : zeroV Try.prog 101 = some .undef := by kernel_rfl
@[simp] theorem inf102 : Try.prog.info? 102 = some Try.t102 := by kernel_rfl
@[simp] theorem tsz102 : Try.t102.size = 1 := by kernel_rfl
@[simp] theorem tby102 : Try.t102.bytes = 8 := by kernel_rfl
@[simp] theorem agg102 : aggT Try.prog 102 = some false := by kernel_rfl
@[simp] theorem slot102 : slotSize Try.prog 102 = 0 := by kernel_rfl
attribute [simp] Try.underlying102
@[simp] theorem zero102 : zeroV Try.prog 102 = some .undef := by kernel_rfl
@[simp] theorem inf103 : Try.prog.info? 103 = some Try.t103 := by kernel_rfl
@[simp] theorem tsz103 : Try.t103.size = 1 := by kernel_rfl
@[simp] theorem tby103 : Try.t103.bytes = 8 := by kernel_rfl
@[simp] theorem agg103 : aggT Try.prog 103 = some false := by kernel_rfl
@[simp] theorem slot103 : slotSize Try.prog 103 = 0 := by kernel_rfl
attribute [simp] Try.underlying103
@[simp] theorem zero103 : zeroV Try.prog 103 = some .undef := by kernel_rfl
@[simp] theorem inf104 : Try.prog.info? 104 = some Try.t104 := by kernel_rfl
@[simp] theorem tsz104 : Try.t104.size = 1 := by kernel_rfl
@[simp] theorem tby104 : Try.t104.bytes = 8 := by kernel_rfl
@[simp] theorem agg104 : aggT Try.prog 104 = some false := by kernel_rfl
@[simp] theorem slot104 : slotSize Try.prog 104 = 0 := by kernel_rfl
attribute [simp] Try.underlying104
@[simp] theorem zero104 : zeroV Try.prog 104 = some .undef := by kernel_rfl
@[simp] theorem inf106 : Try.prog.info? 106 = some Try.t106 := by kernel_rfl
@[simp] theorem tsz106 : Try.t106.size = 1 := by kernel_rfl
@[simp] theorem tby106 : Try.t106.bytes = 8 := by kernel_rfl
@[simp] theorem agg106 : aggT Try.prog 106 = some false := by kernel_rfl
@[simp] theorem slot106 : slotSize Try.prog 106 = 0 := by kernel_rfl
attribute [simp] Try.underlying106
@[simp] theorem zero106 : zeroV Try.prog 106 = some .undef := by kernel_rfl
@[simp] theorem inf107 : Try.prog.info? 107 = some Try.t107 := by kernel_rfl
@[simp] theorem tsz107 : Try.t107.size = 1 := by kernel_rfl
@[simp] theorem tby107 : Try.t107.bytes = 8 := by kernel_rfl
@[simp] theorem agg107 : aggT Try.prog 107 = some false := by kernel_rfl
@[simp] theorem slot107 : slotSize Try.prog 107 = 0 := by kernel_rfl
attribute [simp] Try.underlying107
@[simp] theorem zero107 : zeroV Try.prog 107 = some .undef := by kernel_rfl
@[simp] theorem inf108 : Try.prog.info? 108 = some Try.t108 := by kernel_rfl
@[simp] theorem tsz108 : Try.t108.size = 1 := by kernel_rfl
@[simp] theorem tby108 : Try.t108.bytes = 8 := by kernel_rfl
@[simp] theorem agg108 : aggT Try.prog 108 = some false := by kernel_rfl
@[simp] theorem slot108 : slotSize Try.prog 108 = 0 := by kernel_rfl
attribute [simp] Try.underlying108
@[simp] theorem zero108 : zeroV Try.prog 108 = some .undef := by kernel_rfl
@[simp] theorem inf109 : Try.prog.info? 109 = some Try.t109 := by kernel_rfl
@[simp] theorem tsz109 : Try.t109.size = 2 := by kernel_rfl
@[simp] theorem tby109 : Try.t109.bytes = 32 := by kernel_rfl
@[simp] theorem agg109 : aggT Try.prog 109 = some true := by kernel_rfl
@[simp] theorem slot109 : slotSize Try.prog 109 = 0 := by kernel_rfl
attribute [simp] Try.underlying109
@[simp] theorem zero109 : zeroV Try.prog 109 = some (.agg [.undef, .nils]) := by kernel_rfl
@[simp] theorem slots109 : slotSizes Try.prog 109 = [0, 1] := by kernel_rfl
noncomputable def F109_0 : Field := (fieldOf Try.prog 109 0).getD default
@[simp] theorem fo109_0 : fieldOf Try.prog 109 0 = some F109_0 := by kernel_rfl
@[simp] theorem ft109_0 : F109_0.type = 108 := by kernel_rfl
@[simp] theorem fx109_0 : F109_0.offset = 0 := by kernel_rfl
noncomputable def F109_1 : Field := (fieldOf Try.prog 109 1).getD default
@[simp] theorem fo109_1 : fieldOf Try.prog 109 1 = some F109_1 := by kernel_rfl
@[simp] theorem ft109_1 : F109_1.type = 69 := by kernel_rfl
@[simp] theorem fx109_1 : F109_1.offset = 1 := by kernel_rfl
@[simp] theorem inf110 : Try.prog.info? 110 = some Try.t110 := by kernel_rfl
@[simp] theorem tsz110 : Try.t110.size = 2 := by kernel_rfl
@[simp] theorem tby110 : Try.t110.bytes = 32 := by kernel_rfl
@[simp] theorem agg110 : aggT Try.prog 110 = some true := by kernel_rfl
@[simp] theorem slot110 : slotSize Try.prog 110 = 0 := by kernel_rfl
attribute [simp] Try.underlying110
@[simp] theorem zero110 : zeroV Try.prog 110 = some (.agg [.undef, .nils]) := by kernel_rfl
@[simp] theorem slots110 : slotSizes Try.prog 110 = [0, 1] := by kernel_rfl
noncomputable def F110_0 : Field := (fieldOf Try.prog 110 0).getD default
@[simp] theorem fo110_0 : fieldOf Try.prog 110 0 = some F110_0 := by kernel_rfl
@[simp] theorem ft110_0 : F110_0.type = 108 := by kernel_rfl
@[simp] theorem fx110_0 : F110_0.offset = 0 := by kernel_rfl
noncomputable def F110_1 : Field := (fieldOf Try.prog 110 1).getD default
@[simp] theorem fo110_1 : fieldOf Try.prog 110 1 = some F110_1 := by kernel_rfl
@[simp] theorem ft110_1 : F110_1.type = 69 := by kernel_rfl
@[simp] theorem fx110_1 : F110_1.offset = 1 := by kernel_rfl
@[simp] theorem inf111 : Try.prog.info? 111 = some Try.t111 := by kernel_rfl
@[simp] theorem tsz111 : Try.t111.size = 1 := by kernel_rfl
@[simp] theorem tby111 : Try.t111.bytes = 8 := by kernel_rfl
@[simp] theorem agg111 : aggT Try.prog 111 = some false := by kernel_rfl
@[simp] theorem slot111 : slotSize Try.prog 111 = 0 := by kernel_rfl
attribute [simp] Try.underlying111
@[simp] theorem zero111 : zeroV Try.prog 111 = some .undef := by kernel_rfl
@[simp] theorem inf115 : Try.prog.info? 115 = some Try.t115 := by kernel_rfl
@[simp] theorem tsz115 : Try.t115.size = 1 := by kernel_rfl
@[simp] theorem tby115 : Try.t115.bytes = 8 := by kernel_rfl
@[simp] theorem agg115 : aggT Try.prog 115 = some false := by kernel_rfl
@[simp] theorem slot115 : slotSize Try.prog 115 = 0 := by kernel_rfl
attribute [simp] Try.underlying115
@[simp] theorem zero115 : zeroV Try.prog 115 = some .undef := by kernel_rfl
@[simp] theorem inf116 : Try.prog.info? 116 = some Try.t116 := by kernel_rfl
@[simp] theorem tsz116 : Try.t116.size = 1 := by kernel_rfl
@[simp] theorem tby116 : Try.t116.bytes = 8 := by kernel_rfl
@[simp] theorem agg116 : aggT Try.prog 116 = some false := by kernel_rfl
@[simp] theorem slot116 : slotSize Try.prog 116 = 0 := by kernel_rfl
attribute [simp] Try.underlying116
@[simp] theorem zero116 : zeroV Try.prog 116 = some .undef := by kernel_rfl
@[simp] theorem inf117 : Try.prog.info? 117 = some Try.t117 := by kernel_rfl
@[simp] theorem tsz117 : Try.t117.size = 1 := by kernel_rfl
@[simp] theorem tby117 : Try.t117.bytes = 8 := by kernel_rfl
@[simp] theorem agg117 : aggT Try.prog 117 = some false := by kernel_rfl
@[simp] theorem slot117 : slotSize Try.prog 117 = 0 := by kernel_rfl
attribute [simp] Try.underlying117
@[simp] theorem zero117 : zeroV Try.prog 117 = some .undef := by kernel_rfl
@[simp] theorem inf118 : Try.prog.info? 118 = some Try.t118 := by kernel_rfl
@[simp] theorem tsz118 : Try.t118.size = 1 := by kernel_rfl
@[simp] theorem tby118 : Try.t118.bytes = 8 := by kernel_rfl
@[simp] theorem agg118 : aggT Try.prog 118 = some false := by kernel_rfl
@[simp] theorem slot118 : slotSize Try.prog 118 = 0 := by kernel_rfl
attribute [simp] Try.underlying118
@[simp] theorem zero118 : zeroV Try.prog 118 = some .undef := by kernel_rfl
@[simp] theorem inf119 : Try.prog.info? 119 = some Try.t119 := by kernel_rfl
@[simp] theorem tsz119 : Try.t119.size = 1 := by kernel_rfl
@[simp] theorem tby119 : Try.t119.bytes = 8 := by kernel_rfl
@[simp] theorem agg119 : aggT Try.prog 119 = some false := by kernel_rfl
@[simp] theorem slot119 : slotSize Try.prog 119 = 0 := by kernel_rfl
attribute [simp] Try.underlying119
@[simp] theorem zero119 : zeroV Try.prog 119 = some .undef := by kernel_rfl
@[simp] theorem inf120 : Try.prog.info? 120 = some Try.t120 := by kernel_rfl
@[simp] theorem tsz120 : Try.t120.size = 1 := by kernel_rfl
@[simp] theorem tby120 : Try.t120.bytes = 4 := by kernel_rfl
@[simp] theorem agg120 : aggT Try.prog 120 = some false := by kernel_rfl
@[simp] theorem slot120 : slotSize Try.prog 120 = 0 := by kernel_rfl
attribute [simp] Try.underlying120
@[simp] theorem zero120 : zeroV Try.prog 120 = some (.int .u32 0) := by kernel_rfl
@[simp] theorem inf122 : Try.prog.info? 122 = some Try.t122 := by kernel_rfl
@[simp] theorem tsz122 : Try.t122.size = 1 := by kernel_rfl
@[simp] theorem tby122 : Try.t122.bytes = 8 := by kernel_rfl
@[simp] theorem agg122 : aggT Try.prog 122 = some false := by kernel_rfl
@[simp] theorem slot122 : slotSize Try.prog 122 = 0 := by kernel_rfl
attribute [simp] Try.underlying122
@[simp] theorem zero122 : zeroV Try.prog 122 = some .undef := by kernel_rfl
@[simp] theorem inf123 : Try.prog.info? 123 = some Try.t123 := by kernel_rfl
@[simp] theorem tsz123 : Try.t123.size = 1 := by kernel_rfl
@[simp] theorem tby123 : Try.t123.bytes = 8 := by kernel_rfl
@[simp] theorem agg123 : aggT Try.prog 123 = some false := by kernel_rfl
@[simp] theorem slot123 : slotSize Try.prog 123 = 0 := by kernel_rfl
attribute [simp] Try.underlying123
@[simp] theorem zero123 : zeroV Try.prog 123 = some (.int .u64 0) := by kernel_rfl
@[simp] theorem inf125 : Try.prog.info? 125 = some Try.t125 := by kernel_rfl
@[simp] theorem tsz125 : Try.t125.size = 1 := by kernel_rfl
@[simp] theorem tby125 : Try.t125.bytes = 8 := by kernel_rfl
@[simp] theorem agg125 : aggT Try.prog 125 = some false := by kernel_rfl
@[simp] theorem slot125 : slotSize Try.prog 125 = 0 := by kernel_rfl
attribute [simp] Try.underlying125
@[simp] theorem zero125 : zeroV Try.prog 125 = some .undef := by kernel_rfl
@[simp] theorem inf126 : Try.prog.info? 126 = some Try.t126 := by kernel_rfl
@[simp] theorem tsz126 : Try.t126.size = 1 := by kernel_rfl
@[simp] theorem tby126 : Try.t126.bytes = 8 := by kernel_rfl
@[simp] theorem agg126 : aggT Try.prog 126 = some false := by kernel_rfl
@[simp] theorem slot126 : slotSize Try.prog 126 = 0 := by kernel_rfl
attribute [simp] Try.underlying126
@[simp] theorem zero126 : zeroV Try.prog 126 = some .undef := by kernel_rfl
@[simp] theorem inf127 : Try.prog.info? 127 = some Try.t127 := by kernel_rfl
@[simp] theorem tsz127 : Try.t127.size = 1 := by kernel_rfl
@[simp] theorem tby127 : Try.t127.bytes = 8 := by kernel_rfl
@[simp] theorem agg127 : aggT Try.prog 127 = some false := by kernel_rfl
@[simp] theorem slot127 : slotSize Try.prog 127 = 0 := by kernel_rfl
attribute [simp] Try.underlying127
@[simp] theorem zero127 : zeroV Try.prog 127 = some .undef := by kernel_rfl
@[simp] theorem inf128 : Try.prog.info? 128 = some Try.t128 := by kernel_rfl
@[simp] theorem tsz128 : Try.t128.size = 1 := by kernel_rfl
@[simp] theorem tby128 : Try.t128.bytes = 8 := by kernel_rfl
@[simp] theorem agg128 : aggT Try.prog 128 = some false := by kernel_rfl
@[simp] theorem slot128 : slotSize Try.prog 128 = 0 := by kernel_rfl
attribute [simp] Try.underlying128
@[simp] theorem zero128 : zeroV Try.prog 128 = some (.int .i64 0) := by kernel_rfl
@[simp] theorem inf130 : Try.prog.info? 130 = some Try.t130 := by kernel_rfl
@[simp] theorem tsz130 : Try.t130.size = 1 := by kernel_rfl
@[simp] theorem tby130 : Try.t130.bytes = 8 := by kernel_rfl
@[simp] theorem agg130 : aggT Try.prog 130 = some false := by kernel_rfl
@[simp] theorem slot130 : slotSize Try.prog 130 = 0 := by kernel_rfl
attribute [simp] Try.underlying130
@[simp] theorem zero130 : zeroV Try.prog 130 = some .undef := by kernel_rfl
@[simp] theorem inf131 : Try.prog.info? 131 = some Try.t131 := by kernel_rfl
@[simp] theorem tsz131 : Try.t131.size = 1 := by kernel_rfl
@[simp] theorem tby131 : Try.t131.bytes = 8 := by kernel_rfl
@[simp] theorem agg131 : aggT Try.prog 131 = some false := by kernel_rfl
@[simp] theorem slot131 : slotSize Try.prog 131 = 0 := by kernel_rfl
attribute [simp] Try.underlying131
@[simp] theorem zero131 : zeroV Try.prog 131 = some .undef := by kernel_rfl
@[simp] theorem inf132 : Try.prog.info? 132 = some Try.t132 := by kernel_rfl
@[simp] theorem tsz132 : Try.t132.size = 1 := by kernel_rfl
@[simp] theorem tby132 : Try.t132.bytes = 8 := by kernel_rfl
@[simp] theorem agg132 : aggT Try.prog 132 = some false := by kernel_rfl
@[simp] theorem slot132 : slotSize Try.prog 132 = 0 := by kernel_rfl
attribute [simp] Try.underlying132
@[simp] theorem zero132 : zeroV Try.prog 132 = some .undef := by kernel_rfl
@[simp] theorem inf133 : Try.prog.info? 133 = some Try.t133 := by kernel_rfl
@[simp] theorem tsz133 : Try.t133.size = 1 := by kernel_rfl
@[simp] theorem tby133 : Try.t133.bytes = 8 := by kernel_rfl
@[simp] theorem agg133 : aggT Try.prog 133 = some false := by kernel_rfl
@[simp] theorem slot133 : slotSize Try.prog 133 = 0 := by kernel_rfl
attribute [simp] Try.underlying133
@[simp] theorem zero133 : zeroV Try.prog 133 = some .undef := by kernel_rfl
@[simp] theorem inf134 : Try.prog.info? 134 = some Try.t134 := by kernel_rfl
@[simp] theorem tsz134 : Try.t134.size = 1 := by kernel_rfl
@[simp] theorem tby134 : Try.t134.bytes = 8 := by kernel_rfl
@[simp] theorem agg134 : aggT Try.prog 134 = some false := by kernel_rfl
@[simp] theorem slot134 : slotSize Try.prog 134 = 0 := by kernel_rfl
attribute [simp] Try.underlying134
@[simp] theorem zero134 : zeroV Try.prog 134 = some .undef := by kernel_rfl
@[simp] theorem inf135 : Try.prog.info? 135 = some Try.t135 := by kernel_rfl
@[simp] theorem tsz135 : Try.t135.size = 1 := by kernel_rfl
@[simp] theorem tby135 : Try.t135.bytes = 8 := by kernel_rfl
@[simp] theorem agg135 : aggT Try.prog 135 = some false := by kernel_rfl
@[simp] theorem slot135 : slotSize Try.prog 135 = 0 := by kernel_rfl
attribute [simp] Try.underlying135
@[simp] theorem zero135 : zeroV Try.prog 135 = some .undef := by kernel_rfl
@[simp] theorem inf137 : Try.prog.info? 137 = some Try.t137 := by kernel_rfl
@[simp] theorem tsz137 : Try.t137.size = 1 := by kernel_rfl
@[simp] theorem tby137 : Try.t137.bytes = 8 := by kernel_rfl
@[simp] theorem agg137 : aggT Try.prog 137 = some false := by kernel_rfl
@[simp] theorem slot137 : slotSize Try.prog 137 = 0 := by kernel_rfl
attribute [simp] Try.underlying137
@[simp] theorem zero137 : zeroV Try.prog 137 = some .undef := by kernel_rfl
@[simp] theorem inf138 : Try.prog.info? 138 = some Try.t138 := by kernel_rfl
@[simp] theorem tsz138 : Try.t138.size = 1 := by kernel_rfl
@[simp] theorem tby138 : Try.t138.bytes = 8 := by kernel_rfl
@[simp] theorem agg138 : aggT Try.prog 138 = some false := by kernel_rfl
@[simp] theorem slot138 : slotSize Try.prog 138 = 0 := by kernel_rfl
attribute [simp] Try.underlying138
@[simp] theorem zero138 : zeroV Try.prog 138 = some .undef := by kernel_rfl
@[simp] theorem inf139 : Try.prog.info? 139 = some Try.t139 := by kernel_rfl
@[simp] theorem tsz139 : Try.t139.size = 1 := by kernel_rfl
@[simp] theorem tby139 : Try.t139.bytes = 8 := by kernel_rfl
@[simp] theorem agg139 : aggT Try.prog 139 = some false := by kernel_rfl
@[simp] theorem slot139 : slotSize Try.prog 139 = 0 := by kernel_rfl
attribute [simp] Try.underlying139
@[simp] theorem zero139 : zeroV Try.prog 139 = some (.int .u64 0) := by kernel_rfl
@[simp] theorem inf140 : Try.prog.info? 140 = some Try.t140 := by kernel_rfl
@[simp] theorem tsz140 : Try.t140.size = 1 := by kernel_rfl
@[simp] theorem tby140 : Try.t140.bytes = 8 := by kernel_rfl
@[simp] theorem agg140 : aggT Try.prog 140 = some false := by kernel_rfl
@[simp] theorem slot140 : slotSize Try.prog 140 = 0 := by kernel_rfl
attribute [simp] Try.underlying140
@[simp] theorem zero140 : zeroV Try.prog 140 = some .undef := by kernel_rfl
@[simp] theorem inf141 : Try.prog.info? 141 = some Try.t141 := by kernel_rfl
@[simp] theorem tsz141 : Try.t141.size = 1 := by kernel_rfl
@[simp] theorem tby141 : Try.t141.bytes = 8 := by kernel_rfl
@[simp] theorem agg141 : aggT Try.prog 141 = some false := by kernel_rfl
@[simp] theorem slot141 : slotSize Try.prog 141 = 0 := by kernel_rfl
attribute [simp] Try.underlying141
@[simp] theorem zero141 : zeroV Try.prog 141 = some .undef := by kernel_rfl
@[simp] theorem inf142 : Try.prog.info? 142 = some Try.t142 := by kernel_rfl
@[simp] theorem tsz142 : Try.t142.size = 1 := by kernel_rfl
@[simp] theorem tby142 : Try.t142.bytes = 8 := by kernel_rfl
@[simp] theorem agg142 : aggT Try.prog 142 = some false := by kernel_rfl
@[simp] theorem slot142 : slotSize Try.prog 142 = 0 := by kernel_rfl
attribute [simp] Try.underlying142
@[simp] theorem zero142 : zeroV Try.prog 142 = some .undef := by kernel_rfl
@[simp] theorem inf143 : Try.prog.info? 143 = some Try.t143 := by kernel_rfl
@[simp] theorem tsz143 : Try.t143.size = 1 := by kernel_rfl
@[simp] theorem tby143 : Try.t143.bytes = 8 := by kernel_rfl
@[simp] theorem agg143 : aggT Try.prog 143 = some false := by kernel_rfl
@[simp] theorem slot143 : slotSize Try.prog 143 = 0 := by kernel_rfl
attribute [simp] Try.underlying143
@[simp] theorem zero143 : zeroV Try.prog 143 = some .undef := by kernel_rfl
@[simp] theorem inf144 : Try.prog.info? 144 = some Try.t144 := by kernel_rfl
@[simp] theorem tsz144 : Try.t144.size = 1 := by kernel_rfl
@[simp] theorem tby144 : Try.t144.bytes = 8 := by kernel_rfl
@[simp] theorem agg144 : aggT Try.prog 144 = some false := by kernel_rfl
@[simp] theorem slot144 : slotSize Try.prog 144 = 0 := by kernel_rfl
attribute [simp] Try.underlying144
@[simp] theorem zero144 : zeroV Try.prog 144 = some .undef := by kernel_rfl
@[simp] theorem inf145 : Try.prog.info? 145 = some Try.t145 := by kernel_rfl
@[simp] theorem tsz145 : Try.t145.size = 1 := by kernel_rfl
@[simp] theorem tby145 : Try.t145.bytes = 8 := by kernel_rfl
@[simp] theorem agg145 : aggT Try.prog 145 = some false := by kernel_rfl
@[simp] theorem slot145 : slotSize Try.prog 145 = 0 := by kernel_rfl
attribute [simp] Try.underlying145
@[simp] theorem zero145 : zeroV Try.prog 145 = some .undef := by kernel_rfl
@[simp] theorem inf147 : Try.prog.info? 147 = some Try.t147 := by kernel_rfl
@[simp] theorem tsz147 : Try.t147.size = 1 := by kernel_rfl
@[simp] theorem tby147 : Try.t147.bytes = 8 := by kernel_rfl
@[simp] theorem agg147 : aggT Try.prog 147 = some false := by kernel_rfl
@[simp] theorem slot147 : slotSize Try.prog 147 = 0 := by kernel_rfl
attribute [simp] Try.underlying147
@[simp] theorem zero147 : zeroV Try.prog 147 = some .undef := by kernel_rfl
@[simp] theorem inf148 : Try.prog.info? 148 = some Try.t148 := by kernel_rfl
@[simp] theorem tsz148 : Try.t148.size = 4 := by kernel_rfl
@[simp] theorem tby148 : Try.t148.bytes = 40 := by kernel_rfl
@[simp] theorem agg148 : aggT Try.prog 148 = some true := by kernel_rfl
@[simp] theorem slot148 : slotSize Try.prog 148 = 0 := by kernel_rfl
attribute [simp] Try.underlying148
@[simp] theorem zero148 : zeroV Try.prog 148 = some (.agg [.undef, .undef, .undef, (.str [])]) := by kernel_rfl
@[simp] theorem slots148 : slotSizes Try.prog 148 = [0, 0, 0, 0] := by kernel_rfl
noncomputable def F148_0 : Field := (fieldOf Try.prog 148 0).getD default
@[simp] theorem fo148_0 : fieldOf Try.prog 148 0 = some F148_0 := by kernel_rfl
@[simp] theorem ft148_0 : F148_0.type = 17 := by kernel_rfl
@[simp] theorem fx148_0 : F148_0.offset = 0 := by kernel_rfl
noncomputable def F148_1 : Field := (fieldOf Try.prog 148 1).getD default
@[simp] theorem fo148_1 : fieldOf Try.prog 148 1 = some F148_1 := by kernel_rfl
@[simp] theorem ft148_1 : F148_1.type = 17 := by kernel_rfl
@[simp] theorem fx148_1 : F148_1.offset = 1 := by kernel_rfl
noncomputable def F148_2 : Field := (fieldOf Try.prog 148 2).getD default
@[simp] theorem fo148_2 : fieldOf Try.prog 148 2 = some F148_2 := by kernel_rfl
@[simp] theorem ft148_2 : F148_2.type = 17 := by kernel_rfl
@[simp] theorem fx148_2 : F148_2.offset = 2 := by kernel_rfl
noncomputable def F148_3 : Field := (fieldOf Try.prog 148 3).getD default
@[simp] theorem fo148_3 : fieldOf Try.prog 148 3 = some F148_3 := by kernel_rfl
@[simp] theorem ft148_3 : F148_3.type = 9 := by kernel_rfl
@[simp] theorem fx148_3 : F148_3.offset = 3 := by kernel_rfl
@[simp] theorem inf149 : Try.prog.info? 149 = some Try.t149 := by kernel_rfl
@[simp] theorem tsz149 : Try.t149.size = 4 := by kernel_rfl
@[simp] theorem tby149 : Try.t149.bytes = 40 := by kernel_rfl
@[simp] theorem agg149 : aggT Try.prog 149 = some true := by kernel_rfl
@[simp] theorem slot149 : slotSize Try.prog 149 = 0 := by kernel_rfl
attribute [simp] Try.underlying149
@[simp] theorem zero149 : zeroV Try.prog 149 = some (.agg [.undef, .undef, .undef, (.str [])]) := by kernel_rfl
@[simp] theorem slots149 : slotSizes Try.prog 149 = [0, 0, 0, 0] := by kernel_rfl
noncomputable def F149_0 : Field := (fieldOf Try.prog 149 0).getD default
@[simp] theorem fo149_0 : fieldOf Try.prog 149 0 = some F149_0 := by kernel_rfl
@[simp] theorem ft149_0 : F149_0.type = 17 := by kernel_rfl
@[simp] theorem fx149_0 : F149_0.offset = 0 := by kernel_rfl
noncomputable def F149_1 : Field := (fieldOf Try.prog 149 1).getD default
@[simp] theorem fo149_1 : fieldOf Try.prog 149 1 = some F149_1 := by kernel_rfl
@[simp] theorem ft149_1 : F149_1.type = 17 := by kernel_rfl
@[simp] theorem fx149_1 : F149_1.offset = 1 := by kernel_rfl
noncomputable def F149_2 : Field := (fieldOf Try.prog 149 2).getD default
@[simp] theorem fo149_2 : fieldOf Try.prog 149 2 = some F149_2 := by kernel_rfl
@[simp] theorem ft149_2 : F149_2.type = 17 := by kernel_rfl
@[simp] theorem fx149_2 : F149_2.offset = 2 := by kernel_rfl
noncomputable def F149_3 : Field := (fieldOf Try.prog 149 3).getD default
@[simp] theorem fo149_3 : fieldOf Try.prog 149 3 = some F149_3 := by kernel_rfl
@[simp] theorem ft149_3 : F149_3.type = 9 := by kernel_rfl
@[simp] theorem fx149_3 : F149_3.offset = 3 := by kernel_rfl
@[simp] theorem inf150 : Try.prog.info? 150 = some Try.t150 := by kernel_rfl
@[simp] theorem tsz150 : Try.t150.size = 0 := by kernel_rfl
@[simp] theorem tby150 : Try.t150.bytes = 0 := by kernel_rfl
@[simp] theorem agg150 : aggT Try.prog 150 = some true := by kernel_rfl
@[simp] theorem slot150 : slotSize Try.prog 150 = 0 := by kernel_rfl
attribute [simp] Try.underlying150
@[simp] theorem zero150 : zeroV Try.prog 150 = some (.agg []) := by kernel_rfl
@[simp] theorem inf151 : Try.prog.info? 151 = some Try.t151 := by kernel_rfl
@[simp] theorem tsz151 : Try.t151.size = 0 := by kernel_rfl
@[simp] theorem tby151 : Try.t151.bytes = 0 := by kernel_rfl
@[simp] theorem agg151 : aggT Try.prog 151 = some true := by kernel_rfl
@[simp] theorem slot151 : slotSize Try.prog 151 = 0 := by kernel_rfl
attribute [simp] Try.underlying151
@[simp] theorem zero151 : zeroV Try.prog 151 = some (.agg []) := by kernel_rfl
@[simp] theorem slots151 : slotSizes Try.prog 151 = [] := by kernel_rfl
noncomputable def F151_0 : Field := (fieldOf Try.prog 151 0).getD default
@[simp] theorem fo151_0 : fieldOf Try.prog 151 0 = some F151_0 := by kernel_rfl
@[simp] theorem ft151_0 : F151_0.type = 150 := by kernel_rfl
@[simp] theorem fx151_0 : F151_0.offset = 0 := by kernel_rfl
@[simp] theorem inf152 : Try.prog.info? 152 = some Try.t152 := by kernel_rfl
@[simp] theorem tsz152 : Try.t152.size = 0 := by kernel_rfl
@[simp] theorem tby152 : Try.t152.bytes = 0 := by kernel_rfl
@[simp] theorem agg152 : aggT Try.prog 152 = some true := by kernel_rfl
@[simp] theorem slot152 : slotSize Try.prog 152 = 0 := by kernel_rfl
attribute [simp] Try.underlying152
@[simp] theorem zero152 : zeroV Try.prog 152 = some (.agg []) := by kernel_rfl
@[simp] theorem slots152 : slotSizes Try.prog 152 = [] := by kernel_rfl
noncomputable def F152_0 : Field := (fieldOf Try.prog 152 0).getD default
@[simp] theorem fo152_0 : fieldOf Try.prog 152 0 = some F152_0 := by kernel_rfl
@[simp] theorem ft152_0 : F152_0.type = 150 := by kernel_rfl
@[simp] theorem fx152_0 : F152_0.offset = 0 := by kernel_rfl
@[simp] theorem inf153 : Try.prog.info? 153 = some Try.t153 := by kernel_rfl
@[simp] theorem tsz153 : Try.t153.size = 1 := by kernel_rfl
@[simp] theorem tby153 : Try.t153.bytes = 1 := by kernel_rfl
@[simp] theorem agg153 : aggT Try.prog 153 = some false := by kernel_rfl
@[simp] theorem slot153 : slotSize Try.prog 153 = 0 := by kernel_rfl
attribute [simp] Try.underlying153
@[simp] theorem zero153 : zeroV Try.prog 153 = some (.int .u8 0) := by kernel_rfl
@[simp] theorem inf154 : Try.prog.info? 154 = some Try.t154 := by kernel_rfl
@[simp] theorem tsz154 : Try.t154.size = 1 := by kernel_rfl
@[simp] theorem tby154 : Try.t154.bytes = 1 := by kernel_rfl
@[simp] theorem agg154 : aggT Try.prog 154 = some false := by kernel_rfl
@[simp] theorem slot154 : slotSize Try.prog 154 = 0 := by kernel_rfl
attribute [simp] Try.underlying154
@[simp] theorem zero154 : zeroV Try.prog 154 = some (.int .u8 0) := by kernel_rfl
@[simp] theorem inf155 : Try.prog.info? 155 = some Try.t155 := by kernel_rfl
@[simp] theorem tsz155 : Try.t155.size = 1 := by kernel_rfl
@[simp] theorem tby155 : Try.t155.bytes = 8 := by kernel_rfl
@[simp] theorem agg155 : aggT Try.prog 155 = some false := by kernel_rfl
@[simp] theorem slot155 : slotSize Try.prog 155 = 0 := by kernel_rfl
attribute [simp] Try.underlying155
@[simp] theorem zero155 : zeroV Try.prog 155 = some .undef := by kernel_rfl
@[simp] theorem inf156 : Try.prog.info? 156 = some Try.t156 := by kernel_rfl
@[simp] theorem tsz156 : Try.t156.size = 1 := by kernel_rfl
@[simp] theorem tby156 : Try.t156.bytes = 4 := by kernel_rfl
@[simp] theorem agg156 : aggT Try.prog 156 = some false := by kernel_rfl
@[simp] theorem slot156 : slotSize Try.prog 156 = 0 := by kernel_rfl
attribute [simp] Try.underlying156
@[simp] theorem zero156 : zeroV Try.prog 156 = some (.int .i32 0) := by kernel_rfl
@[simp] theorem inf157 : Try.prog.info? 157 = some Try.t157 := by kernel_rfl
@[simp] theorem tsz157 : Try.t157.size = 1 := by kernel_rfl
@[simp] theorem tby157 : Try.t157.bytes = 4 := by kernel_rfl
@[simp] theorem agg157 : aggT Try.prog 157 = some false := by kernel_rfl
@[simp] theorem slot157 : slotSize Try.prog 157 = 0 := by kernel_rfl
attribute [simp] Try.underlying157
@[simp] theorem zero157 : zeroV Try.prog 157 = some (.int .i32 0) := by kernel_rfl
@[simp] theorem inf158 : Try.prog.info? 158 = some Try.t158 := by kernel_rfl
@[simp] theorem tsz158 : Try.t158.size = 11 := by kernel_rfl
@[simp] theorem tby158 : Try.t158.bytes = 48 := by kernel_rfl
@[simp] theorem agg158 : aggT Try.prog 158 = some true := by kernel_rfl
@[simp] theorem slot158 : slotSize Try.prog 158 = 0 := by kernel_rfl
attribute [simp] Try.underlying158
@[simp] theorem zero158 : zeroV Try.prog 158 = some (.agg [(.int .u64 0), (.int .u64 0), (.int .u32 0), (.int .u8 0), (.int .u8 0), (.int .u8 0), (.int .u8 0), .undef, .undef, (.int .i32 0), (.int .i32 0)]) := by kernel_rfl
@[simp] theorem slots158 : slotSizes Try.prog 158 = [0, 0, 0, 0, 0, 0, 0, 0, 0, 0, 0] := by kernel_rfl
noncomputable def F158_0 : Field := (fieldOf Try.prog 158 0).getD default
@[simp] theorem fo158_0 : fieldOf Try.prog 158 0 = some F158_0 := by kernel_rfl
@[simp] theorem ft158_0 : F158_0.type = 12 := by kernel_rfl
@[simp] theorem fx158_0 : F158_0.offset = 0 := by kernel_rfl
noncomputable def F158_1 : Field := (fieldOf Try.prog 158 1).getD default
@[simp] theorem fo158_1 : fieldOf Try.prog 158 1 = some F158_1 := by kernel_rfl
@[simp] theorem ft158_1 : F158_1.type = 12 := by kernel_rfl
@[simp] theorem fx158_1 : F158_1.offset = 1 := by kernel_rfl
noncomputable def F158_2 : Field := (fieldOf Try.prog 158 2).getD default
@[simp] theorem fo158_2 : fieldOf Try.prog 158 2 = some F158_2 := by kernel_rfl
@[simp] theorem ft158_2 : F158_2.type = 120 := by kernel_rfl
@[simp] theorem fx158_2 : F158_2.offset = 2 := by kernel_rfl
noncomputable def F158_3 : Field := (fieldOf Try.prog 158 3).getD default
@[simp] theorem fo158_3 : fieldOf Try.prog 158 3 = some F158_3 := by kernel_rfl
@[simp] theorem ft158_3 : F158_3.type = 153 := by kernel_rfl
@[simp] theorem fx158_3 : F158_3.offset = 3 := by kernel_rfl
noncomputable def F158_4 : Field := (fieldOf Try.prog 158 4).getD default
@[simp] theorem fo158_4 : fieldOf Try.prog 158 4 = some F158_4 := by kernel_rfl
@[simp] theorem ft158_4 : F158_4.type = 5 := by kernel_rfl
@[simp] theorem fx158_4 : F158_4.offset = 4 := by kernel_rfl
noncomputable def F158_5 : Field := (fieldOf Try.prog 158 5).getD default
@[simp] theorem fo158_5 : fieldOf Try.prog 158 5 = some F158_5 := by kernel_rfl
@[simp] theorem ft158_5 : F158_5.type = 5 := by kernel_rfl
@[simp] theorem fx158_5 : F158_5.offset = 5 := by kernel_rfl
noncomputable def F158_6 : Field := (fieldOf Try.prog 158 6).getD default
@[simp] theorem fo158_6 : fieldOf Try.prog 158 6 = some F158_6 := by kernel_rfl
@[simp] theorem ft158_6 : F158_6.type = 154 := by kernel_rfl
@[simp] theorem fx158_6 : F158_6.offset = 6 := by kernel_rfl
noncomputable def F158_7 : Field := (fieldOf Try.prog 158 7).getD default
@[simp] theorem fo158_7 : fieldOf Try.prog 158 7 = some F158_7 := by kernel_rfl
@[simp] theorem ft158_7 : F158_7.type = 155 := by kernel_rfl
@[simp] theorem fx158_7 : F158_7.offset = 7 := by kernel_rfl
noncomputable def F158_8 : Field := (fieldOf Try.prog 158 8).getD default
@[simp] theorem fo158_8 : fieldOf Try.prog 158 8 = some F158_8 := by kernel_rfl
@[simp] theorem ft158_8 : F158_8.type = 126 := by kernel_rfl
@[simp] theorem fx158_8 : F158_8.offset = 8 := by kernel_rfl
noncomputable def F158_9 : Field := (fieldOf Try.prog 158 9).getD default
@[simp] theorem fo158_9 : fieldOf Try.prog 158 9 = some F158_9 := by kernel_rfl
@[simp] theorem ft158_9 : F158_9.type = 156 := by kernel_rfl
@[simp] theorem fx158_9 : F158_9.offset = 9 := by kernel_rfl
noncomputable def F158_10 : Field := (fieldOf Try.prog 158 10).getD default
@[simp] theorem fo158_10 : fieldOf Try.prog 158 10 = some F158_10 := by kernel_rfl
@[simp] theorem ft158_10 : F158_10.type = 157 := by kernel_rfl
@[simp] theorem fx158_10 : F158_10.offset = 10 := by kernel_rfl
@[simp] theorem inf159 : Try.prog.info? 159 = some Try.t159 := by kernel_rfl
@[simp] theorem tsz159 : Try.t159.size = 11 := by kernel_rfl
@[simp] theorem tby159 : Try.t159.bytes = 48 := by kernel_rfl
@[simp] theorem agg159 : aggT Try.prog 159 = some true := by kernel_rfl
@[simp] theorem slot159 : slotSize Try.prog 159 = 0 := by kernel_rfl
attribute [simp] Try.underlying159
@[simp] theorem zero159 : zeroV Try.prog 159 = some (.agg [(.int .u64 0), (.int .u64 0), (.int .u32 0), (.int .u8 0), (.int .u8 0), (.int .u8 0), (.int .u8 0), .undef, .undef, (.int .i32 0), (.int .i32 0)]) := by kernel_rfl
@[simp] theorem slots159 : slotSizes Try.prog 159 = [0, 0, 0, 0, 0, 0, 0, 0, 0, 0, 0] := by kernel_rfl
noncomputable def F159_0 : Field := (fieldOf Try.prog 159 0).getD default
@[simp] theorem fo159_0 : fieldOf Try.prog 159 0 = some F159_0 := by kernel_rfl
@[simp] theorem ft159_0 : F159_0.type = 12 := by kernel_rfl
@[simp] theorem fx159_0 : F159_0.offset = 0 := by kernel_rfl
noncomputable def F159_1 : Field := (fieldOf Try.prog 159 1).getD default
@[simp] theorem fo159_1 : fieldOf Try.prog 159 1 = some F159_1 := by kernel_rfl
@[simp] theorem ft159_1 : F159_1.type = 12 := by kernel_rfl
@[simp] theorem fx159_1 : F159_1.offset = 1 := by kernel_rfl
noncomputable def F159_2 : Field := (fieldOf Try.prog 159 2).getD default
@[simp] theorem fo159_2 : fieldOf Try.prog 159 2 = some F159_2 := by kernel_rfl
@[simp] theorem ft159_2 : F159_2.type = 120 := by kernel_rfl
@[simp] theorem fx159_2 : F159_2.offset = 2 := by kernel_rfl
noncomputable def F159_3 : Field := (fieldOf Try.prog 159 3).getD default
@[simp] theorem fo159_3 : fieldOf Try.prog 159 3 = some F159_3 := by kernel_rfl
@[simp] theorem ft159_3 : F159_3.type = 153 := by kernel_rfl
@[simp] theorem fx159_3 : F159_3.offset = 3 := by kernel_rfl
noncomputable def F159_4 : Field := (fieldOf Try.prog 159 4).getD default
@[simp] theorem fo159_4 : fieldOf Try.prog 159 4 = some F159_4 := by kernel_rfl
@[simp] theorem ft159_4 : F159_4.type = 5 := by kernel_rfl
@[simp] theorem fx159_4 : F159_4.offset = 4 := by kernel_rfl
noncomputable def F159_5 : Field := (fieldOf Try.prog 159 5).getD default
@[simp] theorem fo159_5 : fieldOf Try.prog 159 5 = some F159_5 := by kernel_rfl
@[simp] theorem ft159_5 : F159_5.type = 5 := by kernel_rfl
@[simp] theorem fx159_5 : F159_5.offset = 5 := by kernel_rfl
noncomputable def F159_6 : Field := (fieldOf Try.prog 159 6).getD default
@[simp] theorem fo159_6 : fieldOf Try.prog 159 6 = some F159_6 := by kernel_rfl
@[simp] theorem ft159_6 : F159_6.type = 154 := by kernel_rfl
@[simp] theorem fx159_6 : F159_6.offset = 6 := by kernel_rfl
noncomputable def F159_7 : Field := (fieldOf Try.prog 159 7).getD default
@[simp] theorem fo159_7 : fieldOf Try.prog 159 7 = some F159_7 := by kernel_rfl
@[simp] theorem ft159_7 : F159_7.type = 155 := by kernel_rfl
@[simp] theorem fx159_7 : F159_7.offset = 7 := by kernel_rfl
noncomputable def F159_8 : Field := (fieldOf Try.prog 159 8).getD default
@[simp] theorem fo159_8 : fieldOf Try.prog 159 8 = some F159_8 := by kernel_rfl
@[simp] theorem ft159_8 : F159_8.type = 126 := by kernel_rfl
@[simp] theorem fx159_8 : F159_8.offset = 8 := by kernel_rfl
noncomputable def F159_9 : Field := (fieldOf Try.prog 159 9).getD default
@[simp] theorem fo159_9 : fieldOf Try.prog 159 9 = some F159_9 := by kernel_rfl
@[simp] theorem ft159_9 : F159_9.type = 156 := by kernel_rfl
@[simp] theorem fx159_9 : F159_9.offset = 9 := by kernel_rfl
noncomputable def F159_10 : Field := (fieldOf Try.prog 159 10).getD default
@[simp] theorem fo159_10 : fieldOf Try.prog 159 10 = some F159_10 := by kernel_rfl
@[simp] theorem ft159_10 : F159_10.type = 157 := by kernel_rfl
@[simp] theorem fx159_10 : F159_10.offset = 10 := by kernel_rfl
-- T 0 ()
-- T 1 func()
-- T 2 int64
-- T 3 int
-- T 4 bool
-- T 5 uint8
-- T 6 abi.BoundsErrorCode
-- T 7 struct { x int64; y int; signed bool; code abi.BoundsErrorCode }
-- T 8 runtime.boundsError
-- T 9 string
-- T 10 runtime.errorString
-- T 11 runtime.plainError
-- T 12 uintptr
-- T 13 struct { msg string; addr uintptr }
-- T 14 runtime.errorAddressString
-- T 15 *runtime.TypeAssertionError
-- T 16 *runtime.PanicNilError
-- T 17 *abi.Type
-- T 18 struct { typ *abi.Type }
-- T 19 maps.unhashableTypeError
-- T 20 interface {}
-- T 21 int32
-- T 22 [8]int
-- T 23 struct { Kind int; Links int; Size int; Sectors [8]int }
-- T 24 api.Inode
-- T 25 api.Errno
-- T 26 (api.Inode, api.Errno)
-- T 27 func(string) (api.Inode, api.Errno)
-- T 28 func(api.Inode) string
-- T 29 func() bool
-- T 30 func(api.Inode, string) bool
-- T 31 []string
-- T 32 []int
-- T 33 struct { Sectors []string; Bad []int }
-- T 34 api.Drive
-- T 35 func(api.Drive) bool
-- T 36 func(api.Drive, int) (api.Inode, api.Errno)
-- T 37 struct { Sector int; Data string }
-- T 38 api.Write
-- T 39 (api.Write, api.Errno)
-- T 40 func(api.Drive, int, api.Inode) (api.Write, api.Errno)
-- T 41 func(api.Drive, int, api.Inode) bool
-- T 42 ([]int, api.Errno)
-- T 43 func(api.Drive) ([]int, api.Errno)
-- T 44 (int, api.Errno)
-- T 45 func(api.Drive) (int, api.Errno)
-- T 46 func([]int, []int) bool
-- T 47 func(api.Drive, int) bool
-- T 48 func(api.Drive, []int, bool) (api.Write, api.Errno)
-- T 49 func(api.Drive, []int, bool) bool
-- T 50 (api.Drive, bool)
-- T 51 func(api.Drive, api.Write) (api.Drive, bool)
-- T 52 func([]int, int) bool
-- T 53 struct { Start int; Count int }
-- T 54 api.Extent
-- T 55 (api.Extent, api.Extent, api.Errno)
-- T 56 func(api.Drive) (api.Extent, api.Extent, api.Errno)
-- T 57 []api.Write
-- T 58 ([]api.Write, api.Errno)
-- T 59 func(api.Drive, []api.Write) ([]api.Write, api.Errno)
-- T 60 (api.Drive, int, api.Errno)
-- T 61 func(api.Drive, []api.Write, int) (api.Drive, int, api.Errno)
-- T 62 func([]api.Write) []api.Write
-- T 63 func(api.Drive, api.Drive) bool
-- T 64 func(api.Drive, []api.Write) bool
-- T 65 func(string) ([]int, api.Errno)
-- T 66 func(api.Inode) bool
-- T 67 func(string, int) int
-- T 68 func(int, int) string
-- T 69 []uint8
-- T 70 (api.Drive, api.Errno)
-- T 71 func(int, int) (api.Drive, api.Errno)
-- T 72 (string, api.Errno)
-- T 73 func(api.Drive, int) (string, api.Errno)
-- T 74 (string, int, api.Errno)
-- T 75 func(api.Drive, int) (string, int, api.Errno)
-- T 76 (api.Extent, []uint8, api.Errno)
-- T 77 func(api.Drive) (api.Extent, []uint8, api.Errno)
-- T 78 func([]uint8, int) bool
-- T 79 (api.Extent, string, api.Errno)
-- T 80 func(api.Drive) (api.Extent, string, api.Errno)
-- T 81 func(string, int) bool
-- T 82 uint
-- T 83 func(api.Extent, int) bool
-- T 84 func(string, int, bool) string
-- T 85 (int, int, api.Errno)
-- T 86 func(string, int, int) (int, int, api.Errno)
-- T 87 (int, bool)
-- T 88 func(api.Drive) (int, bool)
-- T 89 func(string) string
-- T 90 func() string
-- T 91 func(api.Drive) api.Drive
-- T 92 map[int]bool
-- T 93 func(api.Drive) map[int]bool
-- T 94 func(api.Drive, map[int]bool, api.Write) api.Errno
-- T 95 func(string, int) string
-- T 96 map[int]string
-- T 97 (string, bool)
-- T 98 func([]int)
-- T 99 func(api.Drive, api.Drive) []int
-- T 100 func(int, int) bool
-- T 101 func(int) (api.Drive, api.Errno)
-- T 102 func(int) bool
-- T 103 func([]string) []string
-- T 104 func([]int) []int
-- T 105 (uint, uint)
-- T 106 func(uint, uint) (uint, uint)
-- T 107 func(string, string) bool
-- T 108 *strings.Builder
-- T 109 struct { addr *strings.Builder; buf []uint8 }
-- T 110 strings.Builder
-- T 111 func(int)
-- T 112 interface { Error() string }
-- T 113 error
-- T 114 (int, error)
-- T 115 func(string) (int, error)
-- T 116 func() int
-- T 117 func([]int, int, int, int)
-- T 118 func(uint) int
-- T 119 func([]string, int) []string
-- T 120 uint32
-- T 121 (uint32, uint32)
-- T 122 func(uint32, uint32) (uint32, uint32)
-- T 123 uint64
-- T 124 (uint64, uint64)
-- T 125 func(uint64, uint64) (uint64, uint64)
-- T 126 *uint8
-- T 127 func([]int, int, int)
-- T 128 slices.sortedHint
-- T 129 (int, slices.sortedHint)
-- T 130 func([]int, int, int) (int, slices.sortedHint)
-- T 131 func([]int, int, int) bool
-- T 132 func([]int, int, int, int) int
-- T 133 func([]int, int, int, int) (int, bool)
-- T 134 func(uint32) int
-- T 135 func(uint64) int
-- T 136 unsafe.Pointer
-- T 137 func(unsafe.Pointer) unsafe.Pointer
-- T 138 func(int) []uint8
-- T 139 slices.xorshift
-- T 140 func(int) uint
-- T 141 func() uint64
-- T 142 func([]int, int, *int) int
-- T 143 *int
-- T 144 func([]int, int, int, int, *int) int
-- T 145 *slices.xorshift
-- T 146 (int, int)
-- T 147 func([]int, int, int, *int) (int, int)
-- T 148 struct { _interface *abi.Type; concrete *abi.Type; asserted *abi.Type; missingMethod string }
-- T 149 runtime.TypeAssertionError
-- T 150 [0]*runtime.PanicNilError
-- T 151 struct { _ [0]*runtime.PanicNilError }
-- T 152 runtime.PanicNilError
-- T 153 abi.TFlag
-- T 154 abi.Kind
-- T 155 func(unsafe.Pointer, unsafe.Pointer) bool
-- T 156 abi.NameOff
-- T 157 abi.TypeOff
-- T 158 struct { Size_ uintptr; PtrBytes uintptr; Hash uint32; TFlag abi.TFlag; Align_ uint8; FieldAlign_ uint8; Kind_ abi.Kind; Equal func(unsafe.Pointer, unsafe.Pointer) bool; GCData *uint8; Str abi.NameOff; PtrToThis abi.TypeOff }
-- T 159 abi.Type
@[simp] theorem k7_11 : DC.keep 7 11 = some [1, 3, 5, 9, 13] := rfl
@[simp] theorem k8_10 : DC.keep 8 10 = some [1, 2, 3, 9, 11] := rfl
@[simp] theorem k8_17 : DC.keep 8 17 = some [9, 13, 14, 15] := rfl
@[simp] theorem k9_14 : DC.keep 9 14 = some [1, 8, 9, 10, 11] := rfl
@[simp] theorem k10_4 : DC.keep 10 4 = some [1, 2, 5] := rfl
@[simp] theorem k12_5 : DC.keep 12 5 = some [0, 2, 4, 5] := rfl
@[simp] theorem k13_3 : DC.keep 13 3 = some [3, 18, 19] := rfl
@[simp] theorem k14_3 : DC.keep 14 3 = some [1, 3, 4] := rfl
@[simp] theorem k16_2 : DC.keep 16 2 = some [1, 3] := rfl
@[simp] theorem k21_6 : DC.keep 21 6 = some [4, 5, 7, 8] := rfl
@[simp] theorem k22_6 : DC.keep 22 6 = some [4, 5, 7, 8] := rfl
@[simp] theorem k23_2 : DC.keep 23 2 = some [1, 4] := rfl
@[simp] theorem k24_2 : DC.keep 24 2 = some [1, 4] := rfl
@[simp] theorem k25_4 : DC.keep 25 4 = some [0, 1, 5] := rfl
@[simp] theorem k28_5 : DC.keep 28 5 = some [2, 6, 8, 9, 23, 24, 25] := rfl
@[simp] theorem k29_5 : DC.keep 29 5 = some [1, 2, 6, 8, 9, 11] := rfl
@[simp] theorem k30_4 : DC.keep 30 4 = some [1, 3] := rfl
@[simp] theorem k30_9 : DC.keep 30 9 = some [1, 4] := rfl
@[simp] theorem k32_2 : DC.keep 32 2 = some [0, 1, 5] := rfl
@[simp] theorem k34_2 : DC.keep 34 2 = some [1, 3] := rfl
@[simp] theorem k35_7 : DC.keep 35 7 = some [1, 2, 24, 25, 26] := rfl
@[simp] theorem k35_22 : DC.keep 35 22 = some [10, 11, 12, 54, 55] := rfl
@[simp] theorem k36_4 : DC.keep 36 4 = some [1, 2, 3, 6, 9, 17, 18, 19] := rfl
@[simp] theorem k37_4 : DC.keep 37 4 = some [3, 4, 13, 14, 15] := rfl
@[simp] theorem k37_14 : DC.keep 37 14 = some [3, 9, 41, 42, 43] := rfl
@[simp] theorem k38_3 : DC.keep 38 3 = some [5, 6] := rfl
@[simp] theorem k40_5 : DC.keep 40 5 = some [0, 4, 15, 16] := rfl
@[simp] theorem k41_7 : DC.keep 41 7 = some [3, 46, 47] := rfl
@[simp] theorem k43_7 : DC.keep 43 7 = some [1, 3, 4] := rfl
@[simp] theorem k44_3 : DC.keep 44 3 = some [0, 5, 12, 13] := rfl
@[simp] theorem k45_5 : DC.keep 45 5 = some [0, 1, 5, 6] := rfl
@[simp] theorem k46_8 : DC.keep 46 8 = some [0, 1, 4, 6, 8, 26, 27] := rfl
@[simp] theorem k55_2 : DC.keep 55 2 = some [1, 2, 5] := rfl
@[simp] theorem k56_7 : DC.keep 56 7 = some [0, 1, 2, 9, 10] := rfl
@[simp] theorem k63_3 : DC.keep 63 3 = some [3, 8, 9, 10] := rfl
@[simp] theorem k67_3 : DC.keep 67 3 = some [2, 3, 5, 6] := rfl
@[simp] theorem k75_2 : DC.keep 75 2 = some [3] := rfl
@[simp] theorem k76_4 : DC.keep 76 4 = some [1, 19, 20, 21] := rfl
@[simp] theorem k76_11 : DC.keep 76 11 = some [1, 5, 30, 31, 32] := rfl
@[simp] theorem k77_7 : DC.keep 77 7 = some [0, 1, 2, 9, 10] := rfl
@[simp] theorem k87_2 : DC.keep 87 2 = some [0, 1, 2, 3, 8, 9] := rfl
@[simp] theorem k89_8 : DC.keep 89 8 = some [7, 8] := rfl
@[simp] theorem k90_2 : DC.keep 90 2 = some [1, 2, 5] := rfl
@[simp] theorem k96_1 : DC.keep 96 1 = some [0, 1, 2, 6] := rfl
@[simp] theorem k96_4 : DC.keep 96 4 = some [0, 1, 2, 6, 7] := rfl
@[simp] theorem k97_4 : DC.keep 97 4 = some [0, 6, 7, 8, 9] := rfl
@[simp] theorem k97_8 : DC.keep 97 8 = some [0, 6, 7, 10] := rfl
@[simp] theorem k98_5 : DC.keep 98 5 = some [0, 1, 6, 7, 8, 9] := rfl
@[simp] theorem k100_2 : DC.keep 100 2 = some [0, 6, 7] := rfl
@[simp] theorem k101_3 : DC.keep 101 3 = some [0, 1, 2, 7, 8] := rfl
@[simp] theorem k101_5 : DC.keep 101 5 = some [0, 1, 2, 7, 8] := rfl
@[simp] theorem k101_14 : DC.keep 101 14 = some [0, 1, 2, 7, 8, 9] := rfl
@[simp] theorem k101_20 : DC.keep 101 20 = some [0, 1, 2, 7, 8, 10] := rfl
@[simp] theorem k103_3 : DC.keep 103 3 = some [0, 1, 9, 10] := rfl
@[simp] theorem k103_5 : DC.keep 103 5 = some [0, 1, 9, 10] := rfl
@[simp] theorem k104_3 : DC.keep 104 3 = some [0, 1, 10, 11] := rfl
@[simp] theorem k104_5 : DC.keep 104 5 = some [0, 1, 10, 11] := rfl
@[simp] theorem k104_13 : DC.keep 104 13 = some [0, 1, 10, 11] := rfl
@[simp] theorem k104_15 : DC.keep 104 15 = some [0, 1, 10, 11] := rfl
@[simp] theorem k109_1 : DC.keep 109 1 = some [0, 2, 3, 8] := rfl
end Go.Abs
