/- Proved here: facts of the types. No condition but those that each theorem states. -/
import Derived.Test.YtpffmpllnpmkbaaDoorDC
namespace Go.Abs
open Go.Proofs
set_option maxRecDepth 100000
set_option linter.unusedVariables false
set_option linter.unusedSimpArgs false

@[simp] theorem inf1 : Tryd.prog.info? 1 = some Tryd.t1 := by kernel_rfl
@[simp] theorem tsz1 : Tryd.t1.size = 1 := by kernel_rfl
@[simp] theorem tby1 : Tryd.t1.bytes = 8 := by kernel_rfl
@[simp] theorem agg1 : aggT Tryd.prog 1 = some false := by kernel_rfl
@[simp] theorem slot1 : slotSize Tryd.prog 1 = 0 := by kernel_rfl
attribute [simp] Tryd.underlying1
@[simp] theorem zero1 : zeroV Tryd.prog 1 = some .undef := by kernel_rfl
@[simp] theorem inf2 : Tryd.prog.info? 2 = some Tryd.t2 := by kernel_rfl
@[simp] theorem tsz2 : Tryd.t2.size = 1 := by kernel_rfl
@[simp] theorem tby2 : Tryd.t2.bytes = 8 := by kernel_rfl
@[simp] theorem agg2 : aggT Tryd.prog 2 = some false := by kernel_rfl
@[simp] theorem slot2 : slotSize Tryd.prog 2 = 0 := by kernel_rfl
attribute [simp] Tryd.underlying2
@[simp] theorem zero2 : zeroV Tryd.prog 2 = some (.int .i64 0) := by kernel_rfl
@[simp] theorem inf3 : Tryd.prog.info? 3 = some Tryd.t3 := by kernel_rfl
@[simp] theorem tsz3 : Tryd.t3.size = 1 := by kernel_rfl
@[simp] theorem tby3 : Tryd.t3.bytes = 8 := by kernel_rfl
@[simp] theorem agg3 : aggT Tryd.prog 3 = some false := by kernel_rfl
@[simp] theorem slot3 : slotSize Tryd.prog 3 = 0 := by kernel_rfl
attribute [simp] Tryd.underlying3
@[simp] theorem zero3 : zeroV Tryd.prog 3 = some (.int .i64 0) := by kernel_rfl
@[simp] theorem inf4 : Tryd.prog.info? 4 = some Tryd.t4 := by kernel_rfl
@[simp] theorem tsz4 : Tryd.t4.size = 1 := by kernel_rfl
@[simp] theorem tby4 : Tryd.t4.bytes = 1 := by kernel_rfl
@[simp] theorem agg4 : aggT Tryd.prog 4 = some false := by kernel_rfl
@[simp] theorem slot4 : slotSize Tryd.prog 4 = 0 := by kernel_rfl
attribute [simp] Tryd.underlying4
@[simp] theorem zero4 : zeroV Tryd.prog 4 = some (.bool false) := by kernel_rfl
@[simp] theorem inf5 : Tryd.prog.info? 5 = some Tryd.t5 := by kernel_rfl
@[simp] theorem tsz5 : Tryd.t5.size = 1 := by kernel_rfl
@[simp] theorem tby5 : Tryd.t5.bytes = 1 := by kernel_rfl
@[simp] theorem agg5 : aggT Tryd.prog 5 = some false := by kernel_rfl
@[simp] theorem slot5 : slotSize Tryd.prog 5 = 0 := by kernel_rfl
attribute [simp] Tryd.underlying5
@[simp] theorem zero5 : zeroV Tryd.prog 5 = some (.int .u8 0) := by kernel_rfl
@[simp] theorem inf6 : Tryd.prog.info? 6 = some Tryd.t6 := by kernel_rfl
@[simp] theorem tsz6 : Tryd.t6.size = 1 := by kernel_rfl
@[simp] theorem tby6 : Tryd.t6.bytes = 1 := by kernel_rfl
@[simp] theorem agg6 : aggT Tryd.prog 6 = some false := by kernel_rfl
@[simp] theorem slot6 : slotSize Tryd.prog 6 = 0 := by kernel_rfl
attribute [simp] Tryd.underlying6
@[simp] theorem zero6 : zeroV Tryd.prog 6 = some (.int .u8 0) := by kernel_rfl
@[simp] theorem inf7 : Tryd.prog.info? 7 = some Tryd.t7 := by kernel_rfl
@[simp] theorem tsz7 : Tryd.t7.size = 4 := by kernel_rfl
@[simp] theorem tby7 : Tryd.t7.bytes = 24 := by kernel_rfl
@[simp] theorem agg7 : aggT Tryd.prog 7 = some true := by kernel_rfl
@[simp] theorem slot7 : slotSize Tryd.prog 7 = 0 := by kernel_rfl
attribute [simp] Tryd.underlying7
@[simp] theorem zero7 : zeroV Tryd.prog 7 = some (.agg [(.int .i64 0), (.int .i64 0), (.bool false), (.int .u8 0)]) := by kernel_rfl
@[simp] theorem slots7 : slotSizes Tryd.prog 7 = [0, 0, 0, 0] := by kernel_rfl
noncomputable def F7_0 : Field := (fieldOf Tryd.prog 7 0).getD default
@[simp] theorem fo7_0 : fieldOf Tryd.prog 7 0 = some F7_0 := by kernel_rfl
@[simp] theorem ft7_0 : F7_0.type = 2 := by kernel_rfl
@[simp] theorem fx7_0 : F7_0.offset = 0 := by kernel_rfl
noncomputable def F7_1 : Field := (fieldOf Tryd.prog 7 1).getD default
@[simp] theorem fo7_1 : fieldOf Tryd.prog 7 1 = some F7_1 := by kernel_rfl
@[simp] theorem ft7_1 : F7_1.type = 3 := by kernel_rfl
@[simp] theorem fx7_1 : F7_1.offset = 1 := by kernel_rfl
noncomputable def F7_2 : Field := (fieldOf Tryd.prog 7 2).getD default
@[simp] theorem fo7_2 : fieldOf Tryd.prog 7 2 = some F7_2 := by kernel_rfl
@[simp] theorem ft7_2 : F7_2.type = 4 := by kernel_rfl
@[simp] theorem fx7_2 : F7_2.offset = 2 := by kernel_rfl
noncomputable def F7_3 : Field := (fieldOf Tryd.prog 7 3).getD default
@[simp] theorem fo7_3 : fieldOf Tryd.prog 7 3 = some F7_3 := by kernel_rfl
@[simp] theorem ft7_3 : F7_3.type = 6 := by kernel_rfl
@[simp] theorem fx7_3 : F7_3.offset = 3 := by kernel_rfl
@[simp] theorem inf8 : Tryd.prog.info? 8 = some Tryd.t8 := by kernel_rfl
@[simp] theorem tsz8 : Tryd.t8.size = 4 := by kernel_rfl
@[simp] theorem tby8 : Tryd.t8.bytes = 24 := by kernel_rfl
@[simp] theorem agg8 : aggT Tryd.prog 8 = some true := by kernel_rfl
@[simp] theorem slot8 : slotSize Tryd.prog 8 = 0 := by kernel_rfl
attribute [simp] Tryd.underlying8
@[simp] theorem zero8 : zeroV Tryd.prog 8 = some (.agg [(.int .i64 0), (.int .i64 0), (.bool false), (.int .u8 0)]) := by kernel_rfl
@[simp] theorem slots8 : slotSizes Tryd.prog 8 = [0, 0, 0, 0] := by kernel_rfl
noncomputable def F8_0 : Field := (fieldOf Tryd.prog 8 0).getD default
@[simp] theorem fo8_0 : fieldOf Tryd.prog 8 0 = some F8_0 := by kernel_rfl
@[simp] theorem ft8_0 : F8_0.type = 2 := by kernel_rfl
@[simp] theorem fx8_0 : F8_0.offset = 0 := by kernel_rfl
noncomputable def F8_1 : Field := (fieldOf Tryd.prog 8 1).getD default
@[simp] theorem fo8_1 : fieldOf Tryd.prog 8 1 = some F8_1 := by kernel_rfl
@[simp] theorem ft8_1 : F8_1.type = 3 := by kernel_rfl
@[simp] theorem fx8_1 : F8_1.offset = 1 := by kernel_rfl
noncomputable def F8_2 : Field := (fieldOf Tryd.prog 8 2).getD default
@[simp] theorem fo8_2 : fieldOf Tryd.prog 8 2 = some F8_2 := by kernel_rfl
@[simp] theorem ft8_2 : F8_2.type = 4 := by kernel_rfl
@[simp] theorem fx8_2 : F8_2.offset = 2 := by kernel_rfl
noncomputable def F8_3 : Field := (fieldOf Tryd.prog 8 3).getD default
@[simp] theorem fo8_3 : fieldOf Tryd.prog 8 3 = some F8_3 := by kernel_rfl
@[simp] theorem ft8_3 : F8_3.type = 6 := by kernel_rfl
@[simp] theorem fx8_3 : F8_3.offset = 3 := by kernel_rfl
@[simp] theorem inf9 : Tryd.prog.info? 9 = some Tryd.t9 := by kernel_rfl
@[simp] theorem tsz9 : Tryd.t9.size = 1 := by kernel_rfl
@[simp] theorem tby9 : Tryd.t9.bytes = 16 := by kernel_rfl
@[simp] theorem agg9 : aggT Tryd.prog 9 = some false := by kernel_rfl
@[simp] theorem slot9 : slotSize Tryd.prog 9 = 0 := by kernel_rfl
attribute [simp] Tryd.underlying9
@[simp] theorem zero9 : zeroV Tryd.prog 9 = some (.str []) := by kernel_rfl
@[simp] theorem inf10 : Tryd.prog.info? 10 = some Tryd.t10 := by kernel_rfl
@[simp] theorem tsz10 : Tryd.t10.size = 1 := by kernel_rfl
@[simp] theorem tby10 : Tryd.t10.bytes = 16 := by kernel_rfl
@[simp] theorem agg10 : aggT Tryd.prog 10 = some false := by kernel_rfl
@[simp] theorem slot10 : slotSize Tryd.prog 10 = 0 := by kernel_rfl
attribute [simp] Tryd.underlying10
@[simp] theorem zero10 : zeroV Tryd.prog 10 = some (.str []) := by kernel_rfl
@[simp] theorem inf11 : Tryd.prog.info? 11 = some Tryd.t11 := by kernel_rfl
@[simp] theorem tsz11 : Tryd.t11.size = 1 := by kernel_rfl
@[simp] theorem tby11 : Tryd.t11.bytes = 16 := by kernel_rfl
@[simp] theorem agg11 : aggT Tryd.prog 11 = some false := by kernel_rfl
@[simp] theorem slot11 : slotSize Tryd.prog 11 = 0 := by kernel_rfl
attribute [simp] Tryd.underlying11
@[simp] theorem zero11 : zeroV Tryd.prog 11 = some (.str []) := by kernel_rfl
@[simp] theorem inf12 : Tryd.prog.info? 12 = some Tryd.t12 := by kernel_rfl
@[simp] theorem tsz12 : Tryd.t12.size = 1 := by kernel_rfl
@[simp] theorem tby12 : Tryd.t12.bytes = 8 := by kernel_rfl
@[simp] theorem agg12 : aggT Tryd.prog 12 = some false := by kernel_rfl
@[simp] theorem slot12 : slotSize Tryd.prog 12 = 0 := by kernel_rfl
attribute [simp] Tryd.underlying12
@[simp] theorem zero12 : zeroV Tryd.prog 12 = some (.int .u64 0) := by kernel_rfl
@[simp] theorem inf13 : Tryd.prog.info? 13 = some Tryd.t13 := by kernel_rfl
@[simp] theorem tsz13 : Tryd.t13.size = 2 := by kernel_rfl
@[simp] theorem tby13 : Tryd.t13.bytes = 24 := by kernel_rfl
@[simp] theorem agg13 : aggT Tryd.prog 13 = some true := by kernel_rfl
@[simp] theorem slot13 : slotSize Tryd.prog 13 = 0 := by kernel_rfl
attribute [simp] Tryd.underlying13
@[simp] theorem zero13 : zeroV Tryd.prog 13 = some (.agg [(.str []), (.int .u64 0)]) := by kernel_rfl
@[simp] theorem slots13 : slotSizes Tryd.prog 13 = [0, 0] := by kernel_rfl
noncomputable def F13_0 : Field := (fieldOf Tryd.prog 13 0).getD default
@[simp] theorem fo13_0 : fieldOf Tryd.prog 13 0 = some F13_0 := by kernel_rfl
@[simp] theorem ft13_0 : F13_0.type = 9 := by kernel_rfl
@[simp] theorem fx13_0 : F13_0.offset = 0 := by kernel_rfl
noncomputable def F13_1 : Field := (fieldOf Tryd.prog 13 1).getD default
@[simp] theorem fo13_1 : fieldOf Tryd.prog 13 1 = some F13_1 := by kernel_rfl
@[simp] theorem ft13_1 : F13_1.type = 12 := by kernel_rfl
@[simp] theorem fx13_1 : F13_1.offset = 1 := by kernel_rfl
@[simp] theorem inf14 : Tryd.prog.info? 14 = some Tryd.t14 := by kernel_rfl
@[simp] theorem tsz14 : Tryd.t14.size = 2 := by kernel_rfl
@[simp] theorem tby14 : Tryd.t14.bytes = 24 := by kernel_rfl
@[simp] theorem agg14 : aggT Tryd.prog 14 = some true := by kernel_rfl
@[simp] theorem slot14 : slotSize Tryd.prog 14 = 0 := by kernel_rfl
attribute [simp] Tryd.underlying14
@[simp] theorem zero14 : zeroV Tryd.prog 14 = some (.agg [(.str []), (.int .u64 0)]) := by kernel_rfl
@[simp] theorem slots14 : slotSizes Tryd.prog 14 = [0, 0] := by kernel_rfl
noncomputable def F14_0 : Field := (fieldOf Tryd.prog 14 0).getD default
@[simp] theorem fo14_0 : fieldOf Tryd.prog 14 0 = some F14_0 := by kernel_rfl
@[simp] theorem ft14_0 : F14_0.type = 9 := by kernel_rfl
@[simp] theorem fx14_0 : F14_0.offset = 0 := by kernel_rfl
noncomputable def F14_1 : Field := (fieldOf Tryd.prog 14 1).getD default
@[simp] theorem fo14_1 : fieldOf Tryd.prog 14 1 = some F14_1 := by kernel_rfl
@[simp] theorem ft14_1 : F14_1.type = 12 := by kernel_rfl
@[simp] theorem fx14_1 : F14_1.offset = 1 := by kernel_rfl
@[simp] theorem inf15 : Tryd.prog.info? 15 = some Tryd.t15 := by kernel_rfl
@[simp] theorem tsz15 : Tryd.t15.size = 1 := by kernel_rfl
@[simp] theorem tby15 : Tryd.t15.bytes = 8 := by kernel_rfl
@[simp] theorem agg15 : aggT Tryd.prog 15 = some false := by kernel_rfl
@[simp] theorem slot15 : slotSize Tryd.prog 15 = 0 := by kernel_rfl
attribute [simp] Tryd.underlying15
@[simp] theorem zero15 : zeroV Tryd.prog 15 = some .undef := by kernel_rfl
@[simp] theorem inf16 : Tryd.prog.info? 16 = some Tryd.t16 := by kernel_rfl
@[simp] theorem tsz16 : Tryd.t16.size = 1 := by kernel_rfl
@[simp] theorem tby16 : Tryd.t16.bytes = 8 := by kernel_rfl
@[simp] theorem agg16 : aggT Tryd.prog 16 = some false := by kernel_rfl
@[simp] theorem slot16 : slotSize Tryd.prog 16 = 0 := by kernel_rfl
attribute [simp] Tryd.underlying16
@[simp] theorem zero16 : zeroV Tryd.prog 16 = some .undef := by kernel_rfl
@[simp] theorem inf17 : Tryd.prog.info? 17 = some Tryd.t17 := by kernel_rfl
@[simp] theorem tsz17 : Tryd.t17.size = 1 := by kernel_rfl
@[simp] theorem tby17 : Tryd.t17.bytes = 8 := by kernel_rfl
@[simp] theorem agg17 : aggT Tryd.prog 17 = some false := by kernel_rfl
@[simp] theorem slot17 : slotSize Tryd.prog 17 = 0 := by kernel_rfl
attribute [simp] Tryd.underlying17
@[simp] theorem zero17 : zeroV Tryd.prog 17 = some .undef := by kernel_rfl
@[simp] theorem inf18 : Tryd.prog.info? 18 = some Tryd.t18 := by kernel_rfl
@[simp] theorem tsz18 : Tryd.t18.size = 1 := by kernel_rfl
@[simp] theorem tby18 : Tryd.t18.bytes = 8 := by kernel_rfl
@[simp] theorem agg18 : aggT Tryd.prog 18 = some true := by kernel_rfl
@[simp] theorem slot18 : slotSize Tryd.prog 18 = 0 := by kernel_rfl
attribute [simp] Tryd.underlying18
@[simp] theorem zero18 : zeroV Tryd.prog 18 = some (.agg [.undef]) := by kernel_rfl
@[simp] theorem slots18 : slotSizes Tryd.prog 18 = [0] := by kernel_rfl
noncomputable def F18_0 : Field := (fieldOf Tryd.prog 18 0).getD default
@[simp] theorem fo18_0 : fieldOf Tryd.prog 18 0 = some F18_0 := by kernel_rfl
@[simp] theorem ft18_0 : F18_0.type = 17 := by kernel_rfl
@[simp] theorem fx18_0 : F18_0.offset = 0 := by kernel_rfl
@[simp] theorem inf19 : Tryd.prog.info? 19 = some Tryd.t19 := by kernel_rfl
@[simp] theorem tsz19 : Tryd.t19.size = 1 := by kernel_rfl
@[simp] theorem tby19 : Tryd.t19.bytes = 8 := by kernel_rfl
@[simp] theorem agg19 : aggT Tryd.prog 19 = some true := by kernel_rfl
@[simp] theorem slot19 : slotSize Tryd.prog 19 = 0 := by kernel_rfl
attribute [simp] Tryd.underlying19
@[simp] theorem zero19 : zeroV Tryd.prog 19 = some (.agg [.undef]) := by kernel_rfl
@[simp] theorem slots19 : slotSizes Tryd.prog 19 = [0] := by kernel_rfl
noncomputable def F19_0 : Field := (fieldOf Tryd.prog 19 0).getD default
@[simp] theorem fo19_0 : fieldOf Tryd.prog 19 0 = some F19_0 := by kernel_rfl
@[simp] theorem ft19_0 : F19_0.type = 17 := by kernel_rfl
@[simp] theorem fx19_0 : F19_0.offset = 0 := by kernel_rfl
@[simp] theorem inf21 : Tryd.prog.info? 21 = some Tryd.t21 := by kernel_rfl
@[simp] theorem tsz21 : Tryd.t21.size = 1 := by kernel_rfl
@[simp] theorem tby21 : Tryd.t21.bytes = 4 := by kernel_rfl
@[simp] theorem agg21 : aggT Tryd.prog 21 = some false := by kernel_rfl
@[simp] theorem slot21 : slotSize Tryd.prog 21 = 0 := by kernel_rfl
attribute [simp] Tryd.underlying21
@[simp] theorem zero21 : zeroV Tryd.prog 21 = some (.int .i32 0) := by kernel_rfl
@[simp] theorem inf22 : Tryd.prog.info? 22 = some Tryd.t22 := by kernel_rfl
@[simp] theorem tsz22 : Tryd.t22.size = 1 := by kernel_rfl
@[simp] theorem tby22 : Tryd.t22.bytes = 24 := by kernel_rfl
@[simp] theorem agg22 : aggT Tryd.prog 22 = some false := by kernel_rfl
@[simp] theorem slot22 : slotSize Tryd.prog 22 = 1 := by kernel_rfl
attribute [simp] Tryd.underlying22
@[simp] theorem zero22 : zeroV Tryd.prog 22 = some .nils := by kernel_rfl
@[simp] theorem elem22 : elemT Tryd.prog 22 = some Tryd.t9 := by kernel_rfl
@[simp] theorem inf23 : Tryd.prog.info? 23 = some Tryd.t23 := by kernel_rfl
@[simp] theorem tsz23 : Tryd.t23.size = 1 := by kernel_rfl
@[simp] theorem tby23 : Tryd.t23.bytes = 24 := by kernel_rfl
@[simp] theorem agg23 : aggT Tryd.prog 23 = some false := by kernel_rfl
@[simp] theorem slot23 : slotSize Tryd.prog 23 = 1 := by kernel_rfl
attribute [simp] Tryd.underlying23
@[simp] theorem zero23 : zeroV Tryd.prog 23 = some .nils := by kernel_rfl
@[simp] theorem elem23 : elemT Tryd.prog 23 = some Tryd.t3 := by kernel_rfl
@[simp] theorem inf24 : Tryd.prog.info? 24 = some Tryd.t24 := by kernel_rfl
@[simp] theorem tsz24 : Tryd.t24.size = 2 := by kernel_rfl
@[simp] theorem tby24 : Tryd.t24.bytes = 48 := by kernel_rfl
@[simp] theorem agg24 : aggT Tryd.prog 24 = some true := by kernel_rfl
@[simp] theorem slot24 : slotSize Tryd.prog 24 = 0 := by kernel_rfl
attribute [simp] Tryd.underlying24
@[simp] theorem zero24 : zeroV Tryd.prog 24 = some (.agg [.nils, .nils]) := by kernel_rfl
@[simp] theorem slots24 : slotSizes Tryd.prog 24 = [1, 1] := by kernel_rfl
noncomputable def F24_0 : Field := (fieldOf Tryd.prog 24 0).getD default
@[simp] theorem fo24_0 : fieldOf Tryd.prog 24 0 = some F24_0 := by kernel_rfl
@[simp] theorem ft24_0 : F24_0.type = 22 := by kernel_rfl
@[simp] theorem fx24_0 : F24_0.offset = 0 := by kernel_rfl
noncomputable def F24_1 : Field := (fieldOf Tryd.prog 24 1).getD default
@[simp] theorem fo24_1 : fieldOf Tryd.prog 24 1 = some F24_1 := by kernel_rfl
@[simp] theorem ft24_1 : F24_1.type = 23 := by kernel_rfl
@[simp] theorem fx24_1 : F24_1.offset = 1 := by kernel_rfl
@[simp] theorem inf25 : Tryd.prog.info? 25 = some Tryd.t25 := by kernel_rfl
@[simp] theorem tsz25 : Tryd.t25.size = 2 := by kernel_rfl
@[simp] theorem tby25 : Tryd.t25.bytes = 48 := by kernel_rfl
@[simp] theorem agg25 : aggT Tryd.prog 25 = some true := by kernel_rfl
@[simp] theorem slot25 : slotSize Tryd.prog 25 = 0 := by kernel_rfl
attribute [simp] Tryd.underlying25
@[simp] theorem zero25 : zeroV Tryd.prog 25 = some (.agg [.nils, .nils]) := by kernel_rfl
@[simp] theorem slots25 : slotSizes Tryd.prog 25 = [1, 1] := by kernel_rfl
noncomputable def F25_0 : Field := (fieldOf Tryd.prog 25 0).getD default
@[simp] theorem fo25_0 : fieldOf Tryd.prog 25 0 = some F25_0 := by kernel_rfl
@[simp] theorem ft25_0 : F25_0.type = 22 := by kernel_rfl
@[simp] theorem fx25_0 : F25_0.offset = 0 := by kernel_rfl
noncomputable def F25_1 : Field := (fieldOf Tryd.prog 25 1).getD default
@[simp] theorem fo25_1 : fieldOf Tryd.prog 25 1 = some F25_1 := by kernel_rfl
@[simp] theorem ft25_1 : F25_1.type = 23 := by kernel_rfl
@[simp] theorem fx25_1 : F25_1.offset = 1 := by kernel_rfl
@[simp] theorem inf26 : Tryd.prog.info? 26 = some Tryd.t26 := by kernel_rfl
@[simp] theorem tsz26 : Tryd.t26.size = 1 := by kernel_rfl
@[simp] theorem tby26 : Tryd.t26.bytes = 8 := by kernel_rfl
@[simp] theorem agg26 : aggT Tryd.prog 26 = some false := by kernel_rfl
@[simp] theorem slot26 : slotSize Tryd.prog 26 = 0 := by kernel_rfl
attribute [simp] Tryd.underlying26
@[simp] theorem zero26 : zeroV Tryd.prog 26 = some .undef := by kernel_rfl
@[simp] theorem inf27 : Tryd.prog.info? 27 = some Tryd.t27 := by kernel_rfl
@[simp] theorem tsz27 : Tryd.t27.size = 1 := by kernel_rfl
@[simp] theorem tby27 : Tryd.t27.bytes = 8 := by kernel_rfl
@[simp] theorem agg27 : aggT Tryd.prog 27 = some false := by kernel_rfl
@[simp] theorem slot27 : slotSize Tryd.prog 27 = 0 := by kernel_rfl
attribute [simp] Tryd.underlying27
@[simp] theorem zero27 : zeroV Tryd.prog 27 = some .undef := by kernel_rfl
@[simp] theorem inf28 : Tryd.prog.info? 28 = some Tryd.t28 := by kernel_rfl
@[simp] theorem tsz28 : Tryd.t28.size = 1 := by kernel_rfl
@[simp] theorem tby28 : Tryd.t28.bytes = 24 := by kernel_rfl
@[simp] theorem agg28 : aggT Tryd.prog 28 = some false := by kernel_rfl
@[simp] theorem slot28 : slotSize Tryd.prog 28 = 2 := by kernel_rfl
attribute [simp] Tryd.underlying28
@[simp] theorem zero28 : zeroV Tryd.prog 28 = some .nils := by kernel_rfl
@[simp] theorem elem28 : elemT Tryd.prog 28 = some Tryd.t40 := by kernel_rfl
@[simp] theorem inf29 : Tryd.prog.info? 29 = some Tryd.t29 := by kernel_rfl
@[simp] theorem tsz29 : Tryd.t29.size = 1 := by kernel_rfl
@[simp] theorem tby29 : Tryd.t29.bytes = 8 := by kernel_rfl
@[simp] theorem agg29 : aggT Tryd.prog 29 = some false := by kernel_rfl
@[simp] theorem slot29 : slotSize Tryd.prog 29 = 0 := by kernel_rfl
attribute [simp] Tryd.underlying29
@[simp] theorem zero29 : zeroV Tryd.prog 29 = some (.int .i64 0) := by kernel_rfl
@[simp] theorem inf31 : Tryd.prog.info? 31 = some Tryd.t31 := by kernel_rfl
@[simp] theorem tsz31 : Tryd.t31.size = 1 := by kernel_rfl
@[simp] theorem tby31 : Tryd.t31.bytes = 8 := by kernel_rfl
@[simp] theorem agg31 : aggT Tryd.prog 31 = some false := by kernel_rfl
@[simp] theorem slot31 : slotSize Tryd.prog 31 = 0 := by kernel_rfl
attribute [simp] Tryd.underlying31
@[simp] theorem zero31 : zeroV Tryd.prog 31 = some .undef := by kernel_rfl
@[simp] theorem inf32 : Tryd.prog.info? 32 = some Tryd.t32 := by kernel_rfl
@[simp] theorem tsz32 : Tryd.t32.size = 1 := by kernel_rfl
@[simp] theorem tby32 : Tryd.t32.bytes = 8 := by kernel_rfl
@[simp] theorem agg32 : aggT Tryd.prog 32 = some false := by kernel_rfl
@[simp] theorem slot32 : slotSize Tryd.prog 32 = 0 := by kernel_rfl
attribute [simp] Tryd.underlying32
@[simp] theorem zero32 : zeroV Tryd.prog 32 = some .undef := by kernel_rfl
@[simp] theorem inf33 : Tryd.prog.info? 33 = some Tryd.t33 := by kernel_rfl
@[simp] theorem tsz33 : Tryd.t33.size = 1 := by kernel_rfl
@[simp] theorem tby33 : Tryd.t33.bytes = 8 := by kernel_rfl
@[simp] theorem agg33 : aggT Tryd.prog 33 = some false := by kernel_rfl
@[simp] theorem slot33 : slotSize Tryd.prog 33 = 0 := by kernel_rfl
attribute [simp] Tryd.underlying33
@[simp] theorem zero33 : zeroV Tryd.prog 33 = some .undef := by kernel_rfl
@[simp] theorem inf34 : Tryd.prog.info? 34 = some Tryd.t34 := by kernel_rfl
@[simp] theorem tsz34 : Tryd.t34.size = 1 := by kernel_rfl
@[simp] theorem tby34 : Tryd.t34.bytes = 8 := by kernel_rfl
@[simp] theorem agg34 : aggT Tryd.prog 34 = some false := by kernel_rfl
@[simp] theorem slot34 : slotSize Tryd.prog 34 = 0 := by kernel_rfl
attribute [simp] Tryd.underlying34
@[simp] theorem zero34 : zeroV Tryd.prog 34 = some .undef := by kernel_rfl
@[simp] theorem inf36 : Tryd.prog.info? 36 = some Tryd.t36 := by kernel_rfl
@[simp] theorem tsz36 : Tryd.t36.size = 1 := by kernel_rfl
@[simp] theorem tby36 : Tryd.t36.bytes = 8 := by kernel_rfl
@[simp] theorem agg36 : aggT Tryd.prog 36 = some false := by kernel_rfl
@[simp] theorem slot36 : slotSize Tryd.prog 36 = 0 := by kernel_rfl
attribute [simp] Tryd.underlying36
@[simp] theorem zero36 : zeroV Tryd.prog 36 = some .undef := by kernel_rfl
@[simp] theorem inf37 : Tryd.prog.info? 37 = some Tryd.t37 := by kernel_rfl
@[simp] theorem tsz37 : Tryd.t37.size = 1 := by kernel_rfl
@[simp] theorem tby37 : Tryd.t37.bytes = 8 := by kernel_rfl
@[simp] theorem agg37 : aggT Tryd.prog 37 = some false := by kernel_rfl
@[simp] theorem slot37 : slotSize Tryd.prog 37 = 0 := by kernel_rfl
attribute [simp] Tryd.underlying37
@[simp] theorem zero37 : zeroV Tryd.prog 37 = some .undef := by kernel_rfl
@[simp] theorem inf38 : Tryd.prog.info? 38 = some Tryd.t38 := by kernel_rfl
@[simp] theorem tsz38 : Tryd.t38.size = 1 := by kernel_rfl
@[simp] theorem tby38 : Tryd.t38.bytes = 8 := by kernel_rfl
@[simp] theorem agg38 : aggT Tryd.prog 38 = some false := by kernel_rfl
@[simp] theorem slot38 : slotSize Tryd.prog 38 = 0 := by kernel_rfl
attribute [simp] Tryd.underlying38
@[simp] theorem zero38 : zeroV Tryd.prog 38 = some .undef := by kernel_rfl
@[simp] theorem inf39 : Tryd.prog.info? 39 = some Tryd.t39 := by kernel_rfl
@[simp] theorem tsz39 : Tryd.t39.size = 2 := by kernel_rfl
@[simp] theorem tby39 : Tryd.t39.bytes = 24 := by kernel_rfl
@[simp] theorem agg39 : aggT Tryd.prog 39 = some true := by kernel_rfl
@[simp] theorem slot39 : slotSize Tryd.prog 39 = 0 := by kernel_rfl
attribute [simp] Tryd.underlying39
@[simp] theorem zero39 : zeroV Tryd.prog 39 = some (.agg [(.int .i64 0), (.str [])]) := by kernel_rfl
@[simp] theorem slots39 : slotSizes Tryd.prog 39 = [0, 0] := by kernel_rfl
noncomputable def F39_0 : Field := (fieldOf Tryd.prog 39 0).getD default
@[simp] theorem fo39_0 : fieldOf Tryd.prog 39 0 = some F39_0 := by kernel_rfl
@[simp] theorem ft39_0 : F39_0.type = 3 := by kernel_rfl
@[simp] theorem fx39_0 : F39_0.offset = 0 := by kernel_rfl
noncomputable def F39_1 : Field := (fieldOf Tryd.prog 39 1).getD default
@[simp] theorem fo39_1 : fieldOf Tryd.prog 39 1 = some F39_1 := by kernel_rfl
@[simp] theorem ft39_1 : F39_1.type = 9 := by kernel_rfl
@[simp] theorem fx39_1 : F39_1.offset = 1 := by kernel_rfl
@[simp] theorem inf40 : Tryd.prog.info? 40 = some Tryd.t40 := by kernel_rfl
@[simp] theorem tsz40 : Tryd.t40.size = 2 := by kernel_rfl
@[simp] theorem tby40 : Tryd.t40.bytes = 24 := by kernel_rfl
@[simp] theorem agg40 : aggT Tryd.prog 40 = some true := by kernel_rfl
@[simp] theorem slot40 : slotSize Tryd.prog 40 = 0 := by kernel_rfl
attribute [simp] Tryd.underlying40
@[simp] theorem zero40 : zeroV Tryd.prog 40 = some (.agg [(.int .i64 0), (.str [])]) := by kernel_rfl
@[simp] theorem slots40 : slotSizes Tryd.prog 40 = [0, 0] := by kernel_rfl
noncomputable def F40_0 : Field := (fieldOf Tryd.prog 40 0).getD default
@[simp] theorem fo40_0 : fieldOf Tryd.prog 40 0 = some F40_0 := by kernel_rfl
@[simp] theorem ft40_0 : F40_0.type = 3 := by kernel_rfl
@[simp] theorem fx40_0 : F40_0.offset = 0 := by kernel_rfl
noncomputable def F40_1 : Field := (fieldOf Tryd.prog 40 1).getD default
@[simp] theorem fo40_1 : fieldOf Tryd.prog 40 1 = some F40_1 := by kernel_rfl
@[simp] theorem ft40_1 : F40_1.type = 9 := by kernel_rfl
@[simp] theorem fx40_1 : F40_1.offset = 1 := by kernel_rfl
@[simp] theorem inf41 : Tryd.prog.info? 41 = some Tryd.t41 := by kernel_rfl
@[simp] theorem tsz41 : Tryd.t41.size = 1 := by kernel_rfl
@[simp] theorem tby41 : Tryd.t41.bytes = 8 := by kernel_rfl
@[simp] theorem agg41 : aggT Tryd.prog 41 = some false := by kernel_rfl
@[simp] theorem slot41 : slotSize Tryd.prog 41 = 0 := by kernel_rfl
attribute [simp] Tryd.underlying41
@[simp] theorem zero41 : zeroV Tryd.prog 41 = some .undef := by kernel_rfl
@[simp] theorem inf43 : Tryd.prog.info? 43 = some Tryd.t43 := by kernel_rfl
@[simp] theorem tsz43 : Tryd.t43.size = 1 := by kernel_rfl
@[simp] theorem tby43 : Tryd.t43.bytes = 8 := by kernel_rfl
@[simp] theorem agg43 : aggT Tryd.prog 43 = some false := by kernel_rfl
@[simp] theorem slot43 : slotSize Tryd.prog 43 = 0 := by kernel_rfl
attribute [simp] Tryd.underlying43
@[simp] theorem zero43 : zeroV Tryd.prog 43 = some .undef := by kernel_rfl
@[simp] theorem inf44 : Tryd.prog.info? 44 = some Tryd.t44 := by kernel_rfl
@[simp] theorem tsz44 : Tryd.t44.size = 2 := by kernel_rfl
@[simp] theorem tby44 : Tryd.t44.bytes = 16 := by kernel_rfl
@[simp] theorem agg44 : aggT Tryd.prog 44 = some true := by kernel_rfl
@[simp] theorem slot44 : slotSize Tryd.prog 44 = 0 := by kernel_rfl
attribute [simp] Tryd.underlying44
@[simp] theorem zero44 : zeroV Tryd.prog 44 = some (.agg [(.int .i64 0), (.int .i64 0)]) := by kernel_rfl
@[simp] theorem slots44 : slotSizes Tryd.prog 44 = [0, 0] := by kernel_rfl
noncomputable def F44_0 : Field := (fieldOf Tryd.prog 44 0).getD default
@[simp] theorem fo44_0 : fieldOf Tryd.prog 44 0 = some F44_0 := by kernel_rfl
@[simp] theorem ft44_0 : F44_0.type = 3 := by kernel_rfl
@[simp] theorem fx44_0 : F44_0.offset = 0 := by kernel_rfl
noncomputable def F44_1 : Field := (fieldOf Tryd.prog 44 1).getD default
@[simp] theorem fo44_1 : fieldOf Tryd.prog 44 1 = some F44_1 := by kernel_rfl
@[simp] theorem ft44_1 : F44_1.type = 3 := by kernel_rfl
@[simp] theorem fx44_1 : F44_1.offset = 1 := by kernel_rfl
@[simp] theorem inf45 : Tryd.prog.info? 45 = some Tryd.t45 := by kernel_rfl
@[simp] theorem tsz45 : Tryd.t45.size = 2 := by kernel_rfl
@[simp] theorem tby45 : Tryd.t45.bytes = 16 := by kernel_rfl
@[simp] theorem agg45 : aggT Tryd.prog 45 = some true := by kernel_rfl
@[simp] theorem slot45 : slotSize Tryd.prog 45 = 0 := by kernel_rfl
attribute [simp] Tryd.underlying45
@[simp] theorem zero45 : zeroV Tryd.prog 45 = some (.agg [(.int .i64 0), (.int .i64 0)]) := by kernel_rfl
@[simp] theorem slots45 : slotSizes Tryd.prog 45 = [0, 0] := by kernel_rfl
noncomputable def F45_0 : Field := (fieldOf Tryd.prog 45 0).getD default
@[simp] theorem fo45_0 : fieldOf Tryd.prog 45 0 = some F45_0 := by kernel_rfl
@[simp] theorem ft45_0 : F45_0.type = 3 := by kernel_rfl
@[simp] theorem fx45_0 : F45_0.offset = 0 := by kernel_rfl
noncomputable def F45_1 : Field := (fieldOf Tryd.prog 45 1).getD default
@[simp] theorem fo45_1 : fieldOf Tryd.prog 45 1 = some F45_1 := by kernel_rfl
@[simp] theorem ft45_1 : F45_1.type = 3 := by kernel_rfl
@[simp] theorem fx45_1 : F45_1.offset = 1 := by kernel_rfl
@[simp] theorem inf47 : Tryd.prog.info? 47 = some Tryd.t47 := by kernel_rfl
@[simp] theorem tsz47 : Tryd.t47.size = 1 := by kernel_rfl
@[simp] theorem tby47 : Tryd.t47.bytes = 8 := by kernel_rfl
@[simp] theorem agg47 : aggT Tryd.prog 47 = some false := by kernel_rfl
@[simp] theorem slot47 : slotSize Tryd.prog 47 = 0 := by kernel_rfl
attribute [simp] Tryd.underlying47
@[simp] theorem zero47 : zeroV Tryd.prog 47 = some .undef := by kernel_rfl
@[simp] theorem inf48 : Tryd.prog.info? 48 = some Tryd.t48 := by kernel_rfl
@[simp] theorem tsz48 : Tryd.t48.size = 1 := by kernel_rfl
@[simp] theorem tby48 : Tryd.t48.bytes = 8 := by kernel_rfl
@[simp] theorem agg48 : aggT Tryd.prog 48 = some false := by kernel_rfl
@[simp] theorem slot48 : slotSize Tryd.prog 48 = 0 := by kernel_rfl
attribute [simp] Tryd.underlying48
@[simp] theorem zero48 : zeroV Tryd.prog 48 = some .undef := by kernel_rfl
@[simp] theorem inf49 : Tryd.prog.info? 49 = some Tryd.t49 := by kernel_rfl
@[simp] theorem tsz49 : Tryd.t49.size = 1 := by kernel_rfl
@[simp] theorem tby49 : Tryd.t49.bytes = 8 := by kernel_rfl
@[simp] theorem agg49 : aggT Tryd.prog 49 = some false := by kernel_rfl
@[simp] theorem slot49 : slotSize Tryd.prog 49 = 0 := by kernel_rfl
attribute [simp] Tryd.underlying49
@[simp] theorem zero49 : zeroV Tryd.prog 49 = some .undef := by kernel_rfl
@[simp] theorem inf51 : Tryd.prog.info? 51 = some Tryd.t51 := by kernel_rfl
@[simp] theorem tsz51 : Tryd.t51.size = 1 := by kernel_rfl
@[simp] theorem tby51 : Tryd.t51.bytes = 8 := by kernel_rfl
@[simp] theorem agg51 : aggT Tryd.prog 51 = some false := by kernel_rfl
@[simp] theorem slot51 : slotSize Tryd.prog 51 = 0 := by kernel_rfl
attribute [simp] Tryd.underlying51
@[simp] theorem zero51 : zeroV Tryd.prog 51 = some .undef := by kernel_rfl
@[simp] theorem inf53 : Tryd.prog.info? 53 = some Tryd.t53 := by kernel_rfl
@[simp] theorem tsz53 : Tryd.t53.size = 1 := by kernel_rfl
@[simp] theorem tby53 : Tryd.t53.bytes = 8 := by kernel_rfl
@[simp] theorem agg53 : aggT Tryd.prog 53 = some false := by kernel_rfl
@[simp] theorem slot53 : slotSize Tryd.prog 53 = 0 := by kernel_rfl
attribute [simp] Tryd.underlying53
@[simp] theorem zero53 : zeroV Tryd.prog 53 = some .undef := by kernel_rfl
@[simp] theorem inf55 : Tryd.prog.info? 55 = some Tryd.t55 := by kernel_rfl
@[simp] theorem tsz55 : Tryd.t55.size = 1 := by kernel_rfl
@[simp] theorem tby55 : Tryd.t55.bytes = 8 := by kernel_rfl
@[simp] theorem agg55 : aggT Tryd.prog 55 = some false := by kernel_rfl
@[simp] theorem slot55 : slotSize Tryd.prog 55 = 0 := by kernel_rfl
attribute [simp] Tryd.underlying55
@[simp] theorem zero55 : zeroV Tryd.prog 55 = some .undef := by kernel_rfl
@[simp] theorem inf56 : Tryd.prog.info? 56 = some Tryd.t56 := by kernel_rfl
@[simp] theorem tsz56 : Tryd.t56.size = 1 := by kernel_rfl
@[simp] theorem tby56 : Tryd.t56.bytes = 8 := by kernel_rfl
@[simp] theorem agg56 : aggT Tryd.prog 56 = some false := by kernel_rfl
@[simp] theorem slot56 : slotSize Tryd.prog 56 = 0 := by kernel_rfl
attribute [simp] Tryd.underlying56
@[simp] theorem zero56 : zeroV Tryd.prog 56 = some .undef := by kernel_rfl
@[simp] theorem inf57 : Tryd.prog.info? 57 = some Tryd.t57 := by kernel_rfl
@[simp] theorem tsz57 : Tryd.t57.size = 1 := by kernel_rfl
@[simp] theorem tby57 : Tryd.t57.bytes = 8 := by kernel_rfl
@[simp] theorem agg57 : aggT Tryd.prog 57 = some false := by kernel_rfl
@[simp] theorem slot57 : slotSize Tryd.prog 57 = 0 := by kernel_rfl
attribute [simp] Tryd.underlying57
@[simp] theorem zero57 : zeroV Tryd.prog 57 = some .undef := by kernel_rfl
@[simp] theorem inf58 : Tryd.prog.info? 58 = some Tryd.t58 := by kernel_rfl
@[simp] theorem tsz58 : Tryd.t58.size = 1 := by kernel_rfl
@[simp] theorem tby58 : Tryd.t58.bytes = 8 := by kernel_rfl
@[simp] theorem agg58 : aggT Tryd.prog 58 = some false := by kernel_rfl
@[simp] theorem slot58 : slotSize Tryd.prog 58 = 0 := by kernel_rfl
attribute [simp] Tryd.underlying58
@[simp] theorem zero58 : zeroV Tryd.prog 58 = some .undef := by kernel_rfl
@[simp] theorem inf59 : Tryd.prog.info? 59 = some Tryd.t59 := by kernel_rfl
@[simp] theorem tsz59 : Tryd.t59.size = 1 := by kernel_rfl
@[simp] theorem tby59 : Tryd.t59.bytes = 8 := by kernel_rfl
@[simp] theorem agg59 : aggT Tryd.prog 59 = some false := by kernel_rfl
@[simp] theorem slot59 : slotSize Tryd.prog 59 = 0 := by kernel_rfl
attribute [simp] Tryd.underlying59
@[simp] theorem zero59 : zeroV Tryd.prog 59 = some .undef := by kernel_rfl
@[simp] theorem inf60 : Tryd.prog.info? 60 = some Tryd.t60 := by kernel_rfl
@[simp] theorem tsz60 : Tryd.t60.size = 1 := by kernel_rfl
@[simp] theorem tby60 : Tryd.t60.bytes = 8 := by kernel_rfl
@[simp] theorem agg60 : aggT Tryd.prog 60 = some false := by kernel_rfl
@[simp] theorem slot60 : slotSize Tryd.prog 60 = 0 := by kernel_rfl
attribute [simp] Tryd.underlying60
@[simp] theorem zero60 : zeroV Tryd.prog 60 = some .undef := by kernel_rfl
@[simp] theorem inf61 : Tryd.prog.info? 61 = some Tryd.t61 := by kernel_rfl
@[simp] theorem tsz61 : Tryd.t61.size = 1 := by kernel_rfl
@[simp] theorem tby61 : Tryd.t61.bytes = 8 := by kernel_rfl
@[simp] theorem agg61 : aggT Tryd.prog 61 = some false := by kernel_rfl
@[simp] theorem slot61 : slotSize Tryd.prog 61 = 0 := by kernel_rfl
attribute [simp] Tryd.underlying61
@[simp] theorem zero61 : zeroV Tryd.prog 61 = some .undef := by kernel_rfl
@[simp] theorem inf62 : Tryd.prog.info? 62 = some Tryd.t62 := by kernel_rfl
@[simp] theorem tsz62 : Tryd.t62.size = 1 := by kernel_rfl
@[simp] theorem tby62 : Tryd.t62.bytes = 8 := by kernel_rfl
@[simp] theorem agg62 : aggT Tryd.prog 62 = some false := by kernel_rfl
@[simp] theorem slot62 : slotSize Tryd.prog 62 = 0 := by kernel_rfl
attribute [simp] Tryd.underlying62
@[simp] theorem zero62 : zeroV Tryd.prog 62 = some .nilm := by kernel_rfl
@[simp] theorem inf64 : Tryd.prog.info? 64 = some Tryd.t64 := by kernel_rfl
@[simp] theorem tsz64 : Tryd.t64.size = 1 := by kernel_rfl
@[simp] theorem tby64 : Tryd.t64.bytes = 8 := by kernel_rfl
@[simp] theorem agg64 : aggT Tryd.prog 64 = some false := by kernel_rfl
@[simp] theorem slot64 : slotSize Tryd.prog 64 = 0 := by kernel_rfl
attribute [simp] Tryd.underlying64
@[simp] theorem zero64 : zeroV Tryd.prog 64 = some .undef := by kernel_rfl
@[simp] theorem inf65 : Tryd.prog.info? 65 = some Tryd.t65 := by kernel_rfl
@[simp] theorem tsz65 : Tryd.t65.size = 1 := by kernel_rfl
@[simp] theorem tby65 : Tryd.t65.bytes = 8 := by kernel_rfl
@[simp] theorem agg65 : aggT Tryd.prog 65 = some false := by kernel_rfl
@[simp] theorem slot65 : slotSize Tryd.prog 65 = 0 := by kernel_rfl
attribute [simp] Tryd.underlying65
@[simp] theorem zero65 : zeroV Tryd.prog 65 = some .undef := by kernel_rfl
@[simp] theorem inf66 : Tryd.prog.info? 66 = some Tryd.t66 := by kernel_rfl
@[simp] theorem tsz66 : Tryd.t66.size = 1 := by kernel_rfl
@[simp] theorem tby66 : Tryd.t66.bytes = 24 := by kernel_rfl
@[simp] theorem agg66 : aggT Tryd.prog 66 = some false := by kernel_rfl
@[simp] theorem slot66 : slotSize Tryd.prog 66 = 1 := by kernel_rfl
attribute [simp] Tryd.underlying66
@[simp] theorem zero66 : zeroV Tryd.prog 66 = some .nils := by kernel_rfl
@[simp] theorem elem66 : elemT Tryd.prog 66 = some Tryd.t5 := by kernel_rfl
@[simp] theorem inf67 : Tryd.prog.info? 67 = some Tryd.t67 := by kernel_rfl
@[simp] theorem tsz67 : Tryd.t67.size = 1 := by kernel_rfl
@[simp] theorem tby67 : Tryd.t67.bytes = 8 := by kernel_rfl
@[simp] theorem agg67 : aggT Tryd.prog 67 = some false := by kernel_rfl
@[simp] theorem slot67 : slotSize Tryd.prog 67 = 0 := by kernel_rfl
attribute [simp] Tryd.underlying67
@[simp] theorem zero67 : zeroV Tryd.prog 67 = some (.int .u64 0) := by kernel_rfl
@[simp] theorem inf68 : Tryd.prog.info? 68 = some Tryd.t68 := by kernel_rfl
@[simp] theorem tsz68 : Tryd.t68.size = 1 := by kernel_rfl
@[simp] theorem tby68 : Tryd.t68.bytes = 8 := by kernel_rfl
@[simp] theorem agg68 : aggT Tryd.prog 68 = some false := by kernel_rfl
@[simp] theorem slot68 : slotSize Tryd.prog 68 = 0 := by kernel_rfl
attribute [simp] Tryd.underlying68
@[simp] theorem zero68 : zeroV Tryd.prog 68 = some .undef := by kernel_rfl
@[simp] theorem inf70 : Tryd.prog.info? 70 = some Tryd.t70 := by kernel_rfl
@[simp] theorem tsz70 : Tryd.t70.size = 1 := by kernel_rfl
@[simp] theorem tby70 : Tryd.t70.bytes = 8 := by kernel_rfl
@[simp] theorem agg70 : aggT Tryd.prog 70 = some false := by kernel_rfl
@[simp] theorem slot70 : slotSize Tryd.prog 70 = 0 := by kernel_rfl
attribute [simp] Tryd.underlying70
@[simp] theorem zero70 : zeroV Tryd.prog 70 = some .undef := by kernel_rfl
@[simp] theorem inf71 : Tryd.prog.info? 71 = some Tryd.t71 := by kernel_rfl
@[simp] theorem tsz71 : Tryd.t71.size = 1 := by kernel_rfl
@[simp] theorem tby71 : Tryd.t71.bytes = 8 := by kernel_rfl
@[simp] theorem agg71 : aggT Tryd.prog 71 = some false := by kernel_rfl
@[simp] theorem slot71 : slotSize Tryd.prog 71 = 0 := by kernel_rfl
attribute [simp] Tryd.underlying71
@[simp] theorem zero71 : zeroV Tryd.prog 71 = some .nilm := by kernel_rfl
@[simp] theorem inf72 : Tryd.prog.info? 72 = some Tryd.t72 := by kernel_rfl
@[simp] theorem tsz72 : Tryd.t72.size = 1 := by kernel_rfl
@[simp] theorem tby72 : Tryd.t72.bytes = 8 := by kernel_rfl
@[simp] theorem agg72 : aggT Tryd.prog 72 = some false := by kernel_rfl
@[simp] theorem slot72 : slotSize Tryd.prog 72 = 0 := by kernel_rfl
attribute [simp] Tryd.underlying72
@[simp] theorem zero72 : zeroV Tryd.prog 72 = some .undef := by kernel_rfl
@[simp] theorem inf73 : Tryd.prog.info? 73 = some Tryd.t73 := by kernel_rfl
@[simp] theorem tsz73 : Tryd.t73.size = 1 := by kernel_rfl
@[simp] theorem tby73 : Tryd.t73.bytes = 8 := by kernel_rfl
@[simp] theorem agg73 : aggT Tryd.prog 73 = some false := by kernel_rfl
@[simp] theorem slot73 : slotSize Tryd.prog 73 = 0 := by kernel_rfl
attribute [simp] Tryd.underlying73
@[simp] theorem zero73 : zeroV Tryd.prog 73 = some .undef := by kernel_rfl
@[simp] theorem inf74 : Tryd.prog.info? 74 = some Tryd.t74 := by kernel_rfl
@[simp] theorem tsz74 : Tryd.t74.size = 1 := by kernel_rfl
@[simp] theorem tby74 : Tryd.t74.bytes = 8 := by kernel_rfl
@[simp] theorem agg74 : aggT Tryd.prog 74 = some false := by kernel_rfl
@[simp] theorem slot74 : slotSize Tryd.prog 74 = 0 := by kernel_rfl
attribute [simp] Tryd.underlying74
@[simp] theorem zero74 : zeroV Tryd.prog 74 = some .undef := by kernel_rfl
@[simp] theorem inf75 : Tryd.prog.info? 75 = some Tryd.t75 := by kernel_rfl
@[simp] theorem tsz75 : Tryd.t75.size = 1 := by kernel_rfl
@[simp] theorem tby75 : Tryd.t75.bytes = 8 := by kernel_rfl
@[simp] theorem agg75 : aggT Tryd.prog 75 = some false := by kernel_rfl
@[simp] theorem slot75 : slotSize Tryd.prog 75 = 0 := by kernel_rfl
attribute [simp] Tryd.underlying75
@[simp] theorem zero75 : zeroV Tryd.prog 75 = some .undef := by kernel_rfl
@[simp] theorem inf76 : Tryd.prog.info? 76 = some Tryd.t76 := by kernel_rfl
@[simp] theorem tsz76 : Tryd.t76.size = 1 := by kernel_rfl
@[simp] theorem tby76 : Tryd.t76.bytes = 8 := by kernel_rfl
@[simp] theorem agg76 : aggT Tryd.prog 76 = some false := by kernel_rfl
@[simp] theorem slot76 : slotSize Tryd.prog 76 = 0 := by kernel_rfl
attribute [simp] Tryd.underlying76
@[simp] theorem zero76 : zeroV Tryd.prog 76 = some .undef := by kernel_rfl
@[simp] theorem inf77 : Tryd.prog.info? 77 = some Tryd.t77 := by kernel_rfl
@[simp] theorem tsz77 : Tryd.t77.size = 1 := by kernel_rfl
@[simp] theorem tby77 : Tryd.t77.bytes = 8 := by kernel_rfl
@[simp] theorem agg77 : aggT Tryd.prog 77 = some false := by kernel_rfl
@[simp] theorem slot77 : slotSize Tryd.prog 77 = 0 := by kernel_rfl
attribute [simp] Tryd.underlying77
@[simp] theorem zero77 : zeroV Tryd.prog 77 = some .undef := by kernel_rfl
@[simp] theorem inf78 : Tryd.prog.info? 78 = some Tryd.t78 := by kernel_rfl
@[simp] theorem tsz78 : Tryd.t78.size = 1 := by kernel_rfl
@[simp] theorem tby78 : Tryd.t78.bytes = 8 := by kernel_rfl
@[simp] theorem agg78 : aggT Tryd.prog 78 = some false := by kernel_rfl
@[simp] theorem slot78 : slotSize Tryd.prog 78 = 0 := by kernel_rfl
attribute [simp] Tryd.underlying78
@[simp] theorem zero78 : zeroV Tryd.prog 78 = some .undef := by kernel_rfl
@[simp] theorem inf79 : Tryd.prog.info? 79 = some Tryd.t79 := by kernel_rfl
@[simp] theorem tsz79 : Tryd.t79.size = 1 := by kernel_rfl
@[simp] theorem tby79 : Tryd.t79.bytes = 8 := by kernel_rfl
@[simp] theorem agg79 : aggT Tryd.prog 79 = some false := by kernel_rfl
@[simp] theorem slot79 : slotSize Tryd.prog 79 = 0 := by kernel_rfl
attribute [simp] Tryd.underlying79
@[simp] theorem zero79 : zeroV Tryd.prog 79 = some .undef := by kernel_rfl
@[simp] theorem inf81 : Tryd.prog.info? 81 = some Tryd.t81 := by kernel_rfl
@[simp] theorem tsz81 : Tryd.t81.size = 1 := by kernel_rfl
@[simp] theorem tby81 : Tryd.t81.bytes = 8 := by kernel_rfl
@[simp] theorem agg81 : aggT Tryd.prog 81 = some false := by kernel_rfl
@[simp] theorem slot81 : slotSize Tryd.prog 81 = 0 := by kernel_rfl
attribute [simp] Tryd.underlying81
@[simp] theorem zero81 : zeroV Tryd.prog 81 = some .undef := by kernel_rfl
@[simp] theorem inf82 : Tryd.prog.info? 82 = some Tryd.t82 := by kernel_rfl
@[simp] theorem tsz82 : Tryd.t82.size = 1 := by kernel_rfl
@[simp] theorem tby82 : Tryd.t82.bytes = 8 := by kernel_rfl
@[simp] theorem agg82 : aggT Tryd.prog 82 = some false := by kernel_rfl
@[simp] theorem slot82 : slotSize Tryd.prog 82 = 0 := by kernel_rfl
attribute [simp] Tryd.underlying82
@[simp] theorem zero82 : zeroV Tryd.prog 82 = some .undef := by kernel_rfl
@[simp] theorem inf83 : Tryd.prog.info? 83 = some Tryd.t83 := by kernel_rfl
@[simp] theorem tsz83 : Tryd.t83.size = 2 := by kernel_rfl
@[simp] theorem tby83 : Tryd.t83.bytes = 32 := by kernel_rfl
@[simp] theorem agg83 : aggT Tryd.prog 83 = some true := by kernel_rfl
@[simp] theorem slot83 : slotSize Tryd.prog 83 = 0 := by kernel_rfl
attribute [simp] Tryd.underlying83
@[simp] theorem zero83 : zeroV Tryd.prog 83 = some (.agg [.undef, .nils]) := by kernel_rfl
@[simp] theorem slots83 : slotSizes Tryd.prog 83 = [0, 1] := by kernel_rfl
noncomputable def F83_0 : Field := (fieldOf Tryd.prog 83 0).getD default
@[simp] theorem fo83_0 : fieldOf Tryd.prog 83 0 = some F83_0 := by kernel_rfl
@[simp] theorem ft83_0 : F83_0.type = 82 := by kernel_rfl
@[simp] theorem fx83_0 : F83_0.offset = 0 := by kernel_rfl
noncomputable def F83_1 : Field := (fieldOf Tryd.prog 83 1).getD default
@[simp] theorem fo83_1 : fieldOf Tryd.prog 83 1 = some F83_1 := by kernel_rfl
@[simp] theorem ft83_1 : F83_1.type = 66 := by kernel_rfl
@[simp] theorem fx83_1 : F83_1.offset = 1 := by kernel_rfl
@[simp] theorem inf84 : Tryd.prog.info? 84 = some Tryd.t84 := by kernel_rfl
@[simp] theorem tsz84 : Tryd.t84.size = 2 := by kernel_rfl
@[simp] theorem tby84 : Tryd.t84.bytes = 32 := by kernel_rfl
@[simp] theorem agg84 : aggT Tryd.prog 84 = some true := by kernel_rfl
@[simp] theorem slot84 : slotSize Tryd.prog 84 = 0 := by kernel_rfl
attribute [simp] Tryd.underlying84
@[simp] theorem zero84 : zeroV Tryd.prog 84 = some (.agg [.undef, .nils]) := by kernel_rfl
@[simp] theorem slots84 : slotSizes Tryd.prog 84 = [0, 1] := by kernel_rfl
noncomputable def F84_0 : Field := (fieldOf Tryd.prog 84 0).getD default
@[simp] theorem fo84_0 : fieldOf Tryd.prog 84 0 = some F84_0 := by kernel_rfl
@[simp] theorem ft84_0 : F84_0.type = 82 := by kernel_rfl
@[simp] theorem fx84_0 : F84_0.offset = 0 := by kernel_rfl
noncomputable def F84_1 : Field := (fieldOf Tryd.prog 84 1).getD default
@[simp] theorem fo84_1 : fieldOf Tryd.prog 84 1 = some F84_1 := by kernel_rfl
@[simp] theorem ft84_1 : F84_1.type = 66 := by kernel_rfl
@[simp] theorem fx84_1 : F84_1.offset = 1 := by kernel_rfl
@[simp] theorem inf85 : Tryd.prog.info? 85 = some Tryd.t85 := by kernel_rfl
@[simp] theorem tsz85 : Tryd.t85.size = 1 := by kernel_rfl
@[simp] theorem tby85 : Tryd.t85.bytes = 8 := by kernel_rfl
@[simp] theorem agg85 : aggT Tryd.prog 85 = some false := by kernel_rfl
@[simp] theorem slot85 : slotSize Tryd.prog 85 = 0 := by kernel_rfl
attribute [simp] Tryd.underlying85
@[simp] theorem zero85 : zeroV Tryd.prog 85 = some .undef := by kernel_rfl
@[simp] theorem inf89 : Tryd.prog.info? 89 = some Tryd.t89 := by kernel_rfl
@[simp] theorem tsz89 : Tryd.t89.size = 1 := by kernel_rfl
@[simp] theorem tby89 : Tryd.t89.bytes = 8 := by kernel_rfl
@[simp] theorem agg89 : aggT Tryd.prog 89 = some false := by kernel_rfl
@[simp] theorem slot89 : slotSize Tryd.prog 89 = 0 := by kernel_rfl
attribute [simp] Tryd.underlying89
@[simp] theorem zero89 : zeroV Tryd.prog 89 = some .undef := by kernel_rfl
@[simp] theorem inf90 : Tryd.prog.info? 90 = some Tryd.t90 := by kernel_rfl
@[simp] theorem tsz90 : Tryd.t90.size = 1 := by kernel_rfl
@[simp] theorem tby90 : Tryd.t90.bytes = 8 := by kernel_rfl
@[simp] theorem agg90 : aggT Tryd.prog 90 = some false := by kernel_rfl
@[simp] theorem slot90 : slotSize Tryd.prog 90 = 0 := by kernel_rfl
attribute [simp] Tryd.underlying90
@[simp] theorem zero90 : zeroV Tryd.prog 90 = some .undef := by kernel_rfl
@[simp] theorem inf91 : Tryd.prog.info? 91 = some Tryd.t91 := by kernel_rfl
@[simp] theorem tsz91 : Tryd.t91.size = 1 := by kernel_rfl
@[simp] theorem tby91 : Tryd.t91.bytes = 8 := by kernel_rfl
@[simp] theorem agg91 : aggT Tryd.prog 91 = some false := by kernel_rfl
@[simp] theorem slot91 : slotSize Tryd.prog 91 = 0 := by kernel_rfl
attribute [simp] Tryd.underlying91
@[simp] theorem zero91 : zeroV Tryd.prog 91 = some .undef := by kernel_rfl
@[simp] theorem inf92 : Tryd.prog.info? 92 = some Tryd.t92 := by kernel_rfl
@[simp] theorem tsz92 : Tryd.t92.size = 256 := by kernel_rfl
@[simp] theorem tby92 : Tryd.t92.bytes = 256 := by kernel_rfl
@[simp] theorem agg92 : aggT Tryd.prog 92 = some true := by kernel_rfl
@[simp] theorem slot92 : slotSize Tryd.prog 92 = 0 := by kernel_rfl
attribute [simp] Tryd.underlying92
@[simp] theorem zero92 : zeroV Tryd.prog 92 = some (.agg [(.bool false), (.bool false), (.bool false), (.bool false), (.bool false), (.bool false), (.bool false), (.bool false), (.bool false), (.bool false), (.bool false), (.bool false), (.bool false), (.bool false), (.bool false), (.bool false), (.bool false), (.bool false), (.bool false), (.bool false), (.bool false), (.bool false), (.bool false), (.bool false), (.bool false), (.bool false), (.bool false), (.bool false), (.bool false), (.bool false), (.bool false), (.bool false), (.bool false), (.bool false), (.bool false), (.bool false), (.bool false), (.bool false), (.bool false), (.bool false), (.bool false), (.bool false), (.bool false), (.bool false), (.bool false), (.bool false), (.bool false), (.bool false), (.bool false), (.bool false), (.bool false), (.bool false), (.bool false), (.bool false), (.bool false), (.bool false), (.bool false), (.bool false), (.bool false), (.bool false), (.bool false), (.bool false), (.bool false), (.bool false), (.bool false), (.bool false), (.bool false), (.bool false), (.bool false), (.bool false), (.bool false), (.bool false), (.bool false), (.bool false), (.bool false), (.bool false), (.bool false), (.bool false), (.bool false), (.bool false), (.bool false), (.bool false), (.bool false), (.bool false), (.bool false), (.bool false), (.bool false), (.bool false), (.bool false), (.bool false), (.bool false), (.bool false), (.bool false), (.bool false), (.bool false), (.bool false), (.bool false), (.bool false), (.bool false), (.bool false), (.bool false), (.bool false), (.bool false), (.bool false), (.bool false), (.bool false), (.bool false), (.bool false), (.bool false), (.bool false), (.bool false), (.bool false), (.bool false), (.bool false), (.bool false), (.bool false), (.bool false), (.bool false), (.bool false), (.bool false), (.bool false), (.bool false), (.bool false), (.bool false), (.bool false), (.bool false), (.bool false), (.bool false), (.bool false), (.bool false), (.bool false), (.bool false), (.bool false), (.bool false), (.bool false), (.bool false), (.bool false), (.bool false), (.bool false), (.bool false), (.bool false), (.bool false), (.bool false), (.bool false), (.bool false), (.bool false), (.bool false), (.bool false), (.bool false), (.bool false), (.bool false), (.bool false), (.bool false), (.bool false), (.bool false), (.bool false), (.bool false), (.bool false), (.bool false), (.bool false), (.bool false), (.bool false), (.bool false), (.bool false), (.bool false), (.bool false), (.bool false), (.bool false), (.bool false), (.bool false), (.bool false), (.bool false), (.bool false), (.bool false), (.bool false), (.bool false), (.bool false), (.bool false), (.bool false), (.bool false), (.bool false), (.bool false), (.bool false), (.bool false), (.bool false), (.bool false), (.bool false), (.bool false), (.bool false), (.bool false), (.bool false), (.bool false), (.bool false), (.bool false), (.bool false), (.bool false), (.bool false), (.bool false), (.bool false), (.bool false), (.bool false), (.bool false), (.bool false), (.bool false), (.bool false), (.bool false), (.bool false), (.bool false), (.bool false), (.bool false), (.bool false), (.bool false), (.bool false), (.bool false), (.bool false), (.bool false), (.bool false), (.bool false), (.bool false), (.bool false), (.bool false), (.bool false), (.bool false), (.bool false), (.bool false), (.bool false), (.bool false), (.bool false), (.bool false), (.bool false), (.bool false), (.bool false), (.bool false), (.bool false), (.bool false), (.bool false), (.bool false), (.bool false), (.bool false), (.bool false), (.bool false), (.bool false), (.bool false), (.bool false), (.bool false), (.bool false), (.bool false), (.bool false), (.bool false), (.bool false), (.bool false), (.bool false), (.bool false), (.bool false), (.bool false), (.bool false)]) := by kernel_rfl
@[simp] theorem inf93 : Tryd.prog.info? 93 = some Tryd.t93 := by kernel_rfl
@[simp] theorem tsz93 : Tryd.t93.size = 256 := by kernel_rfl
@[simp] theorem tby93 : Tryd.t93.bytes = 256 := by kernel_rfl
@[simp] theorem agg93 : aggT Tryd.prog 93 = some true := by kernel_rfl
@[simp] theorem slot93 : slotSize Tryd.prog 93 = 0 := by kernel_rfl
attribute [simp] Tryd.underlying93
@[simp] theorem zero93 : zeroV Tryd.prog 93 = some (.agg [(.bool false), (.bool false), (.bool false), (.bool false), (.bool false), (.bool false), (.bool false), (.bool false), (.bool false), (.bool false), (.bool false), (.bool false), (.bool false), (.bool false), (.bool false), (.bool false), (.bool false), (.bool false), (.bool false), (.bool false), (.bool false), (.bool false), (.bool false), (.bool false), (.bool false), (.bool false), (.bool false), (.bool false), (.bool false), (.bool false), (.bool false), (.bool false), (.bool false), (.bool false), (.bool false), (.bool false), (.bool false), (.bool false), (.bool false), (.bool false), (.bool false), (.bool false), (.bool false), (.bool false), (.bool false), (.bool false), (.bool false), (.bool false), (.bool false), (.bool false), (.bool false), (.bool false), (.bool false), (.bool false), (.bool false), (.bool false), (.bool false), (.bool false), (.bool false), (.bool false), (.bool false), (.bool false), (.bool false), (.bool false), (.bool false), (.bool false), (.bool false), (.bool false), (.bool false), (.bool false), (.bool false), (.bool false), (.bool false), (.bool false), (.bool false), (.bool false), (.bool false), (.bool false), (.bool false), (.bool false), (.bool false), (.bool false), (.bool false), (.bool false), (.bool false), (.bool false), (.bool false), (.bool false), (.bool false), (.bool false), (.bool false), (.bool false), (.bool false), (.bool false), (.bool false), (.bool false), (.bool false), (.bool false), (.bool false), (.bool false), (.bool false), (.bool false), (.bool false), (.bool false), (.bool false), (.bool false), (.bool false), (.bool false), (.bool false), (.bool false), (.bool false), (.bool false), (.bool false), (.bool false), (.bool false), (.bool false), (.bool false), (.bool false), (.bool false), (.bool false), (.bool false), (.bool false), (.bool false), (.bool false), (.bool false), (.bool false), (.bool false), (.bool false), (.bool false), (.bool false), (.bool false), (.bool false), (.bool false), (.bool false), (.bool false), (.bool false), (.bool false), (.bool false), (.bool false), (.bool false), (.bool false), (.bool false), (.bool false), (.bool false), (.bool false), (.bool false), (.bool false), (.bool false), (.bool false), (.bool false), (.bool false), (.bool false), (.bool false), (.bool false), (.bool false), (.bool false), (.bool false), (.bool false), (.bool false), (.bool false), (.bool false), (.bool false), (.bool false), (.bool false), (.bool false), (.bool false), (.bool false), (.bool false), (.bool false), (.bool false), (.bool false), (.bool false), (.bool false), (.bool false), (.bool false), (.bool false), (.bool false), (.bool false), (.bool false), (.bool false), (.bool false), (.bool false), (.bool false), (.bool false), (.bool false), (.bool false), (.bool false), (.bool false), (.bool false), (.bool false), (.bool false), (.bool false), (.bool false), (.bool false), (.bool false), (.bool false), (.bool false), (.bool false), (.bool false), (.bool false), (.bool false), (.bool false), (.bool false), (.bool false), (.bool false), (.bool false), (.bool false), (.bool false), (.bool false), (.bool false), (.bool false), (.bool false), (.bool false), (.bool false), (.bool false), (.bool false), (.bool false), (.bool false), (.bool false), (.bool false), (.bool false), (.bool false), (.bool false), (.bool false), (.bool false), (.bool false), (.bool false), (.bool false), (.bool false), (.bool false), (.bool false), (.bool false), (.bool false), (.bool false), (.bool false), (.bool false), (.bool false), (.bool false), (.bool false), (.bool false), (.bool false), (.bool false), (.bool false), (.bool false), (.bool false), (.bool false), (.bool false), (.bool false), (.bool false), (.bool false), (.bool false), (.bool false), (.bool false), (.bool false), (.bool false), (.bool false)]) := by kernel_rfl
@[simp] theorem inf95 : Tryd.prog.info? 95 = some Tryd.t95 := by kernel_rfl
@[simp] theorem tsz95 : Tryd.t95.size = 1 := by kernel_rfl
@[simp] theorem tby95 : Tryd.t95.bytes = 8 := by kernel_rfl
@[simp] theorem agg95 : aggT Tryd.prog 95 = some false := by kernel_rfl
@[simp] theorem slot95 : slotSize Tryd.prog 95 = 0 := by kernel_rfl
attribute [simp] Tryd.underlying95
@[simp] theorem zero95 : zeroV Tryd.prog 95 = some .undef := by kernel_rfl
@[simp] theorem inf96 : Tryd.prog.info? 96 = some Tryd.t96 := by kernel_rfl
@[simp] theorem tsz96 : Tryd.t96.size = 1 := by kernel_rfl
@[simp] theorem tby96 : Tryd.t96.bytes = 8 := by kernel_rfl
@[simp] theorem agg96 : aggT Tryd.prog 96 = some false := by kernel_rfl
@[simp] theorem slot96 : slotSize Tryd.prog 96 = 0 := by kernel_rfl
attribute [simp] Tryd.underlying96
@[simp] theorem zero96 : zeroV Tryd.prog 96 = some .undef := by kernel_rfl
@[simp] theorem inf97 : Tryd.prog.info? 97 = some Tryd.t97 := by kernel_rfl
@[simp] theorem tsz97 : Tryd.t97.size = 1 := by kernel_rfl
@[simp] theorem tby97 : Tryd.t97.bytes = 8 := by kernel_rfl
@[simp] theorem agg97 : aggT Tryd.prog 97 = some false := by kernel_rfl
@[simp] theorem slot97 : slotSize Tryd.prog 97 = 0 := by kernel_rfl
attribute [simp] Tryd.underlying97
@[simp] theorem zero97 : zeroV Tryd.prog 97 = some .undef := by kernel_rfl
@[simp] theorem inf98 : Tryd.prog.info? 98 = some Tryd.t98 := by kernel_rfl
@[simp] theorem tsz98 : Tryd.t98.size = 1 := by kernel_rfl
@[simp] theorem tby98 : Tryd.t98.bytes = 8 := by kernel_rfl
@[simp] theorem agg98 : aggT Tryd.prog 98 = some false := by kernel_rfl
@[simp] theorem slot98 : slotSize Tryd.prog 98 = 0 := by kernel_rfl
attribute [simp] Tryd.underlying98
@[simp] theorem zero98 : zeroV Tryd.prog 98 = some .undef := by kernel_rfl
@[simp] theorem inf99 : Tryd.prog.info? 99 = some Tryd.t99 := by kernel_rfl
@[simp] theorem tsz99 : Tryd.t99.size = 1 := by kernel_rfl
@[simp] theorem tby99 : Tryd.t99.bytes = 8 := by kernel_rfl
@[simp] theorem agg99 : aggT Tryd.prog 99 = some false := by kernel_rfl
@[simp] theorem slot99 : slotSize Tryd.prog 99 = 0 := by kernel_rfl
attribute [simp] Tryd.underlying99
@[simp] theorem zero99 : zeroV Tryd.prog 99 = some (.int .i64 0) := by kernel_rfl
@[simp] theorem inf101 : Tryd.prog.info? 101 = some Tryd.t101 := by kernel_rfl
@[simp] theorem tsz101 : Tryd.t101.size = 1 := by kernel_rfl
@[simp] theorem tby101 : Tryd.t101.bytes = 8 := by kernel_rfl
@[simp] theorem agg101 : aggT Tryd.prog 101 = some false := by kernel_rfl
@[simp] theorem slot101 : slotSize Tryd.prog 101 = 0 := by kernel_rfl
attribute [simp] Tryd.underlying101
@[simp] theorem zero101 : zeroV Tryd.prog 101 = some .undef := by kernel_rfl
@[simp] theorem inf102 : Tryd.prog.info? 102 = some Tryd.t102 := by kernel_rfl
@[simp] theorem tsz102 : Tryd.t102.size = 1 := by kernel_rfl
@[simp] theorem tby102 : Tryd.t102.bytes = 8 := by kernel_rfl
@[simp] theorem agg102 : aggT Tryd.prog 102 = some false := by kernel_rfl
@[simp] theorem slot102 : slotSize Tryd.prog 102 = 0 := by kernel_rfl
attribute [simp] Tryd.underlying102
@[simp] theorem zero102 : zeroV Tryd.prog 102 = some .undef := by kernel_rfl
@[simp] theorem inf103 : Tryd.prog.info? 103 = some Tryd.t103 := by kernel_rfl
@[simp] theorem tsz103 : Tryd.t103.size = 1 := by kernel_rfl
@[simp] theorem tby103 : Tryd.t103.bytes = 8 := by kernel_rfl
@[simp] theorem agg103 : aggT Tryd.prog 103 = some false := by kernel_rfl
@[simp] theorem slot103 : slotSize Tryd.prog 103 = 0 := by kernel_rfl
attribute [simp] Tryd.underlying103
@[simp] theorem zero103 : zeroV Tryd.prog 103 = some .undef := by kernel_rfl
@[simp] theorem inf104 : Tryd.prog.info? 104 = some Tryd.t104 := by kernel_rfl
@[simp] theorem tsz104 : Tryd.t104.size = 1 := by kernel_rfl
@[simp] theorem tby104 : Tryd.t104.bytes = 8 := by kernel_rfl
@[simp] theorem agg104 : aggT Tryd.prog 104 = some false := by kernel_rfl
@[simp] theorem slot104 : slotSize Tryd.prog 104 = 0 := by kernel_rfl
attribute [simp] Tryd.underlying104
@[simp] theorem zero104 : zeroV Tryd.prog 104 = some .undef := by kernel_rfl
@[simp] theorem inf105 : Tryd.prog.info? 105 = some Tryd.t105 := by kernel_rfl
@[simp] theorem tsz105 : Tryd.t105.size = 1 := by kernel_rfl
@[simp] theorem tby105 : Tryd.t105.bytes = 8 := by kernel_rfl
@[simp] theorem agg105 : aggT Tryd.prog 105 = some false := by kernel_rfl
@[simp] theorem slot105 : slotSize Tryd.prog 105 = 0 := by kernel_rfl
attribute [simp] Tryd.underlying105
@[simp] theorem zero105 : zeroV Tryd.prog 105 = some .undef := by kernel_rfl
@[simp] theorem inf106 : Tryd.prog.info? 106 = some Tryd.t106 := by kernel_rfl
@[simp] theorem tsz106 : Tryd.t106.size = 1 := by kernel_rfl
@[simp] theorem tby106 : Tryd.t106.bytes = 4 := by kernel_rfl
@[simp] theorem agg106 : aggT Tryd.prog 106 = some false := by kernel_rfl
@[simp] theorem slot106 : slotSize Tryd.prog 106 = 0 := by kernel_rfl
attribute [simp] Tryd.underlying106
@[simp] theorem zero106 : zeroV Tryd.prog 106 = some (.int .u32 0) := by kernel_rfl
@[simp] theorem inf107 : Tryd.prog.info? 107 = some Tryd.t107 := by kernel_rfl
@[simp] theorem tsz107 : Tryd.t107.size = 1 := by kernel_rfl
@[simp] theorem tby107 : Tryd.t107.bytes = 8 := by kernel_rfl
@[simp] theorem agg107 : aggT Tryd.prog 107 = some false := by kernel_rfl
@[simp] theorem slot107 : slotSize Tryd.prog 107 = 0 := by kernel_rfl
attribute [simp] Tryd.underlying107
@[simp] theorem zero107 : zeroV Tryd.prog 107 = some .undef := by kernel_rfl
@[simp] theorem inf108 : Tryd.prog.info? 108 = some Tryd.t108 := by kernel_rfl
@[simp] theorem tsz108 : Tryd.t108.size = 1 := by kernel_rfl
@[simp] theorem tby108 : Tryd.t108.bytes = 8 := by kernel_rfl
@[simp] theorem agg108 : aggT Tryd.prog 108 = some false := by kernel_rfl
@[simp] theorem slot108 : slotSize Tryd.prog 108 = 0 := by kernel_rfl
attribute [simp] Tryd.underlying108
@[simp] theorem zero108 : zeroV Tryd.prog 108 = some (.int .u64 0) := by kernel_rfl
@[simp] theorem inf109 : Tryd.prog.info? 109 = some Tryd.t109 := by kernel_rfl
@[simp] theorem tsz109 : Tryd.t109.size = 1 := by kernel_rfl
@[simp] theorem tby109 : Tryd.t109.bytes = 8 := by kernel_rfl
@[simp] theorem agg109 : aggT Tryd.prog 109 = some false := by kernel_rfl
@[simp] theorem slot109 : slotSize Tryd.prog 109 = 0 := by kernel_rfl
attribute [simp] Tryd.underlying109
@[simp] theorem zero109 : zeroV Tryd.prog 109 = some .undef := by kernel_rfl
@[simp] theorem inf110 : Tryd.prog.info? 110 = some Tryd.t110 := by kernel_rfl
@[simp] theorem tsz110 : Tryd.t110.size = 1 := by kernel_rfl
@[simp] theorem tby110 : Tryd.t110.bytes = 8 := by kernel_rfl
@[simp] theorem agg110 : aggT Tryd.prog 110 = some false := by kernel_rfl
@[simp] theorem slot110 : slotSize Tryd.prog 110 = 0 := by kernel_rfl
attribute [simp] Tryd.underlying110
@[simp] theorem zero110 : zeroV Tryd.prog 110 = some .undef := by kernel_rfl
@[simp] theorem inf112 : Tryd.prog.info? 112 = some Tryd.t112 := by kernel_rfl
@[simp] theorem tsz112 : Tryd.t112.size = 1 := by kernel_rfl
@[simp] theorem tby112 : Tryd.t112.bytes = 8 := by kernel_rfl
@[simp] theorem agg112 : aggT Tryd.prog 112 = some false := by kernel_rfl
@[simp] theorem slot112 : slotSize Tryd.prog 112 = 0 := by kernel_rfl
attribute [simp] Tryd.underlying112
@[simp] theorem zero112 : zeroV Tryd.prog 112 = some .undef := by kernel_rfl
@[simp] theorem inf114 : Tryd.prog.info? 114 = some Tryd.t114 := by kernel_rfl
@[simp] theorem tsz114 : Tryd.t114.size = 1 := by kernel_rfl
@[simp] theorem tby114 : Tryd.t114.bytes = 8 := by kernel_rfl
@[simp] theorem agg114 : aggT Tryd.prog 114 = some false := by kernel_rfl
@[simp] theorem slot114 : slotSize Tryd.prog 114 = 0 := by kernel_rfl
attribute [simp] Tryd.underlying114
@[simp] theorem zero114 : zeroV Tryd.prog 114 = some .undef := by kernel_rfl
@[simp] theorem inf115 : Tryd.prog.info? 115 = some Tryd.t115 := by kernel_rfl
@[simp] theorem tsz115 : Tryd.t115.size = 1 := by kernel_rfl
@[simp] theorem tby115 : Tryd.t115.bytes = 8 := by kernel_rfl
@[simp] theorem agg115 : aggT Tryd.prog 115 = some false := by kernel_rfl
@[simp] theorem slot115 : slotSize Tryd.prog 115 = 0 := by kernel_rfl
attribute [simp] Tryd.underlying115
@[simp] theorem zero115 : zeroV Tryd.prog 115 = some .undef := by kernel_rfl
@[simp] theorem inf116 : Tryd.prog.info? 116 = some Tryd.t116 := by kernel_rfl
@[simp] theorem tsz116 : Tryd.t116.size = 1 := by kernel_rfl
@[simp] theorem tby116 : Tryd.t116.bytes = 8 := by kernel_rfl
@[simp] theorem agg116 : aggT Tryd.prog 116 = some false := by kernel_rfl
@[simp] theorem slot116 : slotSize Tryd.prog 116 = 0 := by kernel_rfl
attribute [simp] Tryd.underlying116
@[simp] theorem zero116 : zeroV Tryd.prog 116 = some .undef := by kernel_rfl
@[simp] theorem inf118 : Tryd.prog.info? 118 = some Tryd.t118 := by kernel_rfl
@[simp] theorem tsz118 : Tryd.t118.size = 1 := by kernel_rfl
@[simp] theorem tby118 : Tryd.t118.bytes = 8 := by kernel_rfl
@[simp] theorem agg118 : aggT Tryd.prog 118 = some false := by kernel_rfl
@[simp] theorem slot118 : slotSize Tryd.prog 118 = 0 := by kernel_rfl
attribute [simp] Tryd.underlying118
@[simp] theorem zero118 : zeroV Tryd.prog 118 = some .undef := by kernel_rfl
@[simp] theorem inf119 : Tryd.prog.info? 119 = some Tryd.t119 := by kernel_rfl
@[simp] theorem tsz119 : Tryd.t119.size = 1 := by kernel_rfl
@[simp] theorem tby119 : Tryd.t119.bytes = 8 := by kernel_rfl
@[simp] theorem agg119 : aggT Tryd.prog 119 = some false := by kernel_rfl
@[simp] theorem slot119 : slotSize Tryd.prog 119 = 0 := by kernel_rfl
attribute [simp] Tryd.underlying119
@[simp] theorem zero119 : zeroV Tryd.prog 119 = some .undef := by kernel_rfl
@[simp] theorem inf120 : Tryd.prog.info? 120 = some Tryd.t120 := by kernel_rfl
@[simp] theorem tsz120 : Tryd.t120.size = 1 := by kernel_rfl
@[simp] theorem tby120 : Tryd.t120.bytes = 8 := by kernel_rfl
@[simp] theorem agg120 : aggT Tryd.prog 120 = some false := by kernel_rfl
@[simp] theorem slot120 : slotSize Tryd.prog 120 = 0 := by kernel_rfl
attribute [simp] Tryd.underlying120
@[simp] theorem zero120 : zeroV Tryd.prog 120 = some (.int .u64 0) := by kernel_rfl
@[simp] theorem inf121 : Tryd.prog.info? 121 = some Tryd.t121 := by kernel_rfl
@[simp] theorem tsz121 : Tryd.t121.size = 1 := by kernel_rfl
@[simp] theorem tby121 : Tryd.t121.bytes = 8 := by kernel_rfl
@[simp] theorem agg121 : aggT Tryd.prog 121 = some false := by kernel_rfl
@[simp] theorem slot121 : slotSize Tryd.prog 121 = 0 := by kernel_rfl
attribute [simp] Tryd.underlying121
@[simp] theorem zero121 : zeroV Tryd.prog 121 = some .undef := by kernel_rfl
@[simp] theorem inf122 : Tryd.prog.info? 122 = some Tryd.t122 := by kernel_rfl
@[simp] theorem tsz122 : Tryd.t122.size = 1 := by kernel_rfl
@[simp] theorem tby122 : Tryd.t122.bytes = 8 := by kernel_rfl
@[simp] theorem agg122 : aggT Tryd.prog 122 = some false := by kernel_rfl
@[simp] theorem slot122 : slotSize Tryd.prog 122 = 0 := by kernel_rfl
attribute [simp] Tryd.underlying122
@[simp] theorem zero122 : zeroV Tryd.prog 122 = some .undef := by kernel_rfl
@[simp] theorem inf123 : Tryd.prog.info? 123 = some Tryd.t123 := by kernel_rfl
@[simp] theorem tsz123 : Tryd.t123.size = 1 := by kernel_rfl
@[simp] theorem tby123 : Tryd.t123.bytes = 8 := by kernel_rfl
@[simp] theorem agg123 : aggT Tryd.prog 123 = some false := by kernel_rfl
@[simp] theorem slot123 : slotSize Tryd.prog 123 = 0 := by kernel_rfl
attribute [simp] Tryd.underlying123
@[simp] theorem zero123 : zeroV Tryd.prog 123 = some .undef := by kernel_rfl
@[simp] theorem inf124 : Tryd.prog.info? 124 = some Tryd.t124 := by kernel_rfl
@[simp] theorem tsz124 : Tryd.t124.size = 1 := by kernel_rfl
@[simp] theorem tby124 : Tryd.t124.bytes = 8 := by kernel_rfl
@[simp] theorem agg124 : aggT Tryd.prog 124 = some false := by kernel_rfl
@[simp] theorem slot124 : slotSize Tryd.prog 124 = 0 := by kernel_rfl
attribute [simp] Tryd.underlying124
@[simp] theorem zero124 : zeroV Tryd.prog 124 = some .undef := by kernel_rfl
@[simp] theorem inf125 : Tryd.prog.info? 125 = some Tryd.t125 := by kernel_rfl
@[simp] theorem tsz125 : Tryd.t125.size = 1 := by kernel_rfl
@[simp] theorem tby125 : Tryd.t125.bytes = 8 := by kernel_rfl
@[simp] theorem agg125 : aggT Tryd.prog 125 = some false := by kernel_rfl
@[simp] theorem slot125 : slotSize Tryd.prog 125 = 0 := by kernel_rfl
attribute [simp] Tryd.underlying125
@[simp] theorem zero125 : zeroV Tryd.prog 125 = some .undef := by kernel_rfl
@[simp] theorem inf126 : Tryd.prog.info? 126 = some Tryd.t126 := by kernel_rfl
@[simp] theorem tsz126 : Tryd.t126.size = 1 := by kernel_rfl
@[simp] theorem tby126 : Tryd.t126.bytes = 8 := by kernel_rfl
@[simp] theorem agg126 : aggT Tryd.prog 126 = some false := by kernel_rfl
@[simp] theorem slot126 : slotSize Tryd.prog 126 = 0 := by kernel_rfl
attribute [simp] Tryd.underlying126
@[simp] theorem zero126 : zeroV Tryd.prog 126 = some .undef := by kernel_rfl
@[simp] theorem inf128 : Tryd.prog.info? 128 = some Tryd.t128 := by kernel_rfl
@[simp] theorem tsz128 : Tryd.t128.size = 1 := by kernel_rfl
@[simp] theorem tby128 : Tryd.t128.bytes = 8 := by kernel_rfl
@[simp] theorem agg128 : aggT Tryd.prog 128 = some false := by kernel_rfl
@[simp] theorem slot128 : slotSize Tryd.prog 128 = 0 := by kernel_rfl
attribute [simp] Tryd.underlying128
@[simp] theorem zero128 : zeroV Tryd.prog 128 = some .undef := by kernel_rfl
@[simp] theorem inf129 : Tryd.prog.info? 129 = some Tryd.t129 := by kernel_rfl
@[simp] theorem tsz129 : Tryd.t129.size = 1 := by kernel_rfl
@[simp] theorem tby129 : Tryd.t129.bytes = 8 := by kernel_rfl
@[simp] theorem agg129 : aggT Tryd.prog 129 = some false := by kernel_rfl
@[simp] theorem slot129 : slotSize Tryd.prog 129 = 0 := by kernel_rfl
attribute [simp] Tryd.underlying129
@[simp] theorem zero129 : zeroV Tryd.prog 129 = some .undef := by kernel_rfl
@[simp] theorem inf130 : Tryd.prog.info? 130 = some Tryd.t130 := by kernel_rfl
@[simp] theorem tsz130 : Tryd.t130.size = 1 := by kernel_rfl
@[simp] theorem tby130 : Tryd.t130.bytes = 8 := by kernel_rfl
@[simp] theorem agg130 : aggT Tryd.prog 130 = some false := by kernel_rfl
@[simp] theorem slot130 : slotSize Tryd.prog 130 = 0 := by kernel_rfl
attribute [simp] Tryd.underlying130
@[simp] theorem zero130 : zeroV Tryd.prog 130 = some .undef := by kernel_rfl
@[simp] theorem inf131 : Tryd.prog.info? 131 = some Tryd.t131 := by kernel_rfl
@[simp] theorem tsz131 : Tryd.t131.size = 1 := by kernel_rfl
@[simp] theorem tby131 : Tryd.t131.bytes = 8 := by kernel_rfl
@[simp] theorem agg131 : aggT Tryd.prog 131 = some false := by kernel_rfl
@[simp] theorem slot131 : slotSize Tryd.prog 131 = 0 := by kernel_rfl
attribute [simp] Tryd.underlying131
@[simp] theorem zero131 : zeroV Tryd.prog 131 = some .undef := by kernel_rfl
@[simp] theorem inf133 : Tryd.prog.info? 133 = some Tryd.t133 := by kernel_rfl
@[simp] theorem tsz133 : Tryd.t133.size = 1 := by kernel_rfl
@[simp] theorem tby133 : Tryd.t133.bytes = 8 := by kernel_rfl
@[simp] theorem agg133 : aggT Tryd.prog 133 = some false := by kernel_rfl
@[simp] theorem slot133 : slotSize Tryd.prog 133 = 0 := by kernel_rfl
attribute [simp] Tryd.underlying133
@[simp] theorem zero133 : zeroV Tryd.prog 133 = some .undef := by kernel_rfl
@[simp] theorem inf134 : Tryd.prog.info? 134 = some Tryd.t134 := by kernel_rfl
@[simp] theorem tsz134 : Tryd.t134.size = 256 := by kernel_rfl
@[simp] theorem tby134 : Tryd.t134.bytes = 256 := by kernel_rfl
@[simp] theorem agg134 : aggT Tryd.prog 134 = some true := by kernel_rfl
@[simp] theorem slot134 : slotSize Tryd.prog 134 = 0 := by kernel_rfl
attribute [simp] Tryd.underlying134
@[simp] theorem zero134 : zeroV Tryd.prog 134 = some (.agg [(.int .u8 0), (.int .u8 0), (.int .u8 0), (.int .u8 0), (.int .u8 0), (.int .u8 0), (.int .u8 0), (.int .u8 0), (.int .u8 0), (.int .u8 0), (.int .u8 0), (.int .u8 0), (.int .u8 0), (.int .u8 0), (.int .u8 0), (.int .u8 0), (.int .u8 0), (.int .u8 0), (.int .u8 0), (.int .u8 0), (.int .u8 0), (.int .u8 0), (.int .u8 0), (.int .u8 0), (.int .u8 0), (.int .u8 0), (.int .u8 0), (.int .u8 0), (.int .u8 0), (.int .u8 0), (.int .u8 0), (.int .u8 0), (.int .u8 0), (.int .u8 0), (.int .u8 0), (.int .u8 0), (.int .u8 0), (.int .u8 0), (.int .u8 0), (.int .u8 0), (.int .u8 0), (.int .u8 0), (.int .u8 0), (.int .u8 0), (.int .u8 0), (.int .u8 0), (.int .u8 0), (.int .u8 0), (.int .u8 0), (.int .u8 0), (.int .u8 0), (.int .u8 0), (.int .u8 0), (.int .u8 0), (.int .u8 0), (.int .u8 0), (.int .u8 0), (.int .u8 0), (.int .u8 0), (.int .u8 0), (.int .u8 0), (.int .u8 0), (.int .u8 0), (.int .u8 0), (.int .u8 0), (.int .u8 0), (.int .u8 0), (.int .u8 0), (.int .u8 0), (.int .u8 0), (.int .u8 0), (.int .u8 0), (.int .u8 0), (.int .u8 0), (.int .u8 0), (.int .u8 0), (.int .u8 0), (.int .u8 0), (.int .u8 0), (.int .u8 0), (.int .u8 0), (.int .u8 0), (.int .u8 0), (.int .u8 0), (.int .u8 0), (.int .u8 0), (.int .u8 0), (.int .u8 0), (.int .u8 0), (.int .u8 0), (.int .u8 0), (.int .u8 0), (.int .u8 0), (.int .u8 0), (.int .u8 0), (.int .u8 0), (.int .u8 0), (.int .u8 0), (.int .u8 0), (.int .u8 0), (.int .u8 0), (.int .u8 0), (.int .u8 0), (.int .u8 0), (.int .u8 0), (.int .u8 0), (.int .u8 0), (.int .u8 0), (.int .u8 0), (.int .u8 0), (.int .u8 0), (.int .u8 0), (.int .u8 0), (.int .u8 0), (.int .u8 0), (.int .u8 0), (.int .u8 0), (.int .u8 0), (.int .u8 0), (.int .u8 0), (.int .u8 0), (.int .u8 0), (.int .u8 0), (.int .u8 0), (.int .u8 0), (.int .u8 0), (.int .u8 0), (.int .u8 0), (.int .u8 0), (.int .u8 0), (.int .u8 0), (.int .u8 0), (.int .u8 0), (.int .u8 0), (.int .u8 0), (.int .u8 0), (.int .u8 0), (.int .u8 0), (.int .u8 0), (.int .u8 0), (.int .u8 0), (.int .u8 0), (.int .u8 0), (.int .u8 0), (.int .u8 0), (.int .u8 0), (.int .u8 0), (.int .u8 0), (.int .u8 0), (.int .u8 0), (.int .u8 0), (.int .u8 0), (.int .u8 0), (.int .u8 0), (.int .u8 0), (.int .u8 0), (.int .u8 0), (.int .u8 0), (.int .u8 0), (.int .u8 0), (.int .u8 0), (.int .u8 0), (.int .u8 0), (.int .u8 0), (.int .u8 0), (.int .u8 0), (.int .u8 0), (.int .u8 0), (.int .u8 0), (.int .u8 0), (.int .u8 0), (.int .u8 0), (.int .u8 0), (.int .u8 0), (.int .u8 0), (.int .u8 0), (.int .u8 0), (.int .u8 0), (.int .u8 0), (.int .u8 0), (.int .u8 0), (.int .u8 0), (.int .u8 0), (.int .u8 0), (.int .u8 0), (.int .u8 0), (.int .u8 0), (.int .u8 0), (.int .u8 0), (.int .u8 0), (.int .u8 0), (.int .u8 0), (.int .u8 0), (.int .u8 0), (.int .u8 0), (.int .u8 0), (.int .u8 0), (.int .u8 0), (.int .u8 0), (.int .u8 0), (.int .u8 0), (.int .u8 0), (.int .u8 0), (.int .u8 0), (.int .u8 0), (.int .u8 0), (.int .u8 0), (.int .u8 0), (.int .u8 0), (.int .u8 0), (.int .u8 0), (.int .u8 0), (.int .u8 0), (.int .u8 0), (.int .u8 0), (.int .u8 0), (.int .u8 0), (.int .u8 0), (.int .u8 0), (.int .u8 0), (.int .u8 0), (.int .u8 0), (.int .u8 0), (.int .u8 0), (.int .u8 0), (.int .u8 0), (.int .u8 0), (.int .u8 0), (.int .u8 0), (.int .u8 0), (.int .u8 0), (.int .u8 0), (.int .u8 0), (.int .u8 0), (.int .u8 0), (.int .u8 0), (.int .u8 0), (.int .u8 0), (.int .u8 0), (.int .u8 0), (.int .u8 0), (.int .u8 0), (.int .u8 0), (.int .u8 0), (.int .u8 0), (.int .u8 0), (.int .u8 0), (.int .u8 0), (.int .u8 0), (.int .u8 0), (.int .u8 0), (.int .u8 0), (.int .u8 0), (.int .u8 0), (.int .u8 0), (.int .u8 0)]) := by kernel_rfl
@[simp] theorem inf135 : Tryd.prog.info? 135 = some Tryd.t135 := by kernel_rfl
@[simp] theorem tsz135 : Tryd.t135.size = 2 := by kernel_rfl
@[simp] theorem tby135 : Tryd.t135.bytes = 2 := by kernel_rfl
@[simp] theorem agg135 : aggT Tryd.prog 135 = some true := by kernel_rfl
@[simp] theorem slot135 : slotSize Tryd.prog 135 = 0 := by kernel_rfl
attribute [simp] Tryd.underlying135
@[simp] theorem zero135 : zeroV Tryd.prog 135 = some (.agg [(.int .u8 0), (.int .u8 0)]) := by kernel_rfl
@[simp] theorem slots135 : slotSizes Tryd.prog 135 = [0, 0] := by kernel_rfl
noncomputable def F135_0 : Field := (fieldOf Tryd.prog 135 0).getD default
@[simp] theorem fo135_0 : fieldOf Tryd.prog 135 0 = some F135_0 := by kernel_rfl
@[simp] theorem ft135_0 : F135_0.type = 5 := by kernel_rfl
@[simp] theorem fx135_0 : F135_0.offset = 0 := by kernel_rfl
noncomputable def F135_1 : Field := (fieldOf Tryd.prog 135 1).getD default
@[simp] theorem fo135_1 : fieldOf Tryd.prog 135 1 = some F135_1 := by kernel_rfl
@[simp] theorem ft135_1 : F135_1.type = 5 := by kernel_rfl
@[simp] theorem fx135_1 : F135_1.offset = 1 := by kernel_rfl
@[simp] theorem inf136 : Tryd.prog.info? 136 = some Tryd.t136 := by kernel_rfl
@[simp] theorem tsz136 : Tryd.t136.size = 2 := by kernel_rfl
@[simp] theorem tby136 : Tryd.t136.bytes = 2 := by kernel_rfl
@[simp] theorem agg136 : aggT Tryd.prog 136 = some true := by kernel_rfl
@[simp] theorem slot136 : slotSize Tryd.prog 136 = 0 := by kernel_rfl
attribute [simp] Tryd.underlying136
@[simp] theorem zero136 : zeroV Tryd.prog 136 = some (.agg [(.int .u8 0), (.int .u8 0)]) := by kernel_rfl
@[simp] theorem slots136 : slotSizes Tryd.prog 136 = [0, 0] := by kernel_rfl
noncomputable def F136_0 : Field := (fieldOf Tryd.prog 136 0).getD default
@[simp] theorem fo136_0 : fieldOf Tryd.prog 136 0 = some F136_0 := by kernel_rfl
@[simp] theorem ft136_0 : F136_0.type = 5 := by kernel_rfl
@[simp] theorem fx136_0 : F136_0.offset = 0 := by kernel_rfl
noncomputable def F136_1 : Field := (fieldOf Tryd.prog 136 1).getD default
@[simp] theorem fo136_1 : fieldOf Tryd.prog 136 1 = some F136_1 := by kernel_rfl
@[simp] theorem ft136_1 : F136_1.type = 5 := by kernel_rfl
@[simp] theorem fx136_1 : F136_1.offset = 1 := by kernel_rfl
@[simp] theorem inf137 : Tryd.prog.info? 137 = some Tryd.t137 := by kernel_rfl
@[simp] theorem tsz137 : Tryd.t137.size = 32 := by kernel_rfl
@[simp] theorem tby137 : Tryd.t137.bytes = 32 := by kernel_rfl
@[simp] theorem agg137 : aggT Tryd.prog 137 = some true := by kernel_rfl
@[simp] theorem slot137 : slotSize Tryd.prog 137 = 0 := by kernel_rfl
attribute [simp] Tryd.underlying137
@[simp] theorem zero137 : zeroV Tryd.prog 137 = some (.agg [(.int .u8 0), (.int .u8 0), (.int .u8 0), (.int .u8 0), (.int .u8 0), (.int .u8 0), (.int .u8 0), (.int .u8 0), (.int .u8 0), (.int .u8 0), (.int .u8 0), (.int .u8 0), (.int .u8 0), (.int .u8 0), (.int .u8 0), (.int .u8 0), (.int .u8 0), (.int .u8 0), (.int .u8 0), (.int .u8 0), (.int .u8 0), (.int .u8 0), (.int .u8 0), (.int .u8 0), (.int .u8 0), (.int .u8 0), (.int .u8 0), (.int .u8 0), (.int .u8 0), (.int .u8 0), (.int .u8 0), (.int .u8 0)]) := by kernel_rfl
@[simp] theorem inf138 : Tryd.prog.info? 138 = some Tryd.t138 := by kernel_rfl
@[simp] theorem tsz138 : Tryd.t138.size = 1 := by kernel_rfl
@[simp] theorem tby138 : Tryd.t138.bytes = 8 := by kernel_rfl
@[simp] theorem agg138 : aggT Tryd.prog 138 = some false := by kernel_rfl
@[simp] theorem slot138 : slotSize Tryd.prog 138 = 0 := by kernel_rfl
attribute [simp] Tryd.underlying138
@[simp] theorem zero138 : zeroV Tryd.prog 138 = some .undef := by kernel_rfl
@[simp] theorem inf139 : Tryd.prog.info? 139 = some Tryd.t139 := by kernel_rfl
@[simp] theorem tsz139 : Tryd.t139.size = 1 := by kernel_rfl
@[simp] theorem tby139 : Tryd.t139.bytes = 8 := by kernel_rfl
@[simp] theorem agg139 : aggT Tryd.prog 139 = some false := by kernel_rfl
@[simp] theorem slot139 : slotSize Tryd.prog 139 = 0 := by kernel_rfl
attribute [simp] Tryd.underlying139
@[simp] theorem zero139 : zeroV Tryd.prog 139 = some .undef := by kernel_rfl
@[simp] theorem inf140 : Tryd.prog.info? 140 = some Tryd.t140 := by kernel_rfl
@[simp] theorem tsz140 : Tryd.t140.size = 1 := by kernel_rfl
@[simp] theorem tby140 : Tryd.t140.bytes = 8 := by kernel_rfl
@[simp] theorem agg140 : aggT Tryd.prog 140 = some false := by kernel_rfl
@[simp] theorem slot140 : slotSize Tryd.prog 140 = 0 := by kernel_rfl
attribute [simp] Tryd.underlying140
@[simp] theorem zero140 : zeroV Tryd.prog 140 = some .undef := by kernel_rfl
@[simp] theorem inf141 : Tryd.prog.info? 141 = some Tryd.t141 := by kernel_rfl
@[simp] theorem tsz141 : Tryd.t141.size = 1 := by kernel_rfl
@[simp] theorem tby141 : Tryd.t141.bytes = 8 := by kernel_rfl
@[simp] theorem agg141 : aggT Tryd.prog 141 = some false := by kernel_rfl
@[simp] theorem slot141 : slotSize Tryd.prog 141 = 0 := by kernel_rfl
attribute [simp] Tryd.underlying141
@[simp] theorem zero141 : zeroV Tryd.prog 141 = some .undef := by kernel_rfl
@[simp] theorem inf142 : Tryd.prog.info? 142 = some Tryd.t142 := by kernel_rfl
@[simp] theorem tsz142 : Tryd.t142.size = 4 := by kernel_rfl
@[simp] theorem tby142 : Tryd.t142.bytes = 40 := by kernel_rfl
@[simp] theorem agg142 : aggT Tryd.prog 142 = some true := by kernel_rfl
@[simp] theorem slot142 : slotSize Tryd.prog 142 = 0 := by kernel_rfl
attribute [simp] Tryd.underlying142
@[simp] theorem zero142 : zeroV Tryd.prog 142 = some (.agg [.undef, .undef, .undef, (.str [])]) := by kernel_rfl
@[simp] theorem slots142 : slotSizes Tryd.prog 142 = [0, 0, 0, 0] := by kernel_rfl
noncomputable def F142_0 : Field := (fieldOf Tryd.prog 142 0).getD default
@[simp] theorem fo142_0 : fieldOf Tryd.prog 142 0 = some F142_0 := by kernel_rfl
@[simp] theorem ft142_0 : F142_0.type = 17 := by kernel_rfl
@[simp] theorem fx142_0 : F142_0.offset = 0 := by kernel_rfl
noncomputable def F142_1 : Field := (fieldOf Tryd.prog 142 1).getD default
@[simp] theorem fo142_1 : fieldOf Tryd.prog 142 1 = some F142_1 := by kernel_rfl
@[simp] theorem ft142_1 : F142_1.type = 17 := by kernel_rfl
@[simp] theorem fx142_1 : F142_1.offset = 1 := by kernel_rfl
noncomputable def F142_2 : Field := (fieldOf Tryd.prog 142 2).getD default
@[simp] theorem fo142_2 : fieldOf Tryd.prog 142 2 = some F142_2 := by kernel_rfl
@[simp] theorem ft142_2 : F142_2.type = 17 := by kernel_rfl
@[simp] theorem fx142_2 : F142_2.offset = 2 := by kernel_rfl
noncomputable def F142_3 : Field := (fieldOf Tryd.prog 142 3).getD default
@[simp] theorem fo142_3 : fieldOf Tryd.prog 142 3 = some F142_3 := by kernel_rfl
@[simp] theorem ft142_3 : F142_3.type = 9 := by kernel_rfl
@[simp] theorem fx142_3 : F142_3.offset = 3 := by kernel_rfl
@[simp] theorem inf143 : Tryd.prog.info? 143 = some Tryd.t143 := by kernel_rfl
@[simp] theorem tsz143 : Tryd.t143.size = 4 := by kernel_rfl
@[simp] theorem tby143 : Tryd.t143.bytes = 40 := by kernel_rfl
@[simp] theorem agg143 : aggT Tryd.prog 143 = some true := by kernel_rfl
@[simp] theorem slot143 : slotSize Tryd.prog 143 = 0 := by kernel_rfl
attribute [simp] Tryd.underlying143
@[simp] theorem zero143 : zeroV Tryd.prog 143 = some (.agg [.undef, .undef, .undef, (.str [])]) := by kernel_rfl
@[simp] theorem slots143 : slotSizes Tryd.prog 143 = [0, 0, 0, 0] := by kernel_rfl
noncomputable def F143_0 : Field := (fieldOf Tryd.prog 143 0).getD default
@[simp] theorem fo143_0 : fieldOf Tryd.prog 143 0 = some F143_0 := by kernel_rfl
@[simp] theorem ft143_0 : F143_0.type = 17 := by kernel_rfl
@[simp] theorem fx143_0 : F143_0.offset = 0 := by kernel_rfl
noncomputable def F143_1 : Field := (fieldOf Tryd.prog 143 1).getD default
@[simp] theorem fo143_1 : fieldOf Tryd.prog 143 1 = some F143_1 := by kernel_rfl
@[simp] theorem ft143_1 : F143_1.type = 17 := by kernel_rfl
@[simp] theorem fx143_1 : F143_1.offset = 1 := by kernel_rfl
noncomputable def F143_2 : Field := (fieldOf Tryd.prog 143 2).getD default
@[simp] theorem fo143_2 : fieldOf Tryd.prog 143 2 = some F143_2 := by kernel_rfl
@[simp] theorem ft143_2 : F143_2.type = 17 := by kernel_rfl
@[simp] theorem fx143_2 : F143_2.offset = 2 := by kernel_rfl
noncomputable def F143_3 : Field := (fieldOf Tryd.prog 143 3).getD default
@[simp] theorem fo143_3 : fieldOf Tryd.prog 143 3 = some F143_3 := by kernel_rfl
@[simp] theorem ft143_3 : F143_3.type = 9 := by kernel_rfl
@[simp] theorem fx143_3 : F143_3.offset = 3 := by kernel_rfl
@[simp] theorem inf144 : Tryd.prog.info? 144 = some Tryd.t144 := by kernel_rfl
@[simp] theorem tsz144 : Tryd.t144.size = 0 := by kernel_rfl
@[simp] theorem tby144 : Tryd.t144.bytes = 0 := by kernel_rfl
@[simp] theorem agg144 : aggT Tryd.prog 144 = some true := by kernel_rfl
@[simp] theorem slot144 : slotSize Tryd.prog 144 = 0 := by kernel_rfl
attribute [simp] Tryd.underlying144
@[simp] theorem zero144 : zeroV Tryd.prog 144 = some (.agg []) := by kernel_rfl
@[simp] theorem inf145 : Tryd.prog.info? 145 = some Tryd.t145 := by kernel_rfl
@[simp] theorem tsz145 : Tryd.t145.size = 0 := by kernel_rfl
@[simp] theorem tby145 : Tryd.t145.bytes = 0 := by kernel_rfl
@[simp] theorem agg145 : aggT Tryd.prog 145 = some true := by kernel_rfl
@[simp] theorem slot145 : slotSize Tryd.prog 145 = 0 := by kernel_rfl
attribute [simp] Tryd.underlying145
@[simp] theorem zero145 : zeroV Tryd.prog 145 = some (.agg []) := by kernel_rfl
@[simp] theorem slots145 : slotSizes Tryd.prog 145 = [] := by kernel_rfl
noncomputable def F145_0 : Field := (fieldOf Tryd.prog 145 0).getD default
@[simp] theorem fo145_0 : fieldOf Tryd.prog 145 0 = some F145_0 := by kernel_rfl
@[simp] theorem ft145_0 : F145_0.type = 144 := by kernel_rfl
@[simp] theorem fx145_0 : F145_0.offset = 0 := by kernel_rfl
@[simp] theorem inf146 : Tryd.prog.info? 146 = some Tryd.t146 := by kernel_rfl
@[simp] theorem tsz146 : Tryd.t146.size = 0 := by kernel_rfl
@[simp] theorem tby146 : Tryd.t146.bytes = 0 := by kernel_rfl
@[simp] theorem agg146 : aggT Tryd.prog 146 = some true := by kernel_rfl
@[simp] theorem slot146 : slotSize Tryd.prog 146 = 0 := by kernel_rfl
attribute [simp] Tryd.underlying146
@[simp] theorem zero146 : zeroV Tryd.prog 146 = some (.agg []) := by kernel_rfl
@[simp] theorem slots146 : slotSizes Tryd.prog 146 = [] := by kernel_rfl
noncomputable def F146_0 : Field := (fieldOf Tryd.prog 146 0).getD default
@[simp] theorem fo146_0 : fieldOf Tryd.prog 146 0 = some F146_0 := by kernel_rfl
@[simp] theorem ft146_0 : F146_0.type = 144 := by kernel_rfl
@[simp] theorem fx146_0 : F146_0.offset = 0 := by kernel_rfl
@[simp] theorem inf147 : Tryd.prog.info? 147 = some Tryd.t147 := by kernel_rfl
@[simp] theorem tsz147 : Tryd.t147.size = 1 := by kernel_rfl
@[simp] theorem tby147 : Tryd.t147.bytes = 1 := by kernel_rfl
@[simp] theorem agg147 : aggT Tryd.prog 147 = some false := by kernel_rfl
@[simp] theorem slot147 : slotSize Tryd.prog 147 = 0 := by kernel_rfl
attribute [simp] Tryd.underlying147
@[simp] theorem zero147 : zeroV Tryd.prog 147 = some (.int .u8 0) := by kernel_rfl
@[simp] theorem inf148 : Tryd.prog.info? 148 = some Tryd.t148 := by kernel_rfl
@[simp] theorem tsz148 : Tryd.t148.size = 1 := by kernel_rfl
@[simp] theorem tby148 : Tryd.t148.bytes = 1 := by kernel_rfl
@[simp] theorem agg148 : aggT Tryd.prog 148 = some false := by kernel_rfl
@[simp] theorem slot148 : slotSize Tryd.prog 148 = 0 := by kernel_rfl
attribute [simp] Tryd.underlying148
@[simp] theorem zero148 : zeroV Tryd.prog 148 = some (.int .u8 0) := by kernel_rfl
@[simp] theorem inf149 : Tryd.prog.info? 149 = some Tryd.t149 := by kernel_rfl
@[simp] theorem tsz149 : Tryd.t149.size = 1 := by kernel_rfl
@[simp] theorem tby149 : Tryd.t149.bytes = 8 := by kernel_rfl
@[simp] theorem agg149 : aggT Tryd.prog 149 = some false := by kernel_rfl
@[simp] theorem slot149 : slotSize Tryd.prog 149 = 0 := by kernel_rfl
attribute [simp] Tryd.underlying149
@[simp] theorem zero149 : zeroV Tryd.prog 149 = some .undef := by kernel_rfl
@[simp] theorem inf150 : Tryd.prog.info? 150 = some Tryd.t150 := by kernel_rfl
@[simp] theorem tsz150 : Tryd.t150.size = 1 := by kernel_rfl
@[simp] theorem tby150 : Tryd.t150.bytes = 4 := by kernel_rfl
@[simp] theorem agg150 : aggT Tryd.prog 150 = some false := by kernel_rfl
@[simp] theorem slot150 : slotSize Tryd.prog 150 = 0 := by kernel_rfl
attribute [simp] Tryd.underlying150
@[simp] theorem zero150 : zeroV Tryd.prog 150 = some (.int .i32 0) := by kernel_rfl
@[simp] theorem inf151 : Tryd.prog.info? 151 = some Tryd.t151 := by kernel_rfl
@[simp] theorem tsz151 : Tryd.t151.size = 1 := by kernel_rfl
@[simp] theorem tby151 : Tryd.t151.bytes = 4 := by kernel_rfl
@[simp] theorem agg151 : aggT Tryd.prog 151 = some false := by kernel_rfl
@[simp] theorem slot151 : slotSize Tryd.prog 151 = 0 := by kernel_rfl
attribute [simp] Tryd.underlying151
@[simp] theorem zero151 : zeroV Tryd.prog 151 = some (.int .i32 0) := by kernel_rfl
@[simp] theorem inf152 : Tryd.prog.info? 152 = some Tryd.t152 := by kernel_rfl
@[simp] theorem tsz152 : Tryd.t152.size = 11 := by kernel_rfl
@[simp] theorem tby152 : Tryd.t152.bytes = 48 := by kernel_rfl
@[simp] theorem agg152 : aggT Tryd.prog 152 = some true := by kernel_rfl
@[simp] theorem slot152 : slotSize Tryd.prog 152 = 0 := by kernel_rfl
attribute [simp] Tryd.underlying152
@[simp] theorem zero152 : zeroV Tryd.prog 152 = some (.agg [(.int .u64 0), (.int .u64 0), (.int .u32 0), (.int .u8 0), (.int .u8 0), (.int .u8 0), (.int .u8 0), .undef, .undef, (.int .i32 0), (.int .i32 0)]) := by kernel_rfl
@[simp] theorem slots152 : slotSizes Tryd.prog 152 = [0, 0, 0, 0, 0, 0, 0, 0, 0, 0, 0] := by kernel_rfl
noncomputable def F152_0 : Field := (fieldOf Tryd.prog 152 0).getD default
@[simp] theorem fo152_0 : fieldOf Tryd.prog 152 0 = some F152_0 := by kernel_rfl
@[simp] theorem ft152_0 : F152_0.type = 12 := by kernel_rfl
@[simp] theorem fx152_0 : F152_0.offset = 0 := by kernel_rfl
noncomputable def F152_1 : Field := (fieldOf Tryd.prog 152 1).getD default
@[simp] theorem fo152_1 : fieldOf Tryd.prog 152 1 = some F152_1 := by kernel_rfl
@[simp] theorem ft152_1 : F152_1.type = 12 := by kernel_rfl
@[simp] theorem fx152_1 : F152_1.offset = 1 := by kernel_rfl
noncomputable def F152_2 : Field := (fieldOf Tryd.prog 152 2).getD default
@[simp] theorem fo152_2 : fieldOf Tryd.prog 152 2 = some F152_2 := by kernel_rfl
@[simp] theorem ft152_2 : F152_2.type = 106 := by kernel_rfl
@[simp] theorem fx152_2 : F152_2.offset = 2 := by kernel_rfl
noncomputable def F152_3 : Field := (fieldOf Tryd.prog 152 3).getD default
@[simp] theorem fo152_3 : fieldOf Tryd.prog 152 3 = some F152_3 := by kernel_rfl
@[simp] theorem ft152_3 : F152_3.type = 147 := by kernel_rfl
@[simp] theorem fx152_3 : F152_3.offset = 3 := by kernel_rfl
noncomputable def F152_4 : Field := (fieldOf Tryd.prog 152 4).getD default
@[simp] theorem fo152_4 : fieldOf Tryd.prog 152 4 = some F152_4 := by kernel_rfl
@[simp] theorem ft152_4 : F152_4.type = 5 := by kernel_rfl
@[simp] theorem fx152_4 : F152_4.offset = 4 := by kernel_rfl
noncomputable def F152_5 : Field := (fieldOf Tryd.prog 152 5).getD default
@[simp] theorem fo152_5 : fieldOf Tryd.prog 152 5 = some F152_5 := by kernel_rfl
@[simp] theorem ft152_5 : F152_5.type = 5 := by kernel_rfl
@[simp] theorem fx152_5 : F152_5.offset = 5 := by kernel_rfl
noncomputable def F152_6 : Field := (fieldOf Tryd.prog 152 6).getD default
@[simp] theorem fo152_6 : fieldOf Tryd.prog 152 6 = some F152_6 := by kernel_rfl
@[simp] theorem ft152_6 : F152_6.type = 148 := by kernel_rfl
@[simp] theorem fx152_6 : F152_6.offset = 6 := by kernel_rfl
noncomputable def F152_7 : Field := (fieldOf Tryd.prog 152 7).getD default
@[simp] theorem fo152_7 : fieldOf Tryd.prog 152 7 = some F152_7 := by kernel_rfl
@[simp] theorem ft152_7 : F152_7.type = 149 := by kernel_rfl
@[simp] theorem fx152_7 : F152_7.offset = 7 := by kernel_rfl
noncomputable def F152_8 : Field := (fieldOf Tryd.prog 152 8).getD default
@[simp] theorem fo152_8 : fieldOf Tryd.prog 152 8 = some F152_8 := by kernel_rfl
@[simp] theorem ft152_8 : F152_8.type = 115 := by kernel_rfl
@[simp] theorem fx152_8 : F152_8.offset = 8 := by kernel_rfl
noncomputable def F152_9 : Field := (fieldOf Tryd.prog 152 9).getD default
@[simp] theorem fo152_9 : fieldOf Tryd.prog 152 9 = some F152_9 := by kernel_rfl
@[simp] theorem ft152_9 : F152_9.type = 150 := by kernel_rfl
@[simp] theorem fx152_9 : F152_9.offset = 9 := by kernel_rfl
noncomputable def F152_10 : Field := (fieldOf Tryd.prog 152 10).getD default
@[simp] theorem fo152_10 : fieldOf Tryd.prog 152 10 = some F152_10 := by kernel_rfl
@[simp] theorem ft152_10 : F152_10.type = 151 := by kernel_rfl
@[simp] theorem fx152_10 : F152_10.offset = 10 := by kernel_rfl
@[simp] theorem inf153 : Tryd.prog.info? 153 = some Tryd.t153 := by kernel_rfl
@[simp] theorem tsz153 : Tryd.t153.size = 11 := by kernel_rfl
@[simp] theorem tby153 : Tryd.t153.bytes = 48 := by kernel_rfl
@[simp] theorem agg153 : aggT Tryd.prog 153 = some true := by kernel_rfl
@[simp] theorem slot153 : slotSize Tryd.prog 153 = 0 := by kernel_rfl
attribute [simp] Tryd.underlying153
@[simp] theorem zero153 : zeroV Tryd.prog 153 = some (.agg [(.int .u64 0), (.int .u64 0), (.int .u32 0), (.int .u8 0), (.int .u8 0), (.int .u8 0), (.int .u8 0), .undef, .undef, (.int .i32 0), (.int .i32 0)]) := by kernel_rfl
@[simp] theorem slots153 : slotSizes Tryd.prog 153 = [0, 0, 0, 0, 0, 0, 0, 0, 0, 0, 0] := by kernel_rfl
noncomputable def F153_0 : Field := (fieldOf Tryd.prog 153 0).getD default
@[simp] theorem fo153_0 : fieldOf Tryd.prog 153 0 = some F153_0 := by kernel_rfl
@[simp] theorem ft153_0 : F153_0.type = 12 := by kernel_rfl
@[simp] theorem fx153_0 : F153_0.offset = 0 := by kernel_rfl
noncomputable def F153_1 : Field := (fieldOf Tryd.prog 153 1).getD default
@[simp] theorem fo153_1 : fieldOf Tryd.prog 153 1 = some F153_1 := by kernel_rfl
@[simp] theorem ft153_1 : F153_1.type = 12 := by kernel_rfl
@[simp] theorem fx153_1 : F153_1.offset = 1 := by kernel_rfl
noncomputable def F153_2 : Field := (fieldOf Tryd.prog 153 2).getD default
@[simp] theorem fo153_2 : fieldOf Tryd.prog 153 2 = some F153_2 := by kernel_rfl
@[simp] theorem ft153_2 : F153_2.type = 106 := by kernel_rfl
@[simp] theorem fx153_2 : F153_2.offset = 2 := by kernel_rfl
noncomputable def F153_3 : Field := (fieldOf Tryd.prog 153 3).getD default
@[simp] theorem fo153_3 : fieldOf Tryd.prog 153 3 = some F153_3 := by kernel_rfl
@[simp] theorem ft153_3 : F153_3.type = 147 := by kernel_rfl
@[simp] theorem fx153_3 : F153_3.offset = 3 := by kernel_rfl
noncomputable def F153_4 : Field := (fieldOf Tryd.prog 153 4).getD default
@[simp] theorem fo153_4 : fieldOf Tryd.prog 153 4 = some F153_4 := by kernel_rfl
@[simp] theorem ft153_4 : F153_4.type = 5 := by kernel_rfl
@[simp] theorem fx153_4 : F153_4.offset = 4 := by kernel_rfl
noncomputable def F153_5 : Field := (fieldOf Tryd.prog 153 5).getD default
@[simp] theorem fo153_5 : fieldOf Tryd.prog 153 5 = some F153_5 := by kernel_rfl
@[simp] theorem ft153_5 : F153_5.type = 5 := by kernel_rfl
@[simp] theorem fx153_5 : F153_5.offset = 5 := by kernel_rfl
noncomputable def F153_6 : Field := (fieldOf Tryd.prog 153 6).getD default
@[simp] theorem fo153_6 : fieldOf Tryd.prog 153 6 = some F153_6 := by kernel_rfl
@[simp] theorem ft153_6 : F153_6.type = 148 := by kernel_rfl
@[simp] theorem fx153_6 : F153_6.offset = 6 := by kernel_rfl
noncomputable def F153_7 : Field := (fieldOf Tryd.prog 153 7).getD default
@[simp] theorem fo153_7 : fieldOf Tryd.prog 153 7 = some F153_7 := by kernel_rfl
@[simp] theorem ft153_7 : F153_7.type = 149 := by kernel_rfl
@[simp] theorem fx153_7 : F153_7.offset = 7 := by kernel_rfl
noncomputable def F153_8 : Field := (fieldOf Tryd.prog 153 8).getD default
@[simp] theorem fo153_8 : fieldOf Tryd.prog 153 8 = some F153_8 := by kernel_rfl
@[simp] theorem ft153_8 : F153_8.type = 115 := by kernel_rfl
@[simp] theorem fx153_8 : F153_8.offset = 8 := by kernel_rfl
noncomputable def F153_9 : Field := (fieldOf Tryd.prog 153 9).getD default
@[simp] theorem fo153_9 : fieldOf Tryd.prog 153 9 = some F153_9 := by kernel_rfl
@[simp] theorem ft153_9 : F153_9.type = 150 := by kernel_rfl
@[simp] theorem fx153_9 : F153_9.offset = 9 := by kernel_rfl
noncomputable def F153_10 : Field := (fieldOf Tryd.prog 153 10).getD default
@[simp] theorem fo153_10 : fieldOf Tryd.prog 153 10 = some F153_10 := by kernel_rfl
@[simp] theorem ft153_10 : F153_10.type = 151 := by kernel_rfl
@[simp] theorem fx153_10 : F153_10.offset = 10 := by kernel_rfl
-- T 0 ()
-- T 1 func()
-- T 2 int64
-- T 3 int
-- T 4 bool
-- T 5 uint8
-- T 6 abi.BoundsErrorCode
-- T 7 struct { x int64; y int; signed bool; code abi.BoundsErrorCode }
-- T 8 runtime.boundsError
-- T 9 string
-- T 10 runtime.errorString
-- T 11 runtime.plainError
-- T 12 uintptr
-- T 13 struct { msg string; addr uintptr }
-- T 14 runtime.errorAddressString
-- T 15 *runtime.TypeAssertionError
-- T 16 *runtime.PanicNilError
-- T 17 *abi.Type
-- T 18 struct { typ *abi.Type }
-- T 19 maps.unhashableTypeError
-- T 20 interface {}
-- T 21 int32
-- T 22 []string
-- T 23 []int
-- T 24 struct { Sectors []string; Bad []int }
-- T 25 api.Drive
-- T 26 func(api.Drive) bool
-- T 27 func() bool
-- T 28 []api.Write
-- T 29 api.Errno
-- T 30 ([]api.Write, api.Errno)
-- T 31 func(api.Drive) ([]api.Write, api.Errno)
-- T 32 func([]api.Write, []api.Write) bool
-- T 33 func([]api.Write) bool
-- T 34 func(api.Drive, []api.Write) ([]api.Write, api.Errno)
-- T 35 (api.Drive, int, api.Errno)
-- T 36 func(api.Drive, []api.Write, int) (api.Drive, int, api.Errno)
-- T 37 func(api.Drive, []api.Write, uint8, uint8) bool
-- T 38 func([]api.Write) []api.Write
-- T 39 struct { Sector int; Data string }
-- T 40 api.Write
-- T 41 func(api.Drive, []api.Write) bool
-- T 42 (api.Drive, api.Errno)
-- T 43 func(int, int) (api.Drive, api.Errno)
-- T 44 struct { Start int; Count int }
-- T 45 api.Extent
-- T 46 (api.Extent, api.Extent, api.Errno)
-- T 47 func(api.Drive) (api.Extent, api.Extent, api.Errno)
-- T 48 func(int, int) bool
-- T 49 func(string, string) bool
-- T 50 (int, bool)
-- T 51 func(api.Drive) (int, bool)
-- T 52 (string, api.Errno)
-- T 53 func(api.Drive, int) (string, api.Errno)
-- T 54 ([]int, bool)
-- T 55 func(api.Drive, string) ([]int, bool)
-- T 56 func() string
-- T 57 func(api.Drive, int) bool
-- T 58 func(string, int) ([]int, bool)
-- T 59 func(string) string
-- T 60 func(int, int) string
-- T 61 func(api.Drive, int, string) (api.Drive, api.Errno)
-- T 62 map[int]string
-- T 63 (string, bool)
-- T 64 func([]int)
-- T 65 func(int) (api.Drive, api.Errno)
-- T 66 []uint8
-- T 67 uint
-- T 68 func(string, int) string
-- T 69 (int, int, api.Errno)
-- T 70 func(string, int, int) (int, int, api.Errno)
-- T 71 map[int]bool
-- T 72 func(api.Drive) map[int]bool
-- T 73 func(string, string) string
-- T 74 func(int) string
-- T 75 func([]int, int, int, int)
-- T 76 func(uint) int
-- T 77 func([]string, int) []string
-- T 78 func(api.Drive) api.Drive
-- T 79 func(api.Drive, map[int]bool, api.Write) api.Errno
-- T 80 (uint, uint)
-- T 81 func(uint, uint) (uint, uint)
-- T 82 *strings.Builder
-- T 83 struct { addr *strings.Builder; buf []uint8 }
-- T 84 strings.Builder
-- T 85 func(int)
-- T 86 interface { Error() string }
-- T 87 error
-- T 88 (int, error)
-- T 89 func(string) (int, error)
-- T 90 func() int
-- T 91 func(string, uint8) string
-- T 92 [256]bool
-- T 93 strings.asciiSet
-- T 94 (strings.asciiSet, bool)
-- T 95 func(string) (strings.asciiSet, bool)
-- T 96 func(string, *strings.asciiSet) string
-- T 97 *strings.asciiSet
-- T 98 func([]int, int, int)
-- T 99 slices.sortedHint
-- T 100 (int, slices.sortedHint)
-- T 101 func([]int, int, int) (int, slices.sortedHint)
-- T 102 func([]int, int, int) bool
-- T 103 func([]int, int, int, int) int
-- T 104 func([]int, int, int, int) (int, bool)
-- T 105 func(uint32) int
-- T 106 uint32
-- T 107 func(uint64) int
-- T 108 uint64
-- T 109 func([]string) []string
-- T 110 func([]int) []int
-- T 111 (uint32, uint32)
-- T 112 func(uint32, uint32) (uint32, uint32)
-- T 113 (uint64, uint64)
-- T 114 func(uint64, uint64) (uint64, uint64)
-- T 115 *uint8
-- T 116 func(uint8) bool
-- T 117 (int32, int)
-- T 118 func(string) (int32, int)
-- T 119 func(string, int32) bool
-- T 120 slices.xorshift
-- T 121 func(int) uint
-- T 122 func() uint64
-- T 123 func([]int, int, *int) int
-- T 124 *int
-- T 125 func([]int, int, int, int, *int) int
-- T 126 func(int) bool
-- T 127 unsafe.Pointer
-- T 128 func(unsafe.Pointer) unsafe.Pointer
-- T 129 func(int) []uint8
-- T 130 func(string, int32) int
-- T 131 *slices.xorshift
-- T 132 (int, int)
-- T 133 func([]int, int, int, *int) (int, int)
-- T 134 [256]uint8
-- T 135 struct { lo uint8; hi uint8 }
-- T 136 utf8.acceptRange
-- T 137 [16]utf8.acceptRange
-- T 138 func(string, uint8) int
-- T 139 func(int32) bool
-- T 140 func(int) int
-- T 141 func(string, string) int
-- T 142 struct { _interface *abi.Type; concrete *abi.Type; asserted *abi.Type; missingMethod string }
-- T 143 runtime.TypeAssertionError
-- T 144 [0]*runtime.PanicNilError
-- T 145 struct { _ [0]*runtime.PanicNilError }
-- T 146 runtime.PanicNilError
-- T 147 abi.TFlag
-- T 148 abi.Kind
-- T 149 func(unsafe.Pointer, unsafe.Pointer) bool
-- T 150 abi.NameOff
-- T 151 abi.TypeOff
-- T 152 struct { Size_ uintptr; PtrBytes uintptr; Hash uint32; TFlag abi.TFlag; Align_ uint8; FieldAlign_ uint8; Kind_ abi.Kind; Equal func(unsafe.Pointer, unsafe.Pointer) bool; GCData *uint8; Str abi.NameOff; PtrToThis abi.TypeOff }
-- T 153 abi.Type
@[simp] theorem k4_26 : DC.keep 4 26 = some [16, 21, 148, 149] := rfl
@[simp] theorem k5_5 : DC.keep 5 5 = some [1, 2, 5, 32, 33, 34] := rfl
@[simp] theorem k5_12 : DC.keep 5 12 = some [1, 2, 5, 7, 8, 9, 32, 33, 34, 52, 53, 54] := rfl
@[simp] theorem k5_21 : DC.keep 5 21 = some [1, 2, 5, 75, 76, 77] := rfl
@[simp] theorem k5_25 : DC.keep 5 25 = some [1, 2, 5, 13, 14, 75, 76, 77, 81, 82, 83] := rfl
@[simp] theorem k6_12 : DC.keep 6 12 = some [0, 5, 8, 110] := rfl
@[simp] theorem k7_4 : DC.keep 7 4 = some [16, 17, 18] := rfl
@[simp] theorem k9_14 : DC.keep 9 14 = some [1, 10, 41, 42, 43] := rfl
@[simp] theorem k10_13 : DC.keep 10 13 = some [1, 7, 9, 10] := rfl
@[simp] theorem k11_4 : DC.keep 11 4 = some [0, 1, 5] := rfl
@[simp] theorem k12_2 : DC.keep 12 2 = some [0, 5, 6, 7] := rfl
@[simp] theorem k13_7 : DC.keep 13 7 = some [1, 2, 24, 25, 26] := rfl
@[simp] theorem k13_22 : DC.keep 13 22 = some [10, 11, 12, 54, 55] := rfl
@[simp] theorem k14_2 : DC.keep 14 2 = some [1, 2, 3, 6, 9] := rfl
@[simp] theorem k16_4 : DC.keep 16 4 = some [3, 4, 13, 14, 15] := rfl
@[simp] theorem k16_14 : DC.keep 16 14 = some [3, 9, 41, 42, 43] := rfl
@[simp] theorem k17_8 : DC.keep 17 8 = some [0, 1, 4, 6, 8, 26, 27] := rfl
@[simp] theorem k22_7 : DC.keep 22 7 = some [1, 2, 7, 9, 10, 22, 23] := rfl
@[simp] theorem k25_2 : DC.keep 25 2 = some [1, 2, 5] := rfl
@[simp] theorem k26_7 : DC.keep 26 7 = some [0, 1, 6, 9, 10, 11] := rfl
@[simp] theorem k27_2 : DC.keep 27 2 = some [3] := rfl
@[simp] theorem k29_3 : DC.keep 29 3 = some [0, 5, 12, 13] := rfl
@[simp] theorem k35_4 : DC.keep 35 4 = some [1, 2, 3, 6, 9, 17, 18, 19] := rfl
@[simp] theorem k39_4 : DC.keep 39 4 = some [1, 19, 20, 21] := rfl
@[simp] theorem k39_11 : DC.keep 39 11 = some [1, 5, 30, 31, 32] := rfl
@[simp] theorem k40_7 : DC.keep 40 7 = some [0, 1, 2, 9, 10] := rfl
@[simp] theorem k42_3 : DC.keep 42 3 = some [3, 8, 9, 10] := rfl
@[simp] theorem k44_4 : DC.keep 44 4 = some [1, 3] := rfl
@[simp] theorem k44_9 : DC.keep 44 9 = some [1, 4] := rfl
@[simp] theorem k45_7 : DC.keep 45 7 = some [0, 1, 2, 9, 10] := rfl
@[simp] theorem k47_5 : DC.keep 47 5 = some [0, 1, 5, 6] := rfl
@[simp] theorem k48_2 : DC.keep 48 2 = some [1, 2, 5] := rfl
@[simp] theorem k49_3 : DC.keep 49 3 = some [0, 3, 4] := rfl
@[simp] theorem k50_2 : DC.keep 50 2 = some [0, 1, 2, 3, 8, 9] := rfl
@[simp] theorem k52_8 : DC.keep 52 8 = some [7, 8] := rfl
@[simp] theorem k60_1 : DC.keep 60 1 = some [0, 1] := rfl
@[simp] theorem k61_1 : DC.keep 61 1 = some [0, 1] := rfl
@[simp] theorem k62_2 : DC.keep 62 2 = some [0, 2, 4] := rfl
@[simp] theorem k63_1 : DC.keep 63 1 = some [0, 1] := rfl
@[simp] theorem k64_1 : DC.keep 64 1 = some [0, 1] := rfl
@[simp] theorem k65_1 : DC.keep 65 1 = some [0, 1] := rfl
@[simp] theorem k66_1 : DC.keep 66 1 = some [0, 1] := rfl
@[simp] theorem k67_1 : DC.keep 67 1 = some [0, 1, 2, 6] := rfl
@[simp] theorem k67_4 : DC.keep 67 4 = some [0, 1, 2, 6, 7] := rfl
@[simp] theorem k68_4 : DC.keep 68 4 = some [0, 6, 7, 8, 9] := rfl
@[simp] theorem k68_8 : DC.keep 68 8 = some [0, 6, 7, 10] := rfl
@[simp] theorem k69_5 : DC.keep 69 5 = some [0, 1, 6, 7, 8, 9] := rfl
@[simp] theorem k71_2 : DC.keep 71 2 = some [0, 6, 7] := rfl
@[simp] theorem k72_3 : DC.keep 72 3 = some [0, 1, 2, 7, 8] := rfl
@[simp] theorem k72_5 : DC.keep 72 5 = some [0, 1, 2, 7, 8] := rfl
@[simp] theorem k72_14 : DC.keep 72 14 = some [0, 1, 2, 7, 8, 9] := rfl
@[simp] theorem k72_20 : DC.keep 72 20 = some [0, 1, 2, 7, 8, 10] := rfl
@[simp] theorem k74_3 : DC.keep 74 3 = some [0, 1, 9, 10] := rfl
@[simp] theorem k74_5 : DC.keep 74 5 = some [0, 1, 9, 10] := rfl
@[simp] theorem k75_3 : DC.keep 75 3 = some [0, 1, 10, 11] := rfl
@[simp] theorem k75_5 : DC.keep 75 5 = some [0, 1, 10, 11] := rfl
@[simp] theorem k75_13 : DC.keep 75 13 = some [0, 1, 10, 11] := rfl
@[simp] theorem k75_15 : DC.keep 75 15 = some [0, 1, 10, 11] := rfl
@[simp] theorem k87_10 : DC.keep 87 10 = some [0, 4, 5, 6] := rfl
@[simp] theorem k88_1 : DC.keep 88 1 = some [0, 2, 3, 8] := rfl
end Go.Abs
