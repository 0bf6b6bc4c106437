/- Proved here: facts of the types. No condition but those that each theorem states. -/
import Derived.Test.YtbnnaaadblpgiaaGreatDC
namespace Go.Abs
open Go.Proofs
set_option maxRecDepth 100000
set_option linter.unusedVariables false
set_option linter.unusedSimpArgs false

@[simp] theorem inf1 : Tryz.prog.info? 1 = some Tryz.t1 := by kernel_rfl
@[simp] theorem tsz1 : Tryz.t1.size = 1 := by kernel_rfl
@[simp] theorem tby1 : Tryz.t1.bytes = 8 := by kernel_rfl
@[simp] theorem agg1 : aggT Tryz.prog 1 = some false := by kernel_rfl
@[simp] theorem slot1 : slotSize Tryz.prog 1 = 0 := by kernel_rfl
attribute [simp] Tryz.underlying1
@[simp] theorem zero1 : zeroV Tryz.prog 1 = some (.nilx 1) := by kernel_rfl
@[simp] theorem inf2 : Tryz.prog.info? 2 = some Tryz.t2 := by kernel_rfl
@[simp] theorem tsz2 : Tryz.t2.size = 1 := by kernel_rfl
@[simp] theorem tby2 : Tryz.t2.bytes = 8 := by kernel_rfl
@[simp] theorem agg2 : aggT Tryz.prog 2 = some false := by kernel_rfl
@[simp] theorem slot2 : slotSize Tryz.prog 2 = 0 := by kernel_rfl
attribute [simp] Tryz.underlying2
@[simp] theorem zero2 : zeroV Tryz.prog 2 = some (.int .i64 0) := by kernel_rfl
@[simp] theorem inf3 : Tryz.prog.info? 3 = some Tryz.t3 := by kernel_rfl
@[simp] theorem tsz3 : Tryz.t3.size = 1 := by kernel_rfl
@[simp] theorem tby3 : Tryz.t3.bytes = 8 := by kernel_rfl
@[simp] theorem agg3 : aggT Tryz.prog 3 = some false := by kernel_rfl
@[simp] theorem slot3 : slotSize Tryz.prog 3 = 0 := by kernel_rfl
attribute [simp] Tryz.underlying3
@[simp] theorem zero3 : zeroV Tryz.prog 3 = some (.int .i64 0) := by kernel_rfl
@[simp] theorem inf4 : Tryz.prog.info? 4 = some Tryz.t4 := by kernel_rfl
@[simp] theorem tsz4 : Tryz.t4.size = 1 := by kernel_rfl
@[simp] theorem tby4 : Tryz.t4.bytes = 1 := by kernel_rfl
@[simp] theorem agg4 : aggT Tryz.prog 4 = some false := by kernel_rfl
@[simp] theorem slot4 : slotSize Tryz.prog 4 = 0 := by kernel_rfl
attribute [simp] Tryz.underlying4
@[simp] theorem zero4 : zeroV Tryz.prog 4 = some (.bool false) := by kernel_rfl
@[simp] theorem inf5 : Tryz.prog.info? 5 = some Tryz.t5 := by kernel_rfl
@[simp] theorem tsz5 : Tryz.t5.size = 1 := by kernel_rfl
@[simp] theorem tby5 : Tryz.t5.bytes = 1 := by kernel_rfl
@[simp] theorem agg5 : aggT Tryz.prog 5 = some false := by kernel_rfl
@[simp] theorem slot5 : slotSize Tryz.prog 5 = 0 := by kernel_rfl
attribute [simp] Tryz.underlying5
@[simp] theorem zero5 : zeroV Tryz.prog 5 = some (.int .u8 0) := by kernel_rfl
@[simp] theorem inf6 : Tryz.prog.info? 6 = some Tryz.t6 := by kernel_rfl
@[simp] theorem tsz6 : Tryz.t6.size = 1 := by kernel_rfl
@[simp] theorem tby6 : Tryz.t6.bytes = 1 := by kernel_rfl
@[simp] theorem agg6 : aggT Tryz.prog 6 = some false := by kernel_rfl
@[simp] theorem slot6 : slotSize Tryz.prog 6 = 0 := by kernel_rfl
attribute [simp] Tryz.underlying6
@[simp] theorem zero6 : zeroV Tryz.prog 6 = some (.int .u8 0) := by kernel_rfl
attribute [simp] Tryz.underlying7
@[simp] theorem inf8 : Tryz.prog.info? 8 = some Tryz.t8 := by kernel_rfl
@[simp] theorem tsz8 : Tryz.t8.size = 4 := by kernel_rfl
@[simp] theorem tby8 : Tryz.t8.bytes = 24 := by kernel_rfl
@[simp] theorem agg8 : aggT Tryz.prog 8 = some true := by kernel_rfl
@[simp] theorem slot8 : slotSize Tryz.prog 8 = 0 := by kernel_rfl
attribute [simp] Tryz.underlying8
@[simp] theorem zero8 : zeroV Tryz.prog 8 = some (.agg [(.int .i64 0), (.int .i64 0), (.bool false), (.int .u8 0)]) := by kernel_rfl
@[simp] theorem slots8 : slotSizes Tryz.prog 8 = [0, 0, 0, 0] := by kernel_rfl
noncomputable def F8_0 : Field := (fieldOf Tryz.prog 8 0).getD default
@[simp] theorem fo8_0 : fieldOf Tryz.prog 8 0 = some F8_0 := by kernel_rfl
@[simp] theorem ft8_0 : F8_0.type = 2 := by kernel_rfl
@[simp] theorem fx8_0 : F8_0.offset = 0 := by kernel_rfl
noncomputable def F8_1 : Field := (fieldOf Tryz.prog 8 1).getD default
@[simp] theorem fo8_1 : fieldOf Tryz.prog 8 1 = some F8_1 := by kernel_rfl
@[simp] theorem ft8_1 : F8_1.type = 3 := by kernel_rfl
@[simp] theorem fx8_1 : F8_1.offset = 1 := by kernel_rfl
noncomputable def F8_2 : Field := (fieldOf Tryz.prog 8 2).getD default
@[simp] theorem fo8_2 : fieldOf Tryz.prog 8 2 = some F8_2 := by kernel_rfl
@[simp] theorem ft8_2 : F8_2.type = 4 := by kernel_rfl
@[simp] theorem fx8_2 : F8_2.offset = 2 := by kernel_rfl
noncomputable def F8_3 : Field := (fieldOf Tryz.prog 8 3).getD default
@[simp] theorem fo8_3 : fieldOf Tryz.prog 8 3 = some F8_3 := by kernel_rfl
@[simp] theorem ft8_3 : F8_3.type = 6 := by kernel_rfl
@[simp] theorem fx8_3 : F8_3.offset = 3 := by kernel_rfl
@[simp] theorem inf9 : Tryz.prog.info? 9 = some Tryz.t9 := by kernel_rfl
@[simp] theorem tsz9 : Tryz.t9.size = 1 := by kernel_rfl
@[simp] theorem tby9 : Tryz.t9.bytes = 16 := by kernel_rfl
@[simp] theorem agg9 : aggT Tryz.prog 9 = some false := by kernel_rfl
@[simp] theorem slot9 : slotSize Tryz.prog 9 = 0 := by kernel_rfl
attribute [simp] Tryz.underlying9
@[simp] theorem zero9 : zeroV Tryz.prog 9 = some (.str []) := by kernel_rfl
@[simp] theorem inf10 : Tryz.prog.info? 10 = some Tryz.t10 := by kernel_rfl
@[simp] theorem tsz10 : Tryz.t10.size = 1 := by kernel_rfl
@[simp] theorem tby10 : Tryz.t10.bytes = 16 := by kernel_rfl
@[simp] theorem agg10 : aggT Tryz.prog 10 = some false := by kernel_rfl
@[simp] theorem slot10 : slotSize Tryz.prog 10 = 0 := by kernel_rfl
attribute [simp] Tryz.underlying10
@[simp] theorem zero10 : zeroV Tryz.prog 10 = some (.str []) := by kernel_rfl
@[simp] theorem inf11 : Tryz.prog.info? 11 = some Tryz.t11 := by kernel_rfl
@[simp] theorem tsz11 : Tryz.t11.size = 1 := by kernel_rfl
@[simp] theorem tby11 : Tryz.t11.bytes = 16 := by kernel_rfl
@[simp] theorem agg11 : aggT Tryz.prog 11 = some false := by kernel_rfl
@[simp] theorem slot11 : slotSize Tryz.prog 11 = 0 := by kernel_rfl
attribute [simp] Tryz.underlying11
@[simp] theorem zero11 : zeroV Tryz.prog 11 = some (.str []) := by kernel_rfl
@[simp] theorem inf12 : Tryz.prog.info? 12 = some Tryz.t12 := by kernel_rfl
@[simp] theorem tsz12 : Tryz.t12.size = 1 := by kernel_rfl
@[simp] theorem tby12 : Tryz.t12.bytes = 8 := by kernel_rfl
@[simp] theorem agg12 : aggT Tryz.prog 12 = some false := by kernel_rfl
@[simp] theorem slot12 : slotSize Tryz.prog 12 = 0 := by kernel_rfl
attribute [simp] Tryz.underlying12
@[simp] theorem zero12 : zeroV Tryz.prog 12 = some (.int .u64 0) := by kernel_rfl
attribute [simp] Tryz.underlying13
@[simp] theorem inf14 : Tryz.prog.info? 14 = some Tryz.t14 := by kernel_rfl
@[simp] theorem tsz14 : Tryz.t14.size = 2 := by kernel_rfl
@[simp] theorem tby14 : Tryz.t14.bytes = 24 := by kernel_rfl
@[simp] theorem agg14 : aggT Tryz.prog 14 = some true := by kernel_rfl
@[simp] theorem slot14 : slotSize Tryz.prog 14 = 0 := by kernel_rfl
attribute [simp] Tryz.underlying14
@[simp] theorem zero14 : zeroV Tryz.prog 14 = some (.agg [(.str []), (.int .u64 0)]) := by kernel_rfl
@[simp] theorem slots14 : slotSizes Tryz.prog 14 = [0, 0] := by kernel_rfl
noncomputable def F14_0 : Field := (fieldOf Tryz.prog 14 0).getD default
@[simp] theorem fo14_0 : fieldOf Tryz.prog 14 0 = some F14_0 := by kernel_rfl
@[simp] theorem ft14_0 : F14_0.type = 9 := by kernel_rfl
@[simp] theorem fx14_0 : F14_0.offset = 0 := by kernel_rfl
noncomputable def F14_1 : Field := (fieldOf Tryz.prog 14 1).getD default
@[simp] theorem fo14_1 : fieldOf Tryz.prog 14 1 = some F14_1 := by kernel_rfl
@[simp] theorem ft14_1 : F14_1.type = 12 := by kernel_rfl
@[simp] theorem fx14_1 : F14_1.offset = 1 := by kernel_rfl
@[simp] theorem inf15 : Tryz.prog.info? 15 = some Tryz.t15 := by kernel_rfl
@[simp] theorem tsz15 : Tryz.t15.size = 1 := by kernel_rfl
@[simp] theorem tby15 : Tryz.t15.bytes = 8 := by kernel_rfl
@[simp] theorem agg15 : aggT Tryz.prog 15 = some false := by kernel_rfl
@[simp] theorem slot15 : slotSize Tryz.prog 15 = 0 := by kernel_rfl
attribute [simp] Tryz.underlying15
@[simp] theorem zero15 : zeroV Tryz.prog 15 = some (.nilx 0) := by kernel_rfl
@[simp] theorem inf16 : Tryz.prog.info? 16 = some Tryz.t16 := by kernel_rfl
@[simp] theorem tsz16 : Tryz.t16.size = 1 := by kernel_rfl
@[simp] theorem tby16 : Tryz.t16.bytes = 8 := by kernel_rfl
@[simp] theorem agg16 : aggT Tryz.prog 16 = some false := by kernel_rfl
@[simp] theorem slot16 : slotSize Tryz.prog 16 = 0 := by kernel_rfl
attribute [simp] Tryz.underlying16
@[simp] theorem zero16 : zeroV Tryz.prog 16 = some (.nilx 0) := by kernel_rfl
@[simp] theorem inf17 : Tryz.prog.info? 17 = some Tryz.t17 := by kernel_rfl
@[simp] theorem tsz17 : Tryz.t17.size = 1 := by kernel_rfl
@[simp] theorem tby17 : Tryz.t17.bytes = 8 := by kernel_rfl
@[simp] theorem agg17 : aggT Tryz.prog 17 = some false := by kernel_rfl
@[simp] theorem slot17 : slotSize Tryz.prog 17 = 0 := by kernel_rfl
attribute [simp] Tryz.underlying17
@[simp] theorem zero17 : zeroV Tryz.prog 17 = some (.nilx 0) := by kernel_rfl
attribute [simp] Tryz.underlying18
@[simp] theorem inf19 : Tryz.prog.info? 19 = some Tryz.t19 := by kernel_rfl
@[simp] theorem tsz19 : Tryz.t19.size = 1 := by kernel_rfl
@[simp] theorem tby19 : Tryz.t19.bytes = 8 := by kernel_rfl
@[simp] theorem agg19 : aggT Tryz.prog 19 = some true := by kernel_rfl
@[simp] theorem slot19 : slotSize Tryz.prog 19 = 0 := by kernel_rfl
attribute [simp] Tryz.underlying19
@[simp] theorem zero19 : zeroV Tryz.prog 19 = some (.agg [(.nilx 0)]) := by kernel_rfl
@[simp] theorem slots19 : slotSizes Tryz.prog 19 = [0] := by kernel_rfl
noncomputable def F19_0 : Field := (fieldOf Tryz.prog 19 0).getD default
@[simp] theorem fo19_0 : fieldOf Tryz.prog 19 0 = some F19_0 := by kernel_rfl
@[simp] theorem ft19_0 : F19_0.type = 17 := by kernel_rfl
@[simp] theorem fx19_0 : F19_0.offset = 0 := by kernel_rfl
@[simp] theorem inf21 : Tryz.prog.info? 21 = some Tryz.t21 := by kernel_rfl
@[simp] theorem tsz21 : Tryz.t21.size = 1 := by kernel_rfl
@[simp] theorem tby21 : Tryz.t21.bytes = 4 := by kernel_rfl
@[simp] theorem agg21 : aggT Tryz.prog 21 = some false := by kernel_rfl
@[simp] theorem slot21 : slotSize Tryz.prog 21 = 0 := by kernel_rfl
attribute [simp] Tryz.underlying21
@[simp] theorem zero21 : zeroV Tryz.prog 21 = some (.int .i32 0) := by kernel_rfl
@[simp] theorem inf22 : Tryz.prog.info? 22 = some Tryz.t22 := by kernel_rfl
@[simp] theorem tsz22 : Tryz.t22.size = 6 := by kernel_rfl
@[simp] theorem tby22 : Tryz.t22.bytes = 48 := by kernel_rfl
@[simp] theorem agg22 : aggT Tryz.prog 22 = some true := by kernel_rfl
@[simp] theorem slot22 : slotSize Tryz.prog 22 = 0 := by kernel_rfl
attribute [simp] Tryz.underlying22
@[simp] theorem zero22 : zeroV Tryz.prog 22 = some (.agg [(.int .i64 0), (.int .i64 0), (.int .i64 0), (.int .i64 0), (.int .i64 0), (.int .i64 0)]) := by kernel_rfl
@[simp] theorem inf23 : Tryz.prog.info? 23 = some Tryz.t23 := by kernel_rfl
@[simp] theorem tsz23 : Tryz.t23.size = 2 := by kernel_rfl
@[simp] theorem tby23 : Tryz.t23.bytes = 16 := by kernel_rfl
@[simp] theorem agg23 : aggT Tryz.prog 23 = some true := by kernel_rfl
@[simp] theorem slot23 : slotSize Tryz.prog 23 = 0 := by kernel_rfl
attribute [simp] Tryz.underlying23
@[simp] theorem zero23 : zeroV Tryz.prog 23 = some (.agg [(.int .i64 0), (.int .i64 0)]) := by kernel_rfl
attribute [simp] Tryz.underlying24
@[simp] theorem inf25 : Tryz.prog.info? 25 = some Tryz.t25 := by kernel_rfl
@[simp] theorem tsz25 : Tryz.t25.size = 10 := by kernel_rfl
@[simp] theorem tby25 : Tryz.t25.bytes = 80 := by kernel_rfl
@[simp] theorem agg25 : aggT Tryz.prog 25 = some true := by kernel_rfl
@[simp] theorem slot25 : slotSize Tryz.prog 25 = 0 := by kernel_rfl
attribute [simp] Tryz.underlying25
@[simp] theorem zero25 : zeroV Tryz.prog 25 = some (.agg [(.int .i64 0), (.int .i64 0), (.int .i64 0), (.int .i64 0), (.int .i64 0), (.int .i64 0), (.int .i64 0), (.int .i64 0), (.int .i64 0), (.int .i64 0)]) := by kernel_rfl
@[simp] theorem slots25 : slotSizes Tryz.prog 25 = [0, 0, 0, 0, 0, 0, 0, 0, 0, 0] := by kernel_rfl
noncomputable def F25_0 : Field := (fieldOf Tryz.prog 25 0).getD default
@[simp] theorem fo25_0 : fieldOf Tryz.prog 25 0 = some F25_0 := by kernel_rfl
@[simp] theorem ft25_0 : F25_0.type = 22 := by kernel_rfl
@[simp] theorem fx25_0 : F25_0.offset = 0 := by kernel_rfl
noncomputable def F25_1 : Field := (fieldOf Tryz.prog 25 1).getD default
@[simp] theorem fo25_1 : fieldOf Tryz.prog 25 1 = some F25_1 := by kernel_rfl
@[simp] theorem ft25_1 : F25_1.type = 23 := by kernel_rfl
@[simp] theorem fx25_1 : F25_1.offset = 6 := by kernel_rfl
noncomputable def F25_2 : Field := (fieldOf Tryz.prog 25 2).getD default
@[simp] theorem fo25_2 : fieldOf Tryz.prog 25 2 = some F25_2 := by kernel_rfl
@[simp] theorem ft25_2 : F25_2.type = 3 := by kernel_rfl
@[simp] theorem fx25_2 : F25_2.offset = 8 := by kernel_rfl
noncomputable def F25_3 : Field := (fieldOf Tryz.prog 25 3).getD default
@[simp] theorem fo25_3 : fieldOf Tryz.prog 25 3 = some F25_3 := by kernel_rfl
@[simp] theorem ft25_3 : F25_3.type = 3 := by kernel_rfl
@[simp] theorem fx25_3 : F25_3.offset = 9 := by kernel_rfl
@[simp] theorem inf26 : Tryz.prog.info? 26 = some Tryz.t26 := by kernel_rfl
@[simp] theorem tsz26 : Tryz.t26.size = 1 := by kernel_rfl
@[simp] theorem tby26 : Tryz.t26.bytes = 24 := by kernel_rfl
@[simp] theorem agg26 : aggT Tryz.prog 26 = some false := by kernel_rfl
@[simp] theorem slot26 : slotSize Tryz.prog 26 = 1 := by kernel_rfl
attribute [simp] Tryz.underlying26
@[simp] theorem zero26 : zeroV Tryz.prog 26 = some .nils := by kernel_rfl
@[simp] theorem elem26 : elemT Tryz.prog 26 = some Tryz.t3 := by kernel_rfl
attribute [simp] Tryz.underlying27
@[simp] theorem inf28 : Tryz.prog.info? 28 = some Tryz.t28 := by kernel_rfl
@[simp] theorem tsz28 : Tryz.t28.size = 4 := by kernel_rfl
@[simp] theorem tby28 : Tryz.t28.bytes = 32 := by kernel_rfl
@[simp] theorem agg28 : aggT Tryz.prog 28 = some true := by kernel_rfl
@[simp] theorem slot28 : slotSize Tryz.prog 28 = 0 := by kernel_rfl
attribute [simp] Tryz.underlying28
@[simp] theorem zero28 : zeroV Tryz.prog 28 = some (.agg [(.int .i64 0), (.int .i64 0), (.int .i64 0), (.bool false)]) := by kernel_rfl
@[simp] theorem slots28 : slotSizes Tryz.prog 28 = [0, 0, 0, 0] := by kernel_rfl
noncomputable def F28_0 : Field := (fieldOf Tryz.prog 28 0).getD default
@[simp] theorem fo28_0 : fieldOf Tryz.prog 28 0 = some F28_0 := by kernel_rfl
@[simp] theorem ft28_0 : F28_0.type = 3 := by kernel_rfl
@[simp] theorem fx28_0 : F28_0.offset = 0 := by kernel_rfl
noncomputable def F28_1 : Field := (fieldOf Tryz.prog 28 1).getD default
@[simp] theorem fo28_1 : fieldOf Tryz.prog 28 1 = some F28_1 := by kernel_rfl
@[simp] theorem ft28_1 : F28_1.type = 3 := by kernel_rfl
@[simp] theorem fx28_1 : F28_1.offset = 1 := by kernel_rfl
noncomputable def F28_2 : Field := (fieldOf Tryz.prog 28 2).getD default
@[simp] theorem fo28_2 : fieldOf Tryz.prog 28 2 = some F28_2 := by kernel_rfl
@[simp] theorem ft28_2 : F28_2.type = 3 := by kernel_rfl
@[simp] theorem fx28_2 : F28_2.offset = 2 := by kernel_rfl
noncomputable def F28_3 : Field := (fieldOf Tryz.prog 28 3).getD default
@[simp] theorem fo28_3 : fieldOf Tryz.prog 28 3 = some F28_3 := by kernel_rfl
@[simp] theorem ft28_3 : F28_3.type = 4 := by kernel_rfl
@[simp] theorem fx28_3 : F28_3.offset = 3 := by kernel_rfl
@[simp] theorem inf29 : Tryz.prog.info? 29 = some Tryz.t29 := by kernel_rfl
@[simp] theorem tsz29 : Tryz.t29.size = 32 := by kernel_rfl
@[simp] theorem tby29 : Tryz.t29.bytes = 256 := by kernel_rfl
@[simp] theorem agg29 : aggT Tryz.prog 29 = some true := by kernel_rfl
@[simp] theorem slot29 : slotSize Tryz.prog 29 = 0 := by kernel_rfl
attribute [simp] Tryz.underlying29
@[simp] theorem zero29 : zeroV Tryz.prog 29 = some (.agg [(.int .i64 0), (.int .i64 0), (.int .i64 0), (.bool false), (.int .i64 0), (.int .i64 0), (.int .i64 0), (.bool false), (.int .i64 0), (.int .i64 0), (.int .i64 0), (.bool false), (.int .i64 0), (.int .i64 0), (.int .i64 0), (.bool false), (.int .i64 0), (.int .i64 0), (.int .i64 0), (.bool false), (.int .i64 0), (.int .i64 0), (.int .i64 0), (.bool false), (.int .i64 0), (.int .i64 0), (.int .i64 0), (.bool false), (.int .i64 0), (.int .i64 0), (.int .i64 0), (.bool false)]) := by kernel_rfl
@[simp] theorem inf30 : Tryz.prog.info? 30 = some Tryz.t30 := by kernel_rfl
@[simp] theorem tsz30 : Tryz.t30.size = 64 := by kernel_rfl
@[simp] theorem tby30 : Tryz.t30.bytes = 512 := by kernel_rfl
@[simp] theorem agg30 : aggT Tryz.prog 30 = some true := by kernel_rfl
@[simp] theorem slot30 : slotSize Tryz.prog 30 = 0 := by kernel_rfl
attribute [simp] Tryz.underlying30
@[simp] theorem zero30 : zeroV Tryz.prog 30 = some (.agg [(.int .i64 0), (.int .i64 0), (.int .i64 0), (.bool false), (.int .i64 0), (.int .i64 0), (.int .i64 0), (.bool false), (.int .i64 0), (.int .i64 0), (.int .i64 0), (.bool false), (.int .i64 0), (.int .i64 0), (.int .i64 0), (.bool false), (.int .i64 0), (.int .i64 0), (.int .i64 0), (.bool false), (.int .i64 0), (.int .i64 0), (.int .i64 0), (.bool false), (.int .i64 0), (.int .i64 0), (.int .i64 0), (.bool false), (.int .i64 0), (.int .i64 0), (.int .i64 0), (.bool false), (.int .i64 0), (.int .i64 0), (.int .i64 0), (.bool false), (.int .i64 0), (.int .i64 0), (.int .i64 0), (.bool false), (.int .i64 0), (.int .i64 0), (.int .i64 0), (.bool false), (.int .i64 0), (.int .i64 0), (.int .i64 0), (.bool false), (.int .i64 0), (.int .i64 0), (.int .i64 0), (.bool false), (.int .i64 0), (.int .i64 0), (.int .i64 0), (.bool false), (.int .i64 0), (.int .i64 0), (.int .i64 0), (.bool false), (.int .i64 0), (.int .i64 0), (.int .i64 0), (.bool false)]) := by kernel_rfl
attribute [simp] Tryz.underlying31
@[simp] theorem inf32 : Tryz.prog.info? 32 = some Tryz.t32 := by kernel_rfl
@[simp] theorem tsz32 : Tryz.t32.size = 67 := by kernel_rfl
@[simp] theorem tby32 : Tryz.t32.bytes = 536 := by kernel_rfl
@[simp] theorem agg32 : aggT Tryz.prog 32 = some true := by kernel_rfl
@[simp] theorem slot32 : slotSize Tryz.prog 32 = 0 := by kernel_rfl
attribute [simp] Tryz.underlying32
@[simp] theorem zero32 : zeroV Tryz.prog 32 = some (.agg [(.bool false), (.int .i64 0), (.int .i64 0), (.int .i64 0), (.bool false), (.int .i64 0), (.int .i64 0), (.int .i64 0), (.bool false), (.int .i64 0), (.int .i64 0), (.int .i64 0), (.bool false), (.int .i64 0), (.int .i64 0), (.int .i64 0), (.bool false), (.int .i64 0), (.int .i64 0), (.int .i64 0), (.bool false), (.int .i64 0), (.int .i64 0), (.int .i64 0), (.bool false), (.int .i64 0), (.int .i64 0), (.int .i64 0), (.bool false), (.int .i64 0), (.int .i64 0), (.int .i64 0), (.bool false), (.int .i64 0), (.int .i64 0), (.int .i64 0), (.bool false), (.int .i64 0), (.int .i64 0), (.int .i64 0), (.bool false), (.int .i64 0), (.int .i64 0), (.int .i64 0), (.bool false), (.int .i64 0), (.int .i64 0), (.int .i64 0), (.bool false), (.int .i64 0), (.int .i64 0), (.int .i64 0), (.bool false), (.int .i64 0), (.int .i64 0), (.int .i64 0), (.bool false), (.int .i64 0), (.int .i64 0), (.int .i64 0), (.bool false), (.int .i64 0), (.int .i64 0), (.int .i64 0), (.bool false), (.int .i64 0), (.int .i64 0)]) := by kernel_rfl
@[simp] theorem slots32 : slotSizes Tryz.prog 32 = [0, 0, 0, 0, 0, 0, 0, 0, 0, 0, 0, 0, 0, 0, 0, 0, 0, 0, 0, 0, 0, 0, 0, 0, 0, 0, 0, 0, 0, 0, 0, 0, 0, 0, 0, 0, 0, 0, 0, 0, 0, 0, 0, 0, 0, 0, 0, 0, 0, 0, 0, 0, 0, 0, 0, 0, 0, 0, 0, 0, 0, 0, 0, 0, 0, 0, 0] := by kernel_rfl
noncomputable def F32_0 : Field := (fieldOf Tryz.prog 32 0).getD default
@[simp] theorem fo32_0 : fieldOf Tryz.prog 32 0 = some F32_0 := by kernel_rfl
@[simp] theorem ft32_0 : F32_0.type = 4 := by kernel_rfl
@[simp] theorem fx32_0 : F32_0.offset = 0 := by kernel_rfl
noncomputable def F32_1 : Field := (fieldOf Tryz.prog 32 1).getD default
@[simp] theorem fo32_1 : fieldOf Tryz.prog 32 1 = some F32_1 := by kernel_rfl
@[simp] theorem ft32_1 : F32_1.type = 30 := by kernel_rfl
@[simp] theorem fx32_1 : F32_1.offset = 1 := by kernel_rfl
noncomputable def F32_2 : Field := (fieldOf Tryz.prog 32 2).getD default
@[simp] theorem fo32_2 : fieldOf Tryz.prog 32 2 = some F32_2 := by kernel_rfl
@[simp] theorem ft32_2 : F32_2.type = 3 := by kernel_rfl
@[simp] theorem fx32_2 : F32_2.offset = 65 := by kernel_rfl
noncomputable def F32_3 : Field := (fieldOf Tryz.prog 32 3).getD default
@[simp] theorem fo32_3 : fieldOf Tryz.prog 32 3 = some F32_3 := by kernel_rfl
@[simp] theorem ft32_3 : F32_3.type = 3 := by kernel_rfl
@[simp] theorem fx32_3 : F32_3.offset = 66 := by kernel_rfl
attribute [simp] Tryz.underlying33
@[simp] theorem inf34 : Tryz.prog.info? 34 = some Tryz.t34 := by kernel_rfl
@[simp] theorem tsz34 : Tryz.t34.size = 4 := by kernel_rfl
@[simp] theorem tby34 : Tryz.t34.bytes = 24 := by kernel_rfl
@[simp] theorem agg34 : aggT Tryz.prog 34 = some true := by kernel_rfl
@[simp] theorem slot34 : slotSize Tryz.prog 34 = 0 := by kernel_rfl
attribute [simp] Tryz.underlying34
@[simp] theorem zero34 : zeroV Tryz.prog 34 = some (.agg [(.bool false), (.bool false), (.int .i64 0), (.int .i64 0)]) := by kernel_rfl
@[simp] theorem slots34 : slotSizes Tryz.prog 34 = [0, 0, 0, 0] := by kernel_rfl
noncomputable def F34_0 : Field := (fieldOf Tryz.prog 34 0).getD default
@[simp] theorem fo34_0 : fieldOf Tryz.prog 34 0 = some F34_0 := by kernel_rfl
@[simp] theorem ft34_0 : F34_0.type = 4 := by kernel_rfl
@[simp] theorem fx34_0 : F34_0.offset = 0 := by kernel_rfl
noncomputable def F34_1 : Field := (fieldOf Tryz.prog 34 1).getD default
@[simp] theorem fo34_1 : fieldOf Tryz.prog 34 1 = some F34_1 := by kernel_rfl
@[simp] theorem ft34_1 : F34_1.type = 4 := by kernel_rfl
@[simp] theorem fx34_1 : F34_1.offset = 1 := by kernel_rfl
noncomputable def F34_2 : Field := (fieldOf Tryz.prog 34 2).getD default
@[simp] theorem fo34_2 : fieldOf Tryz.prog 34 2 = some F34_2 := by kernel_rfl
@[simp] theorem ft34_2 : F34_2.type = 3 := by kernel_rfl
@[simp] theorem fx34_2 : F34_2.offset = 2 := by kernel_rfl
noncomputable def F34_3 : Field := (fieldOf Tryz.prog 34 3).getD default
@[simp] theorem fo34_3 : fieldOf Tryz.prog 34 3 = some F34_3 := by kernel_rfl
@[simp] theorem ft34_3 : F34_3.type = 3 := by kernel_rfl
@[simp] theorem fx34_3 : F34_3.offset = 3 := by kernel_rfl
@[simp] theorem inf35 : Tryz.prog.info? 35 = some Tryz.t35 := by kernel_rfl
@[simp] theorem tsz35 : Tryz.t35.size = 1 := by kernel_rfl
@[simp] theorem tby35 : Tryz.t35.bytes = 24 := by kernel_rfl
@[simp] theorem agg35 : aggT Tryz.prog 35 = some false := by kernel_rfl
@[simp] theorem slot35 : slotSize Tryz.prog 35 = 9 := by kernel_rfl
attribute [simp] Tryz.underlying35
@[simp] theorem zero35 : zeroV Tryz.prog 35 = some .nils := by kernel_rfl
@[simp] theorem elem35 : elemT Tryz.prog 35 = some Tryz.t158 := by kernel_rfl
@[simp] theorem inf36 : Tryz.prog.info? 36 = some Tryz.t36 := by kernel_rfl
@[simp] theorem tsz36 : Tryz.t36.size = 1 := by kernel_rfl
@[simp] theorem tby36 : Tryz.t36.bytes = 24 := by kernel_rfl
@[simp] theorem agg36 : aggT Tryz.prog 36 = some false := by kernel_rfl
@[simp] theorem slot36 : slotSize Tryz.prog 36 = 1 := by kernel_rfl
attribute [simp] Tryz.underlying36
@[simp] theorem zero36 : zeroV Tryz.prog 36 = some .nils := by kernel_rfl
@[simp] theorem elem36 : elemT Tryz.prog 36 = some Tryz.t9 := by kernel_rfl
attribute [simp] Tryz.underlying37
@[simp] theorem inf38 : Tryz.prog.info? 38 = some Tryz.t38 := by kernel_rfl
@[simp] theorem tsz38 : Tryz.t38.size = 2 := by kernel_rfl
@[simp] theorem tby38 : Tryz.t38.bytes = 48 := by kernel_rfl
@[simp] theorem agg38 : aggT Tryz.prog 38 = some true := by kernel_rfl
@[simp] theorem slot38 : slotSize Tryz.prog 38 = 0 := by kernel_rfl
attribute [simp] Tryz.underlying38
@[simp] theorem zero38 : zeroV Tryz.prog 38 = some (.agg [.nils, .nils]) := by kernel_rfl
@[simp] theorem slots38 : slotSizes Tryz.prog 38 = [1, 1] := by kernel_rfl
noncomputable def F38_0 : Field := (fieldOf Tryz.prog 38 0).getD default
@[simp] theorem fo38_0 : fieldOf Tryz.prog 38 0 = some F38_0 := by kernel_rfl
@[simp] theorem ft38_0 : F38_0.type = 36 := by kernel_rfl
@[simp] theorem fx38_0 : F38_0.offset = 0 := by kernel_rfl
noncomputable def F38_1 : Field := (fieldOf Tryz.prog 38 1).getD default
@[simp] theorem fo38_1 : fieldOf Tryz.prog 38 1 = some F38_1 := by kernel_rfl
@[simp] theorem ft38_1 : F38_1.type = 26 := by kernel_rfl
@[simp] theorem fx38_1 : F38_1.offset = 1 := by kernel_rfl
attribute [simp] Tryz.underlying39
@[simp] theorem inf40 : Tryz.prog.info? 40 = some Tryz.t40 := by kernel_rfl
@[simp] theorem tsz40 : Tryz.t40.size = 10 := by kernel_rfl
@[simp] theorem tby40 : Tryz.t40.bytes = 96 := by kernel_rfl
@[simp] theorem agg40 : aggT Tryz.prog 40 = some true := by kernel_rfl
@[simp] theorem slot40 : slotSize Tryz.prog 40 = 0 := by kernel_rfl
attribute [simp] Tryz.underlying40
@[simp] theorem zero40 : zeroV Tryz.prog 40 = some (.agg [.nils, .nils, (.bool false), (.bool false), (.bool false), (.int .i64 0), (.int .i64 0), (.int .i64 0), (.int .i64 0), (.int .i64 0)]) := by kernel_rfl
@[simp] theorem slots40 : slotSizes Tryz.prog 40 = [1, 1, 0, 0, 0, 0, 0, 0, 0, 0] := by kernel_rfl
noncomputable def F40_0 : Field := (fieldOf Tryz.prog 40 0).getD default
@[simp] theorem fo40_0 : fieldOf Tryz.prog 40 0 = some F40_0 := by kernel_rfl
@[simp] theorem ft40_0 : F40_0.type = 38 := by kernel_rfl
@[simp] theorem fx40_0 : F40_0.offset = 0 := by kernel_rfl
noncomputable def F40_1 : Field := (fieldOf Tryz.prog 40 1).getD default
@[simp] theorem fo40_1 : fieldOf Tryz.prog 40 1 = some F40_1 := by kernel_rfl
@[simp] theorem ft40_1 : F40_1.type = 4 := by kernel_rfl
@[simp] theorem fx40_1 : F40_1.offset = 2 := by kernel_rfl
noncomputable def F40_2 : Field := (fieldOf Tryz.prog 40 2).getD default
@[simp] theorem fo40_2 : fieldOf Tryz.prog 40 2 = some F40_2 := by kernel_rfl
@[simp] theorem ft40_2 : F40_2.type = 4 := by kernel_rfl
@[simp] theorem fx40_2 : F40_2.offset = 3 := by kernel_rfl
noncomputable def F40_3 : Field := (fieldOf Tryz.prog 40 3).getD default
@[simp] theorem fo40_3 : fieldOf Tryz.prog 40 3 = some F40_3 := by kernel_rfl
@[simp] theorem ft40_3 : F40_3.type = 4 := by kernel_rfl
@[simp] theorem fx40_3 : F40_3.offset = 4 := by kernel_rfl
noncomputable def F40_4 : Field := (fieldOf Tryz.prog 40 4).getD default
@[simp] theorem fo40_4 : fieldOf Tryz.prog 40 4 = some F40_4 := by kernel_rfl
@[simp] theorem ft40_4 : F40_4.type = 3 := by kernel_rfl
@[simp] theorem fx40_4 : F40_4.offset = 5 := by kernel_rfl
noncomputable def F40_5 : Field := (fieldOf Tryz.prog 40 5).getD default
@[simp] theorem fo40_5 : fieldOf Tryz.prog 40 5 = some F40_5 := by kernel_rfl
@[simp] theorem ft40_5 : F40_5.type = 3 := by kernel_rfl
@[simp] theorem fx40_5 : F40_5.offset = 6 := by kernel_rfl
noncomputable def F40_6 : Field := (fieldOf Tryz.prog 40 6).getD default
@[simp] theorem fo40_6 : fieldOf Tryz.prog 40 6 = some F40_6 := by kernel_rfl
@[simp] theorem ft40_6 : F40_6.type = 3 := by kernel_rfl
@[simp] theorem fx40_6 : F40_6.offset = 7 := by kernel_rfl
noncomputable def F40_7 : Field := (fieldOf Tryz.prog 40 7).getD default
@[simp] theorem fo40_7 : fieldOf Tryz.prog 40 7 = some F40_7 := by kernel_rfl
@[simp] theorem ft40_7 : F40_7.type = 3 := by kernel_rfl
@[simp] theorem fx40_7 : F40_7.offset = 8 := by kernel_rfl
noncomputable def F40_8 : Field := (fieldOf Tryz.prog 40 8).getD default
@[simp] theorem fo40_8 : fieldOf Tryz.prog 40 8 = some F40_8 := by kernel_rfl
@[simp] theorem ft40_8 : F40_8.type = 3 := by kernel_rfl
@[simp] theorem fx40_8 : F40_8.offset = 9 := by kernel_rfl
attribute [simp] Tryz.underlying41
@[simp] theorem inf42 : Tryz.prog.info? 42 = some Tryz.t42 := by kernel_rfl
@[simp] theorem tsz42 : Tryz.t42.size = 11 := by kernel_rfl
@[simp] theorem tby42 : Tryz.t42.bytes = 72 := by kernel_rfl
@[simp] theorem agg42 : aggT Tryz.prog 42 = some true := by kernel_rfl
@[simp] theorem slot42 : slotSize Tryz.prog 42 = 0 := by kernel_rfl
attribute [simp] Tryz.underlying42
@[simp] theorem zero42 : zeroV Tryz.prog 42 = some (.agg [.nils, (.int .i64 0), (.bool false), (.bool false), (.bool false), (.bool false), (.bool false), (.int .i64 0), (.int .i64 0), (.int .i64 0), (.int .i64 0)]) := by kernel_rfl
@[simp] theorem slots42 : slotSizes Tryz.prog 42 = [1, 0, 0, 0, 0, 0, 0, 0, 0, 0, 0] := by kernel_rfl
noncomputable def F42_0 : Field := (fieldOf Tryz.prog 42 0).getD default
@[simp] theorem fo42_0 : fieldOf Tryz.prog 42 0 = some F42_0 := by kernel_rfl
@[simp] theorem ft42_0 : F42_0.type = 36 := by kernel_rfl
@[simp] theorem fx42_0 : F42_0.offset = 0 := by kernel_rfl
noncomputable def F42_1 : Field := (fieldOf Tryz.prog 42 1).getD default
@[simp] theorem fo42_1 : fieldOf Tryz.prog 42 1 = some F42_1 := by kernel_rfl
@[simp] theorem ft42_1 : F42_1.type = 3 := by kernel_rfl
@[simp] theorem fx42_1 : F42_1.offset = 1 := by kernel_rfl
noncomputable def F42_2 : Field := (fieldOf Tryz.prog 42 2).getD default
@[simp] theorem fo42_2 : fieldOf Tryz.prog 42 2 = some F42_2 := by kernel_rfl
@[simp] theorem ft42_2 : F42_2.type = 4 := by kernel_rfl
@[simp] theorem fx42_2 : F42_2.offset = 2 := by kernel_rfl
noncomputable def F42_3 : Field := (fieldOf Tryz.prog 42 3).getD default
@[simp] theorem fo42_3 : fieldOf Tryz.prog 42 3 = some F42_3 := by kernel_rfl
@[simp] theorem ft42_3 : F42_3.type = 4 := by kernel_rfl
@[simp] theorem fx42_3 : F42_3.offset = 3 := by kernel_rfl
noncomputable def F42_4 : Field := (fieldOf Tryz.prog 42 4).getD default
@[simp] theorem fo42_4 : fieldOf Tryz.prog 42 4 = some F42_4 := by kernel_rfl
@[simp] theorem ft42_4 : F42_4.type = 4 := by kernel_rfl
@[simp] theorem fx42_4 : F42_4.offset = 4 := by kernel_rfl
noncomputable def F42_5 : Field := (fieldOf Tryz.prog 42 5).getD default
@[simp] theorem fo42_5 : fieldOf Tryz.prog 42 5 = some F42_5 := by kernel_rfl
@[simp] theorem ft42_5 : F42_5.type = 4 := by kernel_rfl
@[simp] theorem fx42_5 : F42_5.offset = 5 := by kernel_rfl
noncomputable def F42_6 : Field := (fieldOf Tryz.prog 42 6).getD default
@[simp] theorem fo42_6 : fieldOf Tryz.prog 42 6 = some F42_6 := by kernel_rfl
@[simp] theorem ft42_6 : F42_6.type = 4 := by kernel_rfl
@[simp] theorem fx42_6 : F42_6.offset = 6 := by kernel_rfl
noncomputable def F42_7 : Field := (fieldOf Tryz.prog 42 7).getD default
@[simp] theorem fo42_7 : fieldOf Tryz.prog 42 7 = some F42_7 := by kernel_rfl
@[simp] theorem ft42_7 : F42_7.type = 3 := by kernel_rfl
@[simp] theorem fx42_7 : F42_7.offset = 7 := by kernel_rfl
noncomputable def F42_8 : Field := (fieldOf Tryz.prog 42 8).getD default
@[simp] theorem fo42_8 : fieldOf Tryz.prog 42 8 = some F42_8 := by kernel_rfl
@[simp] theorem ft42_8 : F42_8.type = 3 := by kernel_rfl
@[simp] theorem fx42_8 : F42_8.offset = 8 := by kernel_rfl
noncomputable def F42_9 : Field := (fieldOf Tryz.prog 42 9).getD default
@[simp] theorem fo42_9 : fieldOf Tryz.prog 42 9 = some F42_9 := by kernel_rfl
@[simp] theorem ft42_9 : F42_9.type = 3 := by kernel_rfl
@[simp] theorem fx42_9 : F42_9.offset = 9 := by kernel_rfl
noncomputable def F42_10 : Field := (fieldOf Tryz.prog 42 10).getD default
@[simp] theorem fo42_10 : fieldOf Tryz.prog 42 10 = some F42_10 := by kernel_rfl
@[simp] theorem ft42_10 : F42_10.type = 3 := by kernel_rfl
@[simp] theorem fx42_10 : F42_10.offset = 10 := by kernel_rfl
attribute [simp] Tryz.underlying43
@[simp] theorem inf44 : Tryz.prog.info? 44 = some Tryz.t44 := by kernel_rfl
@[simp] theorem tsz44 : Tryz.t44.size = 110 := by kernel_rfl
@[simp] theorem tby44 : Tryz.t44.bytes = 912 := by kernel_rfl
@[simp] theorem agg44 : aggT Tryz.prog 44 = some true := by kernel_rfl
@[simp] theorem slot44 : slotSize Tryz.prog 44 = 0 := by kernel_rfl
attribute [simp] Tryz.underlying44
@[simp] theorem zero44 : zeroV Tryz.prog 44 = some (.agg [(.int .i64 0), (.int .i64 0), (.int .i64 0), (.int .i64 0), (.int .i64 0), (.int .i64 0), (.int .i64 0), (.int .i64 0), (.int .i64 0), (.int .i64 0), .nils, .nils, (.bool false), (.int .i64 0), (.int .i64 0), (.int .i64 0), (.bool false), (.int .i64 0), (.int .i64 0), (.int .i64 0), (.bool false), (.int .i64 0), (.int .i64 0), (.int .i64 0), (.bool false), (.int .i64 0), (.int .i64 0), (.int .i64 0), (.bool false), (.int .i64 0), (.int .i64 0), (.int .i64 0), (.bool false), (.int .i64 0), (.int .i64 0), (.int .i64 0), (.bool false), (.int .i64 0), (.int .i64 0), (.int .i64 0), (.bool false), (.int .i64 0), (.int .i64 0), (.int .i64 0), (.bool false), (.int .i64 0), (.int .i64 0), (.int .i64 0), (.bool false), (.int .i64 0), (.int .i64 0), (.int .i64 0), (.bool false), (.int .i64 0), (.int .i64 0), (.int .i64 0), (.bool false), (.int .i64 0), (.int .i64 0), (.int .i64 0), (.bool false), (.int .i64 0), (.int .i64 0), (.int .i64 0), (.bool false), (.int .i64 0), (.int .i64 0), (.int .i64 0), (.bool false), (.int .i64 0), (.int .i64 0), (.int .i64 0), (.bool false), (.int .i64 0), (.int .i64 0), (.int .i64 0), (.bool false), (.int .i64 0), (.int .i64 0), (.bool false), (.bool false), (.int .i64 0), (.int .i64 0), .nils, .nils, .nils, (.bool false), (.bool false), (.bool false), (.int .i64 0), (.int .i64 0), (.int .i64 0), (.int .i64 0), (.int .i64 0), .nils, (.int .i64 0), (.bool false), (.bool false), (.bool false), (.bool false), (.bool false), (.int .i64 0), (.int .i64 0), (.int .i64 0), (.int .i64 0), (.int .i64 0), (.bool false), (.bool false), (.int .i64 0), (.bool false)]) := by kernel_rfl
@[simp] theorem slots44 : slotSizes Tryz.prog 44 = [0, 0, 0, 0, 0, 0, 0, 0, 0, 0, 1, 1, 0, 0, 0, 0, 0, 0, 0, 0, 0, 0, 0, 0, 0, 0, 0, 0, 0, 0, 0, 0, 0, 0, 0, 0, 0, 0, 0, 0, 0, 0, 0, 0, 0, 0, 0, 0, 0, 0, 0, 0, 0, 0, 0, 0, 0, 0, 0, 0, 0, 0, 0, 0, 0, 0, 0, 0, 0, 0, 0, 0, 0, 0, 0, 0, 0, 0, 0, 0, 0, 0, 0, 9, 1, 1, 0, 0, 0, 0, 0, 0, 0, 0, 1, 0, 0, 0, 0, 0, 0, 0, 0, 0, 0, 0, 0, 0, 0, 0] := by kernel_rfl
noncomputable def F44_0 : Field := (fieldOf Tryz.prog 44 0).getD default
@[simp] theorem fo44_0 : fieldOf Tryz.prog 44 0 = some F44_0 := by kernel_rfl
@[simp] theorem ft44_0 : F44_0.type = 25 := by kernel_rfl
@[simp] theorem fx44_0 : F44_0.offset = 0 := by kernel_rfl
noncomputable def F44_1 : Field := (fieldOf Tryz.prog 44 1).getD default
@[simp] theorem fo44_1 : fieldOf Tryz.prog 44 1 = some F44_1 := by kernel_rfl
@[simp] theorem ft44_1 : F44_1.type = 26 := by kernel_rfl
@[simp] theorem fx44_1 : F44_1.offset = 10 := by kernel_rfl
noncomputable def F44_2 : Field := (fieldOf Tryz.prog 44 2).getD default
@[simp] theorem fo44_2 : fieldOf Tryz.prog 44 2 = some F44_2 := by kernel_rfl
@[simp] theorem ft44_2 : F44_2.type = 26 := by kernel_rfl
@[simp] theorem fx44_2 : F44_2.offset = 11 := by kernel_rfl
noncomputable def F44_3 : Field := (fieldOf Tryz.prog 44 3).getD default
@[simp] theorem fo44_3 : fieldOf Tryz.prog 44 3 = some F44_3 := by kernel_rfl
@[simp] theorem ft44_3 : F44_3.type = 32 := by kernel_rfl
@[simp] theorem fx44_3 : F44_3.offset = 12 := by kernel_rfl
noncomputable def F44_4 : Field := (fieldOf Tryz.prog 44 4).getD default
@[simp] theorem fo44_4 : fieldOf Tryz.prog 44 4 = some F44_4 := by kernel_rfl
@[simp] theorem ft44_4 : F44_4.type = 34 := by kernel_rfl
@[simp] theorem fx44_4 : F44_4.offset = 79 := by kernel_rfl
noncomputable def F44_5 : Field := (fieldOf Tryz.prog 44 5).getD default
@[simp] theorem fo44_5 : fieldOf Tryz.prog 44 5 = some F44_5 := by kernel_rfl
@[simp] theorem ft44_5 : F44_5.type = 35 := by kernel_rfl
@[simp] theorem fx44_5 : F44_5.offset = 83 := by kernel_rfl
noncomputable def F44_6 : Field := (fieldOf Tryz.prog 44 6).getD default
@[simp] theorem fo44_6 : fieldOf Tryz.prog 44 6 = some F44_6 := by kernel_rfl
@[simp] theorem ft44_6 : F44_6.type = 40 := by kernel_rfl
@[simp] theorem fx44_6 : F44_6.offset = 84 := by kernel_rfl
noncomputable def F44_7 : Field := (fieldOf Tryz.prog 44 7).getD default
@[simp] theorem fo44_7 : fieldOf Tryz.prog 44 7 = some F44_7 := by kernel_rfl
@[simp] theorem ft44_7 : F44_7.type = 42 := by kernel_rfl
@[simp] theorem fx44_7 : F44_7.offset = 94 := by kernel_rfl
noncomputable def F44_8 : Field := (fieldOf Tryz.prog 44 8).getD default
@[simp] theorem fo44_8 : fieldOf Tryz.prog 44 8 = some F44_8 := by kernel_rfl
@[simp] theorem ft44_8 : F44_8.type = 3 := by kernel_rfl
@[simp] theorem fx44_8 : F44_8.offset = 105 := by kernel_rfl
noncomputable def F44_9 : Field := (fieldOf Tryz.prog 44 9).getD default
@[simp] theorem fo44_9 : fieldOf Tryz.prog 44 9 = some F44_9 := by kernel_rfl
@[simp] theorem ft44_9 : F44_9.type = 4 := by kernel_rfl
@[simp] theorem fx44_9 : F44_9.offset = 106 := by kernel_rfl
noncomputable def F44_10 : Field := (fieldOf Tryz.prog 44 10).getD default
@[simp] theorem fo44_10 : fieldOf Tryz.prog 44 10 = some F44_10 := by kernel_rfl
@[simp] theorem ft44_10 : F44_10.type = 4 := by kernel_rfl
@[simp] theorem fx44_10 : F44_10.offset = 107 := by kernel_rfl
noncomputable def F44_11 : Field := (fieldOf Tryz.prog 44 11).getD default
@[simp] theorem fo44_11 : fieldOf Tryz.prog 44 11 = some F44_11 := by kernel_rfl
@[simp] theorem ft44_11 : F44_11.type = 3 := by kernel_rfl
@[simp] theorem fx44_11 : F44_11.offset = 108 := by kernel_rfl
noncomputable def F44_12 : Field := (fieldOf Tryz.prog 44 12).getD default
@[simp] theorem fo44_12 : fieldOf Tryz.prog 44 12 = some F44_12 := by kernel_rfl
@[simp] theorem ft44_12 : F44_12.type = 4 := by kernel_rfl
@[simp] theorem fx44_12 : F44_12.offset = 109 := by kernel_rfl
@[simp] theorem inf45 : Tryz.prog.info? 45 = some Tryz.t45 := by kernel_rfl
@[simp] theorem tsz45 : Tryz.t45.size = 8 := by kernel_rfl
@[simp] theorem tby45 : Tryz.t45.bytes = 64 := by kernel_rfl
@[simp] theorem agg45 : aggT Tryz.prog 45 = some true := by kernel_rfl
@[simp] theorem slot45 : slotSize Tryz.prog 45 = 0 := by kernel_rfl
attribute [simp] Tryz.underlying45
@[simp] theorem zero45 : zeroV Tryz.prog 45 = some (.agg [(.int .i64 0), (.int .i64 0), (.int .i64 0), (.int .i64 0), (.int .i64 0), (.int .i64 0), (.int .i64 0), (.int .i64 0)]) := by kernel_rfl
attribute [simp] Tryz.underlying46
@[simp] theorem inf47 : Tryz.prog.info? 47 = some Tryz.t47 := by kernel_rfl
@[simp] theorem tsz47 : Tryz.t47.size = 29 := by kernel_rfl
@[simp] theorem tby47 : Tryz.t47.bytes = 232 := by kernel_rfl
@[simp] theorem agg47 : aggT Tryz.prog 47 = some true := by kernel_rfl
@[simp] theorem slot47 : slotSize Tryz.prog 47 = 0 := by kernel_rfl
attribute [simp] Tryz.underlying47
@[simp] theorem zero47 : zeroV Tryz.prog 47 = some (.agg [(.int .i64 0), (.int .i64 0), (.int .i64 0), (.int .i64 0), (.int .i64 0), (.int .i64 0), (.int .i64 0), (.int .i64 0), (.int .i64 0), (.int .i64 0), (.int .i64 0), (.int .i64 0), (.int .i64 0), (.int .i64 0), (.int .i64 0), (.bool false), (.int .i64 0), (.int .i64 0), (.int .i64 0), (.int .i64 0), (.int .i64 0), (.int .i64 0), (.int .i64 0), (.int .i64 0), (.int .i64 0), (.int .i64 0), (.int .i64 0), (.int .i64 0), (.int .i64 0)]) := by kernel_rfl
@[simp] theorem slots47 : slotSizes Tryz.prog 47 = [0, 0, 0, 0, 0, 0, 0, 0, 0, 0, 0, 0, 0, 0, 0, 0, 0, 0, 0, 0, 0, 0, 0, 0, 0, 0, 0, 0, 0] := by kernel_rfl
noncomputable def F47_0 : Field := (fieldOf Tryz.prog 47 0).getD default
@[simp] theorem fo47_0 : fieldOf Tryz.prog 47 0 = some F47_0 := by kernel_rfl
@[simp] theorem ft47_0 : F47_0.type = 3 := by kernel_rfl
@[simp] theorem fx47_0 : F47_0.offset = 0 := by kernel_rfl
noncomputable def F47_1 : Field := (fieldOf Tryz.prog 47 1).getD default
@[simp] theorem fo47_1 : fieldOf Tryz.prog 47 1 = some F47_1 := by kernel_rfl
@[simp] theorem ft47_1 : F47_1.type = 3 := by kernel_rfl
@[simp] theorem fx47_1 : F47_1.offset = 1 := by kernel_rfl
noncomputable def F47_2 : Field := (fieldOf Tryz.prog 47 2).getD default
@[simp] theorem fo47_2 : fieldOf Tryz.prog 47 2 = some F47_2 := by kernel_rfl
@[simp] theorem ft47_2 : F47_2.type = 3 := by kernel_rfl
@[simp] theorem fx47_2 : F47_2.offset = 2 := by kernel_rfl
noncomputable def F47_3 : Field := (fieldOf Tryz.prog 47 3).getD default
@[simp] theorem fo47_3 : fieldOf Tryz.prog 47 3 = some F47_3 := by kernel_rfl
@[simp] theorem ft47_3 : F47_3.type = 25 := by kernel_rfl
@[simp] theorem fx47_3 : F47_3.offset = 3 := by kernel_rfl
noncomputable def F47_4 : Field := (fieldOf Tryz.prog 47 4).getD default
@[simp] theorem fo47_4 : fieldOf Tryz.prog 47 4 = some F47_4 := by kernel_rfl
@[simp] theorem ft47_4 : F47_4.type = 3 := by kernel_rfl
@[simp] theorem fx47_4 : F47_4.offset = 13 := by kernel_rfl
noncomputable def F47_5 : Field := (fieldOf Tryz.prog 47 5).getD default
@[simp] theorem fo47_5 : fieldOf Tryz.prog 47 5 = some F47_5 := by kernel_rfl
@[simp] theorem ft47_5 : F47_5.type = 3 := by kernel_rfl
@[simp] theorem fx47_5 : F47_5.offset = 14 := by kernel_rfl
noncomputable def F47_6 : Field := (fieldOf Tryz.prog 47 6).getD default
@[simp] theorem fo47_6 : fieldOf Tryz.prog 47 6 = some F47_6 := by kernel_rfl
@[simp] theorem ft47_6 : F47_6.type = 4 := by kernel_rfl
@[simp] theorem fx47_6 : F47_6.offset = 15 := by kernel_rfl
noncomputable def F47_7 : Field := (fieldOf Tryz.prog 47 7).getD default
@[simp] theorem fo47_7 : fieldOf Tryz.prog 47 7 = some F47_7 := by kernel_rfl
@[simp] theorem ft47_7 : F47_7.type = 45 := by kernel_rfl
@[simp] theorem fx47_7 : F47_7.offset = 16 := by kernel_rfl
noncomputable def F47_8 : Field := (fieldOf Tryz.prog 47 8).getD default
@[simp] theorem fo47_8 : fieldOf Tryz.prog 47 8 = some F47_8 := by kernel_rfl
@[simp] theorem ft47_8 : F47_8.type = 3 := by kernel_rfl
@[simp] theorem fx47_8 : F47_8.offset = 24 := by kernel_rfl
noncomputable def F47_9 : Field := (fieldOf Tryz.prog 47 9).getD default
@[simp] theorem fo47_9 : fieldOf Tryz.prog 47 9 = some F47_9 := by kernel_rfl
@[simp] theorem ft47_9 : F47_9.type = 3 := by kernel_rfl
@[simp] theorem fx47_9 : F47_9.offset = 25 := by kernel_rfl
noncomputable def F47_10 : Field := (fieldOf Tryz.prog 47 10).getD default
@[simp] theorem fo47_10 : fieldOf Tryz.prog 47 10 = some F47_10 := by kernel_rfl
@[simp] theorem ft47_10 : F47_10.type = 3 := by kernel_rfl
@[simp] theorem fx47_10 : F47_10.offset = 26 := by kernel_rfl
noncomputable def F47_11 : Field := (fieldOf Tryz.prog 47 11).getD default
@[simp] theorem fo47_11 : fieldOf Tryz.prog 47 11 = some F47_11 := by kernel_rfl
@[simp] theorem ft47_11 : F47_11.type = 3 := by kernel_rfl
@[simp] theorem fx47_11 : F47_11.offset = 27 := by kernel_rfl
noncomputable def F47_12 : Field := (fieldOf Tryz.prog 47 12).getD default
@[simp] theorem fo47_12 : fieldOf Tryz.prog 47 12 = some F47_12 := by kernel_rfl
@[simp] theorem ft47_12 : F47_12.type = 3 := by kernel_rfl
@[simp] theorem fx47_12 : F47_12.offset = 28 := by kernel_rfl
@[simp] theorem inf48 : Tryz.prog.info? 48 = some Tryz.t48 := by kernel_rfl
@[simp] theorem tsz48 : Tryz.t48.size = 232 := by kernel_rfl
@[simp] theorem tby48 : Tryz.t48.bytes = 1856 := by kernel_rfl
@[simp] theorem agg48 : aggT Tryz.prog 48 = some true := by kernel_rfl
@[simp] theorem slot48 : slotSize Tryz.prog 48 = 0 := by kernel_rfl
attribute [simp] Tryz.underlying48
@[simp] theorem zero48 : zeroV Tryz.prog 48 = some (.agg [(.int .i64 0), (.int .i64 0), (.int .i64 0), (.int .i64 0), (.int .i64 0), (.int .i64 0), (.int .i64 0), (.int .i64 0), (.int .i64 0), (.int .i64 0), (.int .i64 0), (.int .i64 0), (.int .i64 0), (.int .i64 0), (.int .i64 0), (.bool false), (.int .i64 0), (.int .i64 0), (.int .i64 0), (.int .i64 0), (.int .i64 0), (.int .i64 0), (.int .i64 0), (.int .i64 0), (.int .i64 0), (.int .i64 0), (.int .i64 0), (.int .i64 0), (.int .i64 0), (.int .i64 0), (.int .i64 0), (.int .i64 0), (.int .i64 0), (.int .i64 0), (.int .i64 0), (.int .i64 0), (.int .i64 0), (.int .i64 0), (.int .i64 0), (.int .i64 0), (.int .i64 0), (.int .i64 0), (.int .i64 0), (.int .i64 0), (.bool false), (.int .i64 0), (.int .i64 0), (.int .i64 0), (.int .i64 0), (.int .i64 0), (.int .i64 0), (.int .i64 0), (.int .i64 0), (.int .i64 0), (.int .i64 0), (.int .i64 0), (.int .i64 0), (.int .i64 0), (.int .i64 0), (.int .i64 0), (.int .i64 0), (.int .i64 0), (.int .i64 0), (.int .i64 0), (.int .i64 0), (.int .i64 0), (.int .i64 0), (.int .i64 0), (.int .i64 0), (.int .i64 0), (.int .i64 0), (.int .i64 0), (.int .i64 0), (.bool false), (.int .i64 0), (.int .i64 0), (.int .i64 0), (.int .i64 0), (.int .i64 0), (.int .i64 0), (.int .i64 0), (.int .i64 0), (.int .i64 0), (.int .i64 0), (.int .i64 0), (.int .i64 0), (.int .i64 0), (.int .i64 0), (.int .i64 0), (.int .i64 0), (.int .i64 0), (.int .i64 0), (.int .i64 0), (.int .i64 0), (.int .i64 0), (.int .i64 0), (.int .i64 0), (.int .i64 0), (.int .i64 0), (.int .i64 0), (.int .i64 0), (.int .i64 0), (.bool false), (.int .i64 0), (.int .i64 0), (.int .i64 0), (.int .i64 0), (.int .i64 0), (.int .i64 0), (.int .i64 0), (.int .i64 0), (.int .i64 0), (.int .i64 0), (.int .i64 0), (.int .i64 0), (.int .i64 0), (.int .i64 0), (.int .i64 0), (.int .i64 0), (.int .i64 0), (.int .i64 0), (.int .i64 0), (.int .i64 0), (.int .i64 0), (.int .i64 0), (.int .i64 0), (.int .i64 0), (.int .i64 0), (.int .i64 0), (.int .i64 0), (.int .i64 0), (.bool false), (.int .i64 0), (.int .i64 0), (.int .i64 0), (.int .i64 0), (.int .i64 0), (.int .i64 0), (.int .i64 0), (.int .i64 0), (.int .i64 0), (.int .i64 0), (.int .i64 0), (.int .i64 0), (.int .i64 0), (.int .i64 0), (.int .i64 0), (.int .i64 0), (.int .i64 0), (.int .i64 0), (.int .i64 0), (.int .i64 0), (.int .i64 0), (.int .i64 0), (.int .i64 0), (.int .i64 0), (.int .i64 0), (.int .i64 0), (.int .i64 0), (.int .i64 0), (.bool false), (.int .i64 0), (.int .i64 0), (.int .i64 0), (.int .i64 0), (.int .i64 0), (.int .i64 0), (.int .i64 0), (.int .i64 0), (.int .i64 0), (.int .i64 0), (.int .i64 0), (.int .i64 0), (.int .i64 0), (.int .i64 0), (.int .i64 0), (.int .i64 0), (.int .i64 0), (.int .i64 0), (.int .i64 0), (.int .i64 0), (.int .i64 0), (.int .i64 0), (.int .i64 0), (.int .i64 0), (.int .i64 0), (.int .i64 0), (.int .i64 0), (.int .i64 0), (.bool false), (.int .i64 0), (.int .i64 0), (.int .i64 0), (.int .i64 0), (.int .i64 0), (.int .i64 0), (.int .i64 0), (.int .i64 0), (.int .i64 0), (.int .i64 0), (.int .i64 0), (.int .i64 0), (.int .i64 0), (.int .i64 0), (.int .i64 0), (.int .i64 0), (.int .i64 0), (.int .i64 0), (.int .i64 0), (.int .i64 0), (.int .i64 0), (.int .i64 0), (.int .i64 0), (.int .i64 0), (.int .i64 0), (.int .i64 0), (.int .i64 0), (.int .i64 0), (.bool false), (.int .i64 0), (.int .i64 0), (.int .i64 0), (.int .i64 0), (.int .i64 0), (.int .i64 0), (.int .i64 0), (.int .i64 0), (.int .i64 0), (.int .i64 0), (.int .i64 0), (.int .i64 0), (.int .i64 0)]) := by kernel_rfl
attribute [simp] Tryz.underlying49
@[simp] theorem inf50 : Tryz.prog.info? 50 = some Tryz.t50 := by kernel_rfl
@[simp] theorem tsz50 : Tryz.t50.size = 6 := by kernel_rfl
@[simp] theorem tby50 : Tryz.t50.bytes = 40 := by kernel_rfl
@[simp] theorem agg50 : aggT Tryz.prog 50 = some true := by kernel_rfl
@[simp] theorem slot50 : slotSize Tryz.prog 50 = 0 := by kernel_rfl
attribute [simp] Tryz.underlying50
@[simp] theorem zero50 : zeroV Tryz.prog 50 = some (.agg [(.int .i64 0), (.int .i64 0), (.bool false), (.bool false), (.int .i64 0), (.int .i64 0)]) := by kernel_rfl
@[simp] theorem slots50 : slotSizes Tryz.prog 50 = [0, 0, 0, 0, 0, 0] := by kernel_rfl
noncomputable def F50_0 : Field := (fieldOf Tryz.prog 50 0).getD default
@[simp] theorem fo50_0 : fieldOf Tryz.prog 50 0 = some F50_0 := by kernel_rfl
@[simp] theorem ft50_0 : F50_0.type = 3 := by kernel_rfl
@[simp] theorem fx50_0 : F50_0.offset = 0 := by kernel_rfl
noncomputable def F50_1 : Field := (fieldOf Tryz.prog 50 1).getD default
@[simp] theorem fo50_1 : fieldOf Tryz.prog 50 1 = some F50_1 := by kernel_rfl
@[simp] theorem ft50_1 : F50_1.type = 3 := by kernel_rfl
@[simp] theorem fx50_1 : F50_1.offset = 1 := by kernel_rfl
noncomputable def F50_2 : Field := (fieldOf Tryz.prog 50 2).getD default
@[simp] theorem fo50_2 : fieldOf Tryz.prog 50 2 = some F50_2 := by kernel_rfl
@[simp] theorem ft50_2 : F50_2.type = 4 := by kernel_rfl
@[simp] theorem fx50_2 : F50_2.offset = 2 := by kernel_rfl
noncomputable def F50_3 : Field := (fieldOf Tryz.prog 50 3).getD default
@[simp] theorem fo50_3 : fieldOf Tryz.prog 50 3 = some F50_3 := by kernel_rfl
@[simp] theorem ft50_3 : F50_3.type = 4 := by kernel_rfl
@[simp] theorem fx50_3 : F50_3.offset = 3 := by kernel_rfl
noncomputable def F50_4 : Field := (fieldOf Tryz.prog 50 4).getD default
@[simp] theorem fo50_4 : fieldOf Tryz.prog 50 4 = some F50_4 := by kernel_rfl
@[simp] theorem ft50_4 : F50_4.type = 3 := by kernel_rfl
@[simp] theorem fx50_4 : F50_4.offset = 4 := by kernel_rfl
noncomputable def F50_5 : Field := (fieldOf Tryz.prog 50 5).getD default
@[simp] theorem fo50_5 : fieldOf Tryz.prog 50 5 = some F50_5 := by kernel_rfl
@[simp] theorem ft50_5 : F50_5.type = 3 := by kernel_rfl
@[simp] theorem fx50_5 : F50_5.offset = 5 := by kernel_rfl
@[simp] theorem inf51 : Tryz.prog.info? 51 = some Tryz.t51 := by kernel_rfl
@[simp] theorem tsz51 : Tryz.t51.size = 144 := by kernel_rfl
@[simp] theorem tby51 : Tryz.t51.bytes = 960 := by kernel_rfl
@[simp] theorem agg51 : aggT Tryz.prog 51 = some true := by kernel_rfl
@[simp] theorem slot51 : slotSize Tryz.prog 51 = 0 := by kernel_rfl
attribute [simp] Tryz.underlying51
@[simp] theorem zero51 : zeroV Tryz.prog 51 = some (.agg [(.int .i64 0), (.int .i64 0), (.bool false), (.bool false), (.int .i64 0), (.int .i64 0), (.int .i64 0), (.int .i64 0), (.bool false), (.bool false), (.int .i64 0), (.int .i64 0), (.int .i64 0), (.int .i64 0), (.bool false), (.bool false), (.int .i64 0), (.int .i64 0), (.int .i64 0), (.int .i64 0), (.bool false), (.bool false), (.int .i64 0), (.int .i64 0), (.int .i64 0), (.int .i64 0), (.bool false), (.bool false), (.int .i64 0), (.int .i64 0), (.int .i64 0), (.int .i64 0), (.bool false), (.bool false), (.int .i64 0), (.int .i64 0), (.int .i64 0), (.int .i64 0), (.bool false), (.bool false), (.int .i64 0), (.int .i64 0), (.int .i64 0), (.int .i64 0), (.bool false), (.bool false), (.int .i64 0), (.int .i64 0), (.int .i64 0), (.int .i64 0), (.bool false), (.bool false), (.int .i64 0), (.int .i64 0), (.int .i64 0), (.int .i64 0), (.bool false), (.bool false), (.int .i64 0), (.int .i64 0), (.int .i64 0), (.int .i64 0), (.bool false), (.bool false), (.int .i64 0), (.int .i64 0), (.int .i64 0), (.int .i64 0), (.bool false), (.bool false), (.int .i64 0), (.int .i64 0), (.int .i64 0), (.int .i64 0), (.bool false), (.bool false), (.int .i64 0), (.int .i64 0), (.int .i64 0), (.int .i64 0), (.bool false), (.bool false), (.int .i64 0), (.int .i64 0), (.int .i64 0), (.int .i64 0), (.bool false), (.bool false), (.int .i64 0), (.int .i64 0), (.int .i64 0), (.int .i64 0), (.bool false), (.bool false), (.int .i64 0), (.int .i64 0), (.int .i64 0), (.int .i64 0), (.bool false), (.bool false), (.int .i64 0), (.int .i64 0), (.int .i64 0), (.int .i64 0), (.bool false), (.bool false), (.int .i64 0), (.int .i64 0), (.int .i64 0), (.int .i64 0), (.bool false), (.bool false), (.int .i64 0), (.int .i64 0), (.int .i64 0), (.int .i64 0), (.bool false), (.bool false), (.int .i64 0), (.int .i64 0), (.int .i64 0), (.int .i64 0), (.bool false), (.bool false), (.int .i64 0), (.int .i64 0), (.int .i64 0), (.int .i64 0), (.bool false), (.bool false), (.int .i64 0), (.int .i64 0), (.int .i64 0), (.int .i64 0), (.bool false), (.bool false), (.int .i64 0), (.int .i64 0), (.int .i64 0), (.int .i64 0), (.bool false), (.bool false), (.int .i64 0), (.int .i64 0)]) := by kernel_rfl
attribute [simp] Tryz.underlying52
@[simp] theorem inf53 : Tryz.prog.info? 53 = some Tryz.t53 := by kernel_rfl
@[simp] theorem tsz53 : Tryz.t53.size = 3 := by kernel_rfl
@[simp] theorem tby53 : Tryz.t53.bytes = 32 := by kernel_rfl
@[simp] theorem agg53 : aggT Tryz.prog 53 = some true := by kernel_rfl
@[simp] theorem slot53 : slotSize Tryz.prog 53 = 0 := by kernel_rfl
attribute [simp] Tryz.underlying53
@[simp] theorem zero53 : zeroV Tryz.prog 53 = some (.agg [(.str []), (.int .i64 0), (.int .i64 0)]) := by kernel_rfl
@[simp] theorem slots53 : slotSizes Tryz.prog 53 = [0, 0, 0] := by kernel_rfl
noncomputable def F53_0 : Field := (fieldOf Tryz.prog 53 0).getD default
@[simp] theorem fo53_0 : fieldOf Tryz.prog 53 0 = some F53_0 := by kernel_rfl
@[simp] theorem ft53_0 : F53_0.type = 9 := by kernel_rfl
@[simp] theorem fx53_0 : F53_0.offset = 0 := by kernel_rfl
noncomputable def F53_1 : Field := (fieldOf Tryz.prog 53 1).getD default
@[simp] theorem fo53_1 : fieldOf Tryz.prog 53 1 = some F53_1 := by kernel_rfl
@[simp] theorem ft53_1 : F53_1.type = 3 := by kernel_rfl
@[simp] theorem fx53_1 : F53_1.offset = 1 := by kernel_rfl
noncomputable def F53_2 : Field := (fieldOf Tryz.prog 53 2).getD default
@[simp] theorem fo53_2 : fieldOf Tryz.prog 53 2 = some F53_2 := by kernel_rfl
@[simp] theorem ft53_2 : F53_2.type = 3 := by kernel_rfl
@[simp] theorem fx53_2 : F53_2.offset = 2 := by kernel_rfl
@[simp] theorem inf54 : Tryz.prog.info? 54 = some Tryz.t54 := by kernel_rfl
@[simp] theorem tsz54 : Tryz.t54.size = 24 := by kernel_rfl
@[simp] theorem tby54 : Tryz.t54.bytes = 256 := by kernel_rfl
@[simp] theorem agg54 : aggT Tryz.prog 54 = some true := by kernel_rfl
@[simp] theorem slot54 : slotSize Tryz.prog 54 = 0 := by kernel_rfl
attribute [simp] Tryz.underlying54
@[simp] theorem zero54 : zeroV Tryz.prog 54 = some (.agg [(.str []), (.int .i64 0), (.int .i64 0), (.str []), (.int .i64 0), (.int .i64 0), (.str []), (.int .i64 0), (.int .i64 0), (.str []), (.int .i64 0), (.int .i64 0), (.str []), (.int .i64 0), (.int .i64 0), (.str []), (.int .i64 0), (.int .i64 0), (.str []), (.int .i64 0), (.int .i64 0), (.str []), (.int .i64 0), (.int .i64 0)]) := by kernel_rfl
@[simp] theorem inf55 : Tryz.prog.info? 55 = some Tryz.t55 := by kernel_rfl
@[simp] theorem tsz55 : Tryz.t55.size = 1 := by kernel_rfl
@[simp] theorem tby55 : Tryz.t55.bytes = 24 := by kernel_rfl
@[simp] theorem agg55 : aggT Tryz.prog 55 = some false := by kernel_rfl
@[simp] theorem slot55 : slotSize Tryz.prog 55 = 4 := by kernel_rfl
attribute [simp] Tryz.underlying55
@[simp] theorem zero55 : zeroV Tryz.prog 55 = some .nils := by kernel_rfl
@[simp] theorem elem55 : elemT Tryz.prog 55 = some Tryz.t183 := by kernel_rfl
attribute [simp] Tryz.underlying56
@[simp] theorem inf57 : Tryz.prog.info? 57 = some Tryz.t57 := by kernel_rfl
@[simp] theorem tsz57 : Tryz.t57.size = 2 := by kernel_rfl
@[simp] theorem tby57 : Tryz.t57.bytes = 16 := by kernel_rfl
@[simp] theorem agg57 : aggT Tryz.prog 57 = some true := by kernel_rfl
@[simp] theorem slot57 : slotSize Tryz.prog 57 = 0 := by kernel_rfl
attribute [simp] Tryz.underlying57
@[simp] theorem zero57 : zeroV Tryz.prog 57 = some (.agg [(.int .i64 0), (.int .i64 0)]) := by kernel_rfl
@[simp] theorem slots57 : slotSizes Tryz.prog 57 = [0, 0] := by kernel_rfl
noncomputable def F57_0 : Field := (fieldOf Tryz.prog 57 0).getD default
@[simp] theorem fo57_0 : fieldOf Tryz.prog 57 0 = some F57_0 := by kernel_rfl
@[simp] theorem ft57_0 : F57_0.type = 3 := by kernel_rfl
@[simp] theorem fx57_0 : F57_0.offset = 0 := by kernel_rfl
noncomputable def F57_1 : Field := (fieldOf Tryz.prog 57 1).getD default
@[simp] theorem fo57_1 : fieldOf Tryz.prog 57 1 = some F57_1 := by kernel_rfl
@[simp] theorem ft57_1 : F57_1.type = 3 := by kernel_rfl
@[simp] theorem fx57_1 : F57_1.offset = 1 := by kernel_rfl
attribute [simp] Tryz.underlying58
@[simp] theorem inf59 : Tryz.prog.info? 59 = some Tryz.t59 := by kernel_rfl
@[simp] theorem tsz59 : Tryz.t59.size = 518 := by kernel_rfl
@[simp] theorem tby59 : Tryz.t59.bytes = 4064 := by kernel_rfl
@[simp] theorem agg59 : aggT Tryz.prog 59 = some true := by kernel_rfl
@[simp] theorem slot59 : slotSize Tryz.prog 59 = 0 := by kernel_rfl
attribute [simp] Tryz.underlying59
@[simp] theorem zero59 : zeroV Tryz.prog 59 = some (.agg [(.int .i64 0), (.int .i64 0), (.int .i64 0), (.int .i64 0), (.int .i64 0), (.int .i64 0), (.int .i64 0), (.int .i64 0), (.int .i64 0), (.int .i64 0), .nils, .nils, (.bool false), (.int .i64 0), (.int .i64 0), (.int .i64 0), (.bool false), (.int .i64 0), (.int .i64 0), (.int .i64 0), (.bool false), (.int .i64 0), (.int .i64 0), (.int .i64 0), (.bool false), (.int .i64 0), (.int .i64 0), (.int .i64 0), (.bool false), (.int .i64 0), (.int .i64 0), (.int .i64 0), (.bool false), (.int .i64 0), (.int .i64 0), (.int .i64 0), (.bool false), (.int .i64 0), (.int .i64 0), (.int .i64 0), (.bool false), (.int .i64 0), (.int .i64 0), (.int .i64 0), (.bool false), (.int .i64 0), (.int .i64 0), (.int .i64 0), (.bool false), (.int .i64 0), (.int .i64 0), (.int .i64 0), (.bool false), (.int .i64 0), (.int .i64 0), (.int .i64 0), (.bool false), (.int .i64 0), (.int .i64 0), (.int .i64 0), (.bool false), (.int .i64 0), (.int .i64 0), (.int .i64 0), (.bool false), (.int .i64 0), (.int .i64 0), (.int .i64 0), (.bool false), (.int .i64 0), (.int .i64 0), (.int .i64 0), (.bool false), (.int .i64 0), (.int .i64 0), (.int .i64 0), (.bool false), (.int .i64 0), (.int .i64 0), (.bool false), (.bool false), (.int .i64 0), (.int .i64 0), .nils, .nils, .nils, (.bool false), (.bool false), (.bool false), (.int .i64 0), (.int .i64 0), (.int .i64 0), (.int .i64 0), (.int .i64 0), .nils, (.int .i64 0), (.bool false), (.bool false), (.bool false), (.bool false), (.bool false), (.int .i64 0), (.int .i64 0), (.int .i64 0), (.int .i64 0), (.int .i64 0), (.bool false), (.bool false), (.int .i64 0), (.bool false), (.int .i64 0), (.int .i64 0), (.int .i64 0), (.int .i64 0), (.int .i64 0), (.int .i64 0), (.int .i64 0), (.int .i64 0), (.int .i64 0), (.int .i64 0), (.int .i64 0), (.int .i64 0), (.int .i64 0), (.int .i64 0), (.int .i64 0), (.bool false), (.int .i64 0), (.int .i64 0), (.int .i64 0), (.int .i64 0), (.int .i64 0), (.int .i64 0), (.int .i64 0), (.int .i64 0), (.int .i64 0), (.int .i64 0), (.int .i64 0), (.int .i64 0), (.int .i64 0), (.int .i64 0), (.int .i64 0), (.int .i64 0), (.int .i64 0), (.int .i64 0), (.int .i64 0), (.int .i64 0), (.int .i64 0), (.int .i64 0), (.int .i64 0), (.int .i64 0), (.int .i64 0), (.int .i64 0), (.int .i64 0), (.int .i64 0), (.bool false), (.int .i64 0), (.int .i64 0), (.int .i64 0), (.int .i64 0), (.int .i64 0), (.int .i64 0), (.int .i64 0), (.int .i64 0), (.int .i64 0), (.int .i64 0), (.int .i64 0), (.int .i64 0), (.int .i64 0), (.int .i64 0), (.int .i64 0), (.int .i64 0), (.int .i64 0), (.int .i64 0), (.int .i64 0), (.int .i64 0), (.int .i64 0), (.int .i64 0), (.int .i64 0), (.int .i64 0), (.int .i64 0), (.int .i64 0), (.int .i64 0), (.int .i64 0), (.bool false), (.int .i64 0), (.int .i64 0), (.int .i64 0), (.int .i64 0), (.int .i64 0), (.int .i64 0), (.int .i64 0), (.int .i64 0), (.int .i64 0), (.int .i64 0), (.int .i64 0), (.int .i64 0), (.int .i64 0), (.int .i64 0), (.int .i64 0), (.int .i64 0), (.int .i64 0), (.int .i64 0), (.int .i64 0), (.int .i64 0), (.int .i64 0), (.int .i64 0), (.int .i64 0), (.int .i64 0), (.int .i64 0), (.int .i64 0), (.int .i64 0), (.int .i64 0), (.bool false), (.int .i64 0), (.int .i64 0), (.int .i64 0), (.int .i64 0), (.int .i64 0), (.int .i64 0), (.int .i64 0), (.int .i64 0), (.int .i64 0), (.int .i64 0), (.int .i64 0), (.int .i64 0), (.int .i64 0), (.int .i64 0), (.int .i64 0), (.int .i64 0), (.int .i64 0), (.int .i64 0), (.int .i64 0), (.int .i64 0), (.int .i64 0), (.int .i64 0), (.int .i64 0), (.int .i64 0), (.int .i64 0), (.int .i64 0), (.int .i64 0), (.int .i64 0), (.bool false), (.int .i64 0), (.int .i64 0), (.int .i64 0), (.int .i64 0), (.int .i64 0), (.int .i64 0), (.int .i64 0), (.int .i64 0), (.int .i64 0), (.int .i64 0), (.int .i64 0), (.int .i64 0), (.int .i64 0), (.int .i64 0), (.int .i64 0), (.int .i64 0), (.int .i64 0), (.int .i64 0), (.int .i64 0), (.int .i64 0), (.int .i64 0), (.int .i64 0), (.int .i64 0), (.int .i64 0), (.int .i64 0), (.int .i64 0), (.int .i64 0), (.int .i64 0), (.bool false), (.int .i64 0), (.int .i64 0), (.int .i64 0), (.int .i64 0), (.int .i64 0), (.int .i64 0), (.int .i64 0), (.int .i64 0), (.int .i64 0), (.int .i64 0), (.int .i64 0), (.int .i64 0), (.int .i64 0), (.int .i64 0), (.int .i64 0), (.int .i64 0), (.int .i64 0), (.int .i64 0), (.int .i64 0), (.int .i64 0), (.int .i64 0), (.int .i64 0), (.int .i64 0), (.int .i64 0), (.int .i64 0), (.int .i64 0), (.int .i64 0), (.int .i64 0), (.bool false), (.int .i64 0), (.int .i64 0), (.int .i64 0), (.int .i64 0), (.int .i64 0), (.int .i64 0), (.int .i64 0), (.int .i64 0), (.int .i64 0), (.int .i64 0), (.int .i64 0), (.int .i64 0), (.int .i64 0), (.int .i64 0), (.int .i64 0), (.int .i64 0), (.int .i64 0), (.int .i64 0), (.int .i64 0), (.int .i64 0), (.int .i64 0), (.int .i64 0), (.int .i64 0), (.int .i64 0), (.int .i64 0), (.int .i64 0), (.int .i64 0), (.int .i64 0), (.bool false), (.int .i64 0), (.int .i64 0), (.int .i64 0), (.int .i64 0), (.int .i64 0), (.int .i64 0), (.int .i64 0), (.int .i64 0), (.int .i64 0), (.int .i64 0), (.int .i64 0), (.int .i64 0), (.int .i64 0), (.int .i64 0), (.int .i64 0), (.bool false), (.bool false), (.int .i64 0), (.int .i64 0), (.int .i64 0), (.int .i64 0), (.bool false), (.bool false), (.int .i64 0), (.int .i64 0), (.int .i64 0), (.int .i64 0), (.bool false), (.bool false), (.int .i64 0), (.int .i64 0), (.int .i64 0), (.int .i64 0), (.bool false), (.bool false), (.int .i64 0), (.int .i64 0), (.int .i64 0), (.int .i64 0), (.bool false), (.bool false), (.int .i64 0), (.int .i64 0), (.int .i64 0), (.int .i64 0), (.bool false), (.bool false), (.int .i64 0), (.int .i64 0), (.int .i64 0), (.int .i64 0), (.bool false), (.bool false), (.int .i64 0), (.int .i64 0), (.int .i64 0), (.int .i64 0), (.bool false), (.bool false), (.int .i64 0), (.int .i64 0), (.int .i64 0), (.int .i64 0), (.bool false), (.bool false), (.int .i64 0), (.int .i64 0), (.int .i64 0), (.int .i64 0), (.bool false), (.bool false), (.int .i64 0), (.int .i64 0), (.int .i64 0), (.int .i64 0), (.bool false), (.bool false), (.int .i64 0), (.int .i64 0), (.int .i64 0), (.int .i64 0), (.bool false), (.bool false), (.int .i64 0), (.int .i64 0), (.int .i64 0), (.int .i64 0), (.bool false), (.bool false), (.int .i64 0), (.int .i64 0), (.int .i64 0), (.int .i64 0), (.bool false), (.bool false), (.int .i64 0), (.int .i64 0), (.int .i64 0), (.int .i64 0), (.bool false), (.bool false), (.int .i64 0), (.int .i64 0), (.int .i64 0), (.int .i64 0), (.bool false), (.bool false), (.int .i64 0), (.int .i64 0), (.int .i64 0), (.int .i64 0), (.bool false), (.bool false), (.int .i64 0), (.int .i64 0), (.int .i64 0), (.int .i64 0), (.bool false), (.bool false), (.int .i64 0), (.int .i64 0), (.int .i64 0), (.int .i64 0), (.bool false), (.bool false), (.int .i64 0), (.int .i64 0), (.int .i64 0), (.int .i64 0), (.bool false), (.bool false), (.int .i64 0), (.int .i64 0), (.int .i64 0), (.int .i64 0), (.bool false), (.bool false), (.int .i64 0), (.int .i64 0), (.int .i64 0), (.int .i64 0), (.bool false), (.bool false), (.int .i64 0), (.int .i64 0), (.int .i64 0), (.int .i64 0), (.bool false), (.bool false), (.int .i64 0), (.int .i64 0), (.int .i64 0), (.int .i64 0), (.bool false), (.bool false), (.int .i64 0), (.int .i64 0), (.str []), (.int .i64 0), (.int .i64 0), (.str []), (.int .i64 0), (.int .i64 0), (.str []), (.int .i64 0), (.int .i64 0), (.str []), (.int .i64 0), (.int .i64 0), (.str []), (.int .i64 0), (.int .i64 0), (.str []), (.int .i64 0), (.int .i64 0), (.str []), (.int .i64 0), (.int .i64 0), (.str []), (.int .i64 0), (.int .i64 0), .nils, (.int .i64 0), (.int .i64 0), (.int .i64 0), (.int .i64 0), (.int .i64 0), (.int .i64 0), (.bool false)]) := by kernel_rfl
@[simp] theorem slots59 : slotSizes Tryz.prog 59 = [0, 0, 0, 0, 0, 0, 0, 0, 0, 0, 1, 1, 0, 0, 0, 0, 0, 0, 0, 0, 0, 0, 0, 0, 0, 0, 0, 0, 0, 0, 0, 0, 0, 0, 0, 0, 0, 0, 0, 0, 0, 0, 0, 0, 0, 0, 0, 0, 0, 0, 0, 0, 0, 0, 0, 0, 0, 0, 0, 0, 0, 0, 0, 0, 0, 0, 0, 0, 0, 0, 0, 0, 0, 0, 0, 0, 0, 0, 0, 0, 0, 0, 0, 9, 1, 1, 0, 0, 0, 0, 0, 0, 0, 0, 1, 0, 0, 0, 0, 0, 0, 0, 0, 0, 0, 0, 0, 0, 0, 0, 0, 0, 0, 0, 0, 0, 0, 0, 0, 0, 0, 0, 0, 0, 0, 0, 0, 0, 0, 0, 0, 0, 0, 0, 0, 0, 0, 0, 0, 0, 0, 0, 0, 0, 0, 0, 0, 0, 0, 0, 0, 0, 0, 0, 0, 0, 0, 0, 0, 0, 0, 0, 0, 0, 0, 0, 0, 0, 0, 0, 0, 0, 0, 0, 0, 0, 0, 0, 0, 0, 0, 0, 0, 0, 0, 0, 0, 0, 0, 0, 0, 0, 0, 0, 0, 0, 0, 0, 0, 0, 0, 0, 0, 0, 0, 0, 0, 0, 0, 0, 0, 0, 0, 0, 0, 0, 0, 0, 0, 0, 0, 0, 0, 0, 0, 0, 0, 0, 0, 0, 0, 0, 0, 0, 0, 0, 0, 0, 0, 0, 0, 0, 0, 0, 0, 0, 0, 0, 0, 0, 0, 0, 0, 0, 0, 0, 0, 0, 0, 0, 0, 0, 0, 0, 0, 0, 0, 0, 0, 0, 0, 0, 0, 0, 0, 0, 0, 0, 0, 0, 0, 0, 0, 0, 0, 0, 0, 0, 0, 0, 0, 0, 0, 0, 0, 0, 0, 0, 0, 0, 0, 0, 0, 0, 0, 0, 0, 0, 0, 0, 0, 0, 0, 0, 0, 0, 0, 0, 0, 0, 0, 0, 0, 0, 0, 0, 0, 0, 0, 0, 0, 0, 0, 0, 0, 0, 0, 0, 0, 0, 0, 0, 0, 0, 0, 0, 0, 0, 0, 0, 0, 0, 0, 0, 0, 0, 0, 0, 0, 0, 0, 0, 0, 0, 0, 0, 0, 0, 0, 0, 0, 0, 0, 0, 0, 0, 0, 0, 0, 0, 0, 0, 0, 0, 0, 0, 0, 0, 0, 0, 0, 0, 0, 0, 0, 0, 0, 0, 0, 0, 0, 0, 0, 0, 0, 0, 0, 0, 0, 0, 0, 0, 0, 0, 0, 0, 0, 0, 0, 0, 0, 0, 0, 0, 0, 0, 0, 0, 0, 0, 0, 0, 0, 0, 0, 0, 0, 0, 0, 0, 0, 0, 0, 0, 0, 0, 0, 0, 0, 0, 0, 0, 0, 0, 0, 0, 0, 0, 0, 0, 0, 0, 0, 0, 0, 0, 0, 0, 0, 0, 0, 0, 0, 0, 0, 0, 0, 0, 0, 0, 0, 0, 0, 0, 0, 0, 0, 0, 0, 0, 0, 0, 0, 0, 0, 0, 0, 0, 0, 0, 0, 0, 0, 0, 0, 0, 0, 0, 0, 0, 4, 0, 0, 0, 0, 0, 0, 0] := by kernel_rfl
noncomputable def F59_0 : Field := (fieldOf Tryz.prog 59 0).getD default
@[simp] theorem fo59_0 : fieldOf Tryz.prog 59 0 = some F59_0 := by kernel_rfl
@[simp] theorem ft59_0 : F59_0.type = 44 := by kernel_rfl
@[simp] theorem fx59_0 : F59_0.offset = 0 := by kernel_rfl
noncomputable def F59_1 : Field := (fieldOf Tryz.prog 59 1).getD default
@[simp] theorem fo59_1 : fieldOf Tryz.prog 59 1 = some F59_1 := by kernel_rfl
@[simp] theorem ft59_1 : F59_1.type = 48 := by kernel_rfl
@[simp] theorem fx59_1 : F59_1.offset = 110 := by kernel_rfl
noncomputable def F59_2 : Field := (fieldOf Tryz.prog 59 2).getD default
@[simp] theorem fo59_2 : fieldOf Tryz.prog 59 2 = some F59_2 := by kernel_rfl
@[simp] theorem ft59_2 : F59_2.type = 51 := by kernel_rfl
@[simp] theorem fx59_2 : F59_2.offset = 342 := by kernel_rfl
noncomputable def F59_3 : Field := (fieldOf Tryz.prog 59 3).getD default
@[simp] theorem fo59_3 : fieldOf Tryz.prog 59 3 = some F59_3 := by kernel_rfl
@[simp] theorem ft59_3 : F59_3.type = 54 := by kernel_rfl
@[simp] theorem fx59_3 : F59_3.offset = 486 := by kernel_rfl
noncomputable def F59_4 : Field := (fieldOf Tryz.prog 59 4).getD default
@[simp] theorem fo59_4 : fieldOf Tryz.prog 59 4 = some F59_4 := by kernel_rfl
@[simp] theorem ft59_4 : F59_4.type = 55 := by kernel_rfl
@[simp] theorem fx59_4 : F59_4.offset = 510 := by kernel_rfl
noncomputable def F59_5 : Field := (fieldOf Tryz.prog 59 5).getD default
@[simp] theorem fo59_5 : fieldOf Tryz.prog 59 5 = some F59_5 := by kernel_rfl
@[simp] theorem ft59_5 : F59_5.type = 57 := by kernel_rfl
@[simp] theorem fx59_5 : F59_5.offset = 511 := by kernel_rfl
noncomputable def F59_6 : Field := (fieldOf Tryz.prog 59 6).getD default
@[simp] theorem fo59_6 : fieldOf Tryz.prog 59 6 = some F59_6 := by kernel_rfl
@[simp] theorem ft59_6 : F59_6.type = 57 := by kernel_rfl
@[simp] theorem fx59_6 : F59_6.offset = 513 := by kernel_rfl
noncomputable def F59_7 : Field := (fieldOf Tryz.prog 59 7).getD default
@[simp] theorem fo59_7 : fieldOf Tryz.prog 59 7 = some F59_7 := by kernel_rfl
@[simp] theorem ft59_7 : F59_7.type = 3 := by kernel_rfl
@[simp] theorem fx59_7 : F59_7.offset = 515 := by kernel_rfl
noncomputable def F59_8 : Field := (fieldOf Tryz.prog 59 8).getD default
@[simp] theorem fo59_8 : fieldOf Tryz.prog 59 8 = some F59_8 := by kernel_rfl
@[simp] theorem ft59_8 : F59_8.type = 3 := by kernel_rfl
@[simp] theorem fx59_8 : F59_8.offset = 516 := by kernel_rfl
noncomputable def F59_9 : Field := (fieldOf Tryz.prog 59 9).getD default
@[simp] theorem fo59_9 : fieldOf Tryz.prog 59 9 = some F59_9 := by kernel_rfl
@[simp] theorem ft59_9 : F59_9.type = 4 := by kernel_rfl
@[simp] theorem fx59_9 : F59_9.offset = 517 := by kernel_rfl
@[simp] theorem inf60 : Tryz.prog.info? 60 = some Tryz.t60 := by kernel_rfl
@[simp] theorem tsz60 : Tryz.t60.size = 1 := by kernel_rfl
@[simp] theorem tby60 : Tryz.t60.bytes = 8 := by kernel_rfl
@[simp] theorem agg60 : aggT Tryz.prog 60 = some false := by kernel_rfl
@[simp] theorem slot60 : slotSize Tryz.prog 60 = 0 := by kernel_rfl
attribute [simp] Tryz.underlying60
@[simp] theorem zero60 : zeroV Tryz.prog 60 = some (.nilx 1) := by kernel_rfl
@[simp] theorem inf61 : Tryz.prog.info? 61 = some Tryz.t61 := by kernel_rfl
@[simp] theorem tsz61 : Tryz.t61.size = 1 := by kernel_rfl
@[simp] theorem tby61 : Tryz.t61.bytes = 8 := by kernel_rfl
@[simp] theorem agg61 : aggT Tryz.prog 61 = some false := by kernel_rfl
@[simp] theorem slot61 : slotSize Tryz.prog 61 = 0 := by kernel_rfl
attribute [simp] Tryz.underlying61
@[simp] theorem zero61 : zeroV Tryz.prog 61 = some (.int .i64 0) := by kernel_rfl
@[simp] theorem inf63 : Tryz.prog.info? 63 = some Tryz.t63 := by kernel_rfl
@[simp] theorem tsz63 : Tryz.t63.size = 1 := by kernel_rfl
@[simp] theorem tby63 : Tryz.t63.bytes = 8 := by kernel_rfl
@[simp] theorem agg63 : aggT Tryz.prog 63 = some false := by kernel_rfl
@[simp] theorem slot63 : slotSize Tryz.prog 63 = 0 := by kernel_rfl
attribute [simp] Tryz.underlying63
@[simp] theorem zero63 : zeroV Tryz.prog 63 = some (.nilx 1) := by kernel_rfl
@[simp] theorem inf64 : Tryz.prog.info? 64 = some Tryz.t64 := by kernel_rfl
@[simp] theorem tsz64 : Tryz.t64.size = 1 := by kernel_rfl
@[simp] theorem tby64 : Tryz.t64.bytes = 8 := by kernel_rfl
@[simp] theorem agg64 : aggT Tryz.prog 64 = some false := by kernel_rfl
@[simp] theorem slot64 : slotSize Tryz.prog 64 = 0 := by kernel_rfl
attribute [simp] Tryz.underlying64
@[simp] theorem zero64 : zeroV Tryz.prog 64 = some (.nilx 1) := by kernel_rfl
@[simp] theorem inf65 : Tryz.prog.info? 65 = some Tryz.t65 := by kernel_rfl
@[simp] theorem tsz65 : Tryz.t65.size = 1 := by kernel_rfl
@[simp] theorem tby65 : Tryz.t65.bytes = 8 := by kernel_rfl
@[simp] theorem agg65 : aggT Tryz.prog 65 = some false := by kernel_rfl
@[simp] theorem slot65 : slotSize Tryz.prog 65 = 0 := by kernel_rfl
attribute [simp] Tryz.underlying65
@[simp] theorem zero65 : zeroV Tryz.prog 65 = some (.nilx 1) := by kernel_rfl
@[simp] theorem inf66 : Tryz.prog.info? 66 = some Tryz.t66 := by kernel_rfl
@[simp] theorem tsz66 : Tryz.t66.size = 1 := by kernel_rfl
@[simp] theorem tby66 : Tryz.t66.bytes = 8 := by kernel_rfl
@[simp] theorem agg66 : aggT Tryz.prog 66 = some false := by kernel_rfl
@[simp] theorem slot66 : slotSize Tryz.prog 66 = 0 := by kernel_rfl
attribute [simp] Tryz.underlying66
@[simp] theorem zero66 : zeroV Tryz.prog 66 = some (.nilx 1) := by kernel_rfl
@[simp] theorem inf67 : Tryz.prog.info? 67 = some Tryz.t67 := by kernel_rfl
@[simp] theorem tsz67 : Tryz.t67.size = 1 := by kernel_rfl
@[simp] theorem tby67 : Tryz.t67.bytes = 8 := by kernel_rfl
@[simp] theorem agg67 : aggT Tryz.prog 67 = some false := by kernel_rfl
@[simp] theorem slot67 : slotSize Tryz.prog 67 = 0 := by kernel_rfl
attribute [simp] Tryz.underlying67
@[simp] theorem zero67 : zeroV Tryz.prog 67 = some (.nilx 1) := by kernel_rfl
@[simp] theorem inf68 : Tryz.prog.info? 68 = some Tryz.t68 := by kernel_rfl
@[simp] theorem tsz68 : Tryz.t68.size = 1 := by kernel_rfl
@[simp] theorem tby68 : Tryz.t68.bytes = 8 := by kernel_rfl
@[simp] theorem agg68 : aggT Tryz.prog 68 = some false := by kernel_rfl
@[simp] theorem slot68 : slotSize Tryz.prog 68 = 0 := by kernel_rfl
attribute [simp] Tryz.underlying68
@[simp] theorem zero68 : zeroV Tryz.prog 68 = some (.nilx 1) := by kernel_rfl
@[simp] theorem inf69 : Tryz.prog.info? 69 = some Tryz.t69 := by kernel_rfl
@[simp] theorem tsz69 : Tryz.t69.size = 1 := by kernel_rfl
@[simp] theorem tby69 : Tryz.t69.bytes = 8 := by kernel_rfl
@[simp] theorem agg69 : aggT Tryz.prog 69 = some false := by kernel_rfl
@[simp] theorem slot69 : slotSize Tryz.prog 69 = 0 := by kernel_rfl
attribute [simp] Tryz.underlying69
@[simp] theorem zero69 : zeroV Tryz.prog 69 = some (.nilx 1) := by kernel_rfl
@[simp] theorem inf70 : Tryz.prog.info? 70 = some Tryz.t70 := by kernel_rfl
@[simp] theorem tsz70 : Tryz.t70.size = 1 := by kernel_rfl
@[simp] theorem tby70 : Tryz.t70.bytes = 8 := by kernel_rfl
@[simp] theorem agg70 : aggT Tryz.prog 70 = some false := by kernel_rfl
@[simp] theorem slot70 : slotSize Tryz.prog 70 = 0 := by kernel_rfl
attribute [simp] Tryz.underlying70
@[simp] theorem zero70 : zeroV Tryz.prog 70 = some (.nilx 1) := by kernel_rfl
@[simp] theorem inf71 : Tryz.prog.info? 71 = some Tryz.t71 := by kernel_rfl
@[simp] theorem tsz71 : Tryz.t71.size = 1 := by kernel_rfl
@[simp] theorem tby71 : Tryz.t71.bytes = 8 := by kernel_rfl
@[simp] theorem agg71 : aggT Tryz.prog 71 = some false := by kernel_rfl
@[simp] theorem slot71 : slotSize Tryz.prog 71 = 0 := by kernel_rfl
attribute [simp] Tryz.underlying71
@[simp] theorem zero71 : zeroV Tryz.prog 71 = some (.nilx 1) := by kernel_rfl
@[simp] theorem inf72 : Tryz.prog.info? 72 = some Tryz.t72 := by kernel_rfl
@[simp] theorem tsz72 : Tryz.t72.size = 1 := by kernel_rfl
@[simp] theorem tby72 : Tryz.t72.bytes = 24 := by kernel_rfl
@[simp] theorem agg72 : aggT Tryz.prog 72 = some false := by kernel_rfl
@[simp] theorem slot72 : slotSize Tryz.prog 72 = 2 := by kernel_rfl
attribute [simp] Tryz.underlying72
@[simp] theorem zero72 : zeroV Tryz.prog 72 = some .nils := by kernel_rfl
@[simp] theorem elem72 : elemT Tryz.prog 72 = some Tryz.t57 := by kernel_rfl
@[simp] theorem inf73 : Tryz.prog.info? 73 = some Tryz.t73 := by kernel_rfl
@[simp] theorem tsz73 : Tryz.t73.size = 1 := by kernel_rfl
@[simp] theorem tby73 : Tryz.t73.bytes = 8 := by kernel_rfl
@[simp] theorem agg73 : aggT Tryz.prog 73 = some false := by kernel_rfl
@[simp] theorem slot73 : slotSize Tryz.prog 73 = 0 := by kernel_rfl
attribute [simp] Tryz.underlying73
@[simp] theorem zero73 : zeroV Tryz.prog 73 = some (.nilx 1) := by kernel_rfl
@[simp] theorem inf74 : Tryz.prog.info? 74 = some Tryz.t74 := by kernel_rfl
@[simp] theorem tsz74 : Tryz.t74.size = 1 := by kernel_rfl
@[simp] theorem tby74 : Tryz.t74.bytes = 8 := by kernel_rfl
@[simp] theorem agg74 : aggT Tryz.prog 74 = some false := by kernel_rfl
@[simp] theorem slot74 : slotSize Tryz.prog 74 = 0 := by kernel_rfl
attribute [simp] Tryz.underlying74
@[simp] theorem zero74 : zeroV Tryz.prog 74 = some (.nilx 1) := by kernel_rfl
@[simp] theorem inf75 : Tryz.prog.info? 75 = some Tryz.t75 := by kernel_rfl
@[simp] theorem tsz75 : Tryz.t75.size = 1 := by kernel_rfl
@[simp] theorem tby75 : Tryz.t75.bytes = 8 := by kernel_rfl
@[simp] theorem agg75 : aggT Tryz.prog 75 = some false := by kernel_rfl
@[simp] theorem slot75 : slotSize Tryz.prog 75 = 0 := by kernel_rfl
attribute [simp] Tryz.underlying75
@[simp] theorem zero75 : zeroV Tryz.prog 75 = some (.nilx 0) := by kernel_rfl
@[simp] theorem inf76 : Tryz.prog.info? 76 = some Tryz.t76 := by kernel_rfl
@[simp] theorem tsz76 : Tryz.t76.size = 1 := by kernel_rfl
@[simp] theorem tby76 : Tryz.t76.bytes = 8 := by kernel_rfl
@[simp] theorem agg76 : aggT Tryz.prog 76 = some false := by kernel_rfl
@[simp] theorem slot76 : slotSize Tryz.prog 76 = 0 := by kernel_rfl
attribute [simp] Tryz.underlying76
@[simp] theorem zero76 : zeroV Tryz.prog 76 = some (.nilx 1) := by kernel_rfl
@[simp] theorem inf78 : Tryz.prog.info? 78 = some Tryz.t78 := by kernel_rfl
@[simp] theorem tsz78 : Tryz.t78.size = 1 := by kernel_rfl
@[simp] theorem tby78 : Tryz.t78.bytes = 8 := by kernel_rfl
@[simp] theorem agg78 : aggT Tryz.prog 78 = some false := by kernel_rfl
@[simp] theorem slot78 : slotSize Tryz.prog 78 = 0 := by kernel_rfl
attribute [simp] Tryz.underlying78
@[simp] theorem zero78 : zeroV Tryz.prog 78 = some (.nilx 1) := by kernel_rfl
@[simp] theorem inf80 : Tryz.prog.info? 80 = some Tryz.t80 := by kernel_rfl
@[simp] theorem tsz80 : Tryz.t80.size = 1 := by kernel_rfl
@[simp] theorem tby80 : Tryz.t80.bytes = 8 := by kernel_rfl
@[simp] theorem agg80 : aggT Tryz.prog 80 = some false := by kernel_rfl
@[simp] theorem slot80 : slotSize Tryz.prog 80 = 0 := by kernel_rfl
attribute [simp] Tryz.underlying80
@[simp] theorem zero80 : zeroV Tryz.prog 80 = some (.nilx 1) := by kernel_rfl
@[simp] theorem inf81 : Tryz.prog.info? 81 = some Tryz.t81 := by kernel_rfl
@[simp] theorem tsz81 : Tryz.t81.size = 1 := by kernel_rfl
@[simp] theorem tby81 : Tryz.t81.bytes = 24 := by kernel_rfl
@[simp] theorem agg81 : aggT Tryz.prog 81 = some false := by kernel_rfl
@[simp] theorem slot81 : slotSize Tryz.prog 81 = 2 := by kernel_rfl
attribute [simp] Tryz.underlying81
@[simp] theorem zero81 : zeroV Tryz.prog 81 = some .nils := by kernel_rfl
@[simp] theorem elem81 : elemT Tryz.prog 81 = some Tryz.t83 := by kernel_rfl
attribute [simp] Tryz.underlying82
@[simp] theorem inf83 : Tryz.prog.info? 83 = some Tryz.t83 := by kernel_rfl
@[simp] theorem tsz83 : Tryz.t83.size = 2 := by kernel_rfl
@[simp] theorem tby83 : Tryz.t83.bytes = 24 := by kernel_rfl
@[simp] theorem agg83 : aggT Tryz.prog 83 = some true := by kernel_rfl
@[simp] theorem slot83 : slotSize Tryz.prog 83 = 0 := by kernel_rfl
attribute [simp] Tryz.underlying83
@[simp] theorem zero83 : zeroV Tryz.prog 83 = some (.agg [(.int .i64 0), (.str [])]) := by kernel_rfl
@[simp] theorem slots83 : slotSizes Tryz.prog 83 = [0, 0] := by kernel_rfl
noncomputable def F83_0 : Field := (fieldOf Tryz.prog 83 0).getD default
@[simp] theorem fo83_0 : fieldOf Tryz.prog 83 0 = some F83_0 := by kernel_rfl
@[simp] theorem ft83_0 : F83_0.type = 3 := by kernel_rfl
@[simp] theorem fx83_0 : F83_0.offset = 0 := by kernel_rfl
noncomputable def F83_1 : Field := (fieldOf Tryz.prog 83 1).getD default
@[simp] theorem fo83_1 : fieldOf Tryz.prog 83 1 = some F83_1 := by kernel_rfl
@[simp] theorem ft83_1 : F83_1.type = 9 := by kernel_rfl
@[simp] theorem fx83_1 : F83_1.offset = 1 := by kernel_rfl
@[simp] theorem inf85 : Tryz.prog.info? 85 = some Tryz.t85 := by kernel_rfl
@[simp] theorem tsz85 : Tryz.t85.size = 1 := by kernel_rfl
@[simp] theorem tby85 : Tryz.t85.bytes = 8 := by kernel_rfl
@[simp] theorem agg85 : aggT Tryz.prog 85 = some false := by kernel_rfl
@[simp] theorem slot85 : slotSize Tryz.prog 85 = 0 := by kernel_rfl
attribute [simp] Tryz.underlying85
@[simp] theorem zero85 : zeroV Tryz.prog 85 = some (.nilx 1) := by kernel_rfl
@[simp] theorem inf87 : Tryz.prog.info? 87 = some Tryz.t87 := by kernel_rfl
@[simp] theorem tsz87 : Tryz.t87.size = 1 := by kernel_rfl
@[simp] theorem tby87 : Tryz.t87.bytes = 8 := by kernel_rfl
@[simp] theorem agg87 : aggT Tryz.prog 87 = some false := by kernel_rfl
@[simp] theorem slot87 : slotSize Tryz.prog 87 = 0 := by kernel_rfl
attribute [simp] Tryz.underlying87
@[simp] theorem zero87 : zeroV Tryz.prog 87 = some (.nilx 1) := by kernel_rfl
@[simp] theorem inf88 : Tryz.prog.info? 88 = some Tryz.t88 := by kernel_rfl
@[simp] theorem tsz88 : Tryz.t88.size = 1 := by kernel_rfl
@[simp] theorem tby88 : Tryz.t88.bytes = 8 := by kernel_rfl
@[simp] theorem agg88 : aggT Tryz.prog 88 = some false := by kernel_rfl
@[simp] theorem slot88 : slotSize Tryz.prog 88 = 0 := by kernel_rfl
attribute [simp] Tryz.underlying88
@[simp] theorem zero88 : zeroV Tryz.prog 88 = some (.nilx 1) := by kernel_rfl
@[simp] theorem inf89 : Tryz.prog.info? 89 = some Tryz.t89 := by kernel_rfl
@[simp] theorem tsz89 : Tryz.t89.size = 1 := by kernel_rfl
@[simp] theorem tby89 : Tryz.t89.bytes = 8 := by kernel_rfl
@[simp] theorem agg89 : aggT Tryz.prog 89 = some false := by kernel_rfl
@[simp] theorem slot89 : slotSize Tryz.prog 89 = 0 := by kernel_rfl
attribute [simp] Tryz.underlying89
@[simp] theorem zero89 : zeroV Tryz.prog 89 = some (.nilx 0) := by kernel_rfl
@[simp] theorem inf90 : Tryz.prog.info? 90 = some Tryz.t90 := by kernel_rfl
@[simp] theorem tsz90 : Tryz.t90.size = 1 := by kernel_rfl
@[simp] theorem tby90 : Tryz.t90.bytes = 24 := by kernel_rfl
@[simp] theorem agg90 : aggT Tryz.prog 90 = some false := by kernel_rfl
@[simp] theorem slot90 : slotSize Tryz.prog 90 = 1 := by kernel_rfl
attribute [simp] Tryz.underlying90
@[simp] theorem zero90 : zeroV Tryz.prog 90 = some .nils := by kernel_rfl
@[simp] theorem elem90 : elemT Tryz.prog 90 = some Tryz.t5 := by kernel_rfl
attribute [simp] Tryz.underlying91
@[simp] theorem inf92 : Tryz.prog.info? 92 = some Tryz.t92 := by kernel_rfl
@[simp] theorem tsz92 : Tryz.t92.size = 2 := by kernel_rfl
@[simp] theorem tby92 : Tryz.t92.bytes = 32 := by kernel_rfl
@[simp] theorem agg92 : aggT Tryz.prog 92 = some true := by kernel_rfl
@[simp] theorem slot92 : slotSize Tryz.prog 92 = 0 := by kernel_rfl
attribute [simp] Tryz.underlying92
@[simp] theorem zero92 : zeroV Tryz.prog 92 = some (.agg [(.nilx 0), .nils]) := by kernel_rfl
@[simp] theorem slots92 : slotSizes Tryz.prog 92 = [0, 1] := by kernel_rfl
noncomputable def F92_0 : Field := (fieldOf Tryz.prog 92 0).getD default
@[simp] theorem fo92_0 : fieldOf Tryz.prog 92 0 = some F92_0 := by kernel_rfl
@[simp] theorem ft92_0 : F92_0.type = 89 := by kernel_rfl
@[simp] theorem fx92_0 : F92_0.offset = 0 := by kernel_rfl
noncomputable def F92_1 : Field := (fieldOf Tryz.prog 92 1).getD default
@[simp] theorem fo92_1 : fieldOf Tryz.prog 92 1 = some F92_1 := by kernel_rfl
@[simp] theorem ft92_1 : F92_1.type = 90 := by kernel_rfl
@[simp] theorem fx92_1 : F92_1.offset = 1 := by kernel_rfl
@[simp] theorem inf93 : Tryz.prog.info? 93 = some Tryz.t93 := by kernel_rfl
@[simp] theorem tsz93 : Tryz.t93.size = 1 := by kernel_rfl
@[simp] theorem tby93 : Tryz.t93.bytes = 8 := by kernel_rfl
@[simp] theorem agg93 : aggT Tryz.prog 93 = some false := by kernel_rfl
@[simp] theorem slot93 : slotSize Tryz.prog 93 = 0 := by kernel_rfl
attribute [simp] Tryz.underlying93
@[simp] theorem zero93 : zeroV Tryz.prog 93 = some (.nilx 1) := by kernel_rfl
@[simp] theorem inf97 : Tryz.prog.info? 97 = some Tryz.t97 := by kernel_rfl
@[simp] theorem tsz97 : Tryz.t97.size = 1 := by kernel_rfl
@[simp] theorem tby97 : Tryz.t97.bytes = 8 := by kernel_rfl
@[simp] theorem agg97 : aggT Tryz.prog 97 = some false := by kernel_rfl
@[simp] theorem slot97 : slotSize Tryz.prog 97 = 0 := by kernel_rfl
attribute [simp] Tryz.underlying97
@[simp] theorem zero97 : zeroV Tryz.prog 97 = some (.nilx 1) := by kernel_rfl
@[simp] theorem inf99 : Tryz.prog.info? 99 = some Tryz.t99 := by kernel_rfl
@[simp] theorem tsz99 : Tryz.t99.size = 1 := by kernel_rfl
@[simp] theorem tby99 : Tryz.t99.bytes = 8 := by kernel_rfl
@[simp] theorem agg99 : aggT Tryz.prog 99 = some false := by kernel_rfl
@[simp] theorem slot99 : slotSize Tryz.prog 99 = 0 := by kernel_rfl
attribute [simp] Tryz.underlying99
@[simp] theorem zero99 : zeroV Tryz.prog 99 = some (.nilx 1) := by kernel_rfl
@[simp] theorem inf100 : Tryz.prog.info? 100 = some Tryz.t100 := by kernel_rfl
@[simp] theorem tsz100 : Tryz.t100.size = 1 := by kernel_rfl
@[simp] theorem tby100 : Tryz.t100.bytes = 8 := by kernel_rfl
@[simp] theorem agg100 : aggT Tryz.prog 100 = some false := by kernel_rfl
@[simp] theorem slot100 : slotSize Tryz.prog 100 = 0 := by kernel_rfl
attribute [simp] Tryz.underlying100
@[simp] theorem zero100 : zeroV Tryz.prog 100 = some (.nilx 1) := by kernel_rfl
@[simp] theorem inf101 : Tryz.prog.info? 101 = some Tryz.t101 := by kernel_rfl
@[simp] theorem tsz101 : Tryz.t101.size = 1 := by kernel_rfl
@[simp] theorem tby101 : Tryz.t101.bytes = 8 := by kernel_rfl
@[simp] theorem agg101 : aggT Tryz.prog 101 = some false := by kernel_rfl
@[simp] theorem slot101 : slotSize Tryz.prog 101 = 0 := by kernel_rfl
attribute [simp] Tryz.underlying101
@[simp] theorem zero101 : zeroV Tryz.prog 101 = some (.nilx 1) := by kernel_rfl
@[simp] theorem inf102 : Tryz.prog.info? 102 = some Tryz.t102 := by kernel_rfl
@[simp] theorem tsz102 : Tryz.t102.size = 1 := by kernel_rfl
@[simp] theorem tby102 : Tryz.t102.bytes = 8 := by kernel_rfl
@[simp] theorem agg102 : aggT Tryz.prog 102 = some false := by kernel_rfl
@[simp] theorem slot102 : slotSize Tryz.prog 102 = 0 := by kernel_rfl
attribute [simp] Tryz.underlying102
@[simp] theorem zero102 : zeroV Tryz.prog 102 = some (.nilx 1) := by kernel_rfl
@[simp] theorem inf103 : Tryz.prog.info? 103 = some Tryz.t103 := by kernel_rfl
@[simp] theorem tsz103 : Tryz.t103.size = 1 := by kernel_rfl
@[simp] theorem tby103 : Tryz.t103.bytes = 8 := by kernel_rfl
@[simp] theorem agg103 : aggT Tryz.prog 103 = some false := by kernel_rfl
@[simp] theorem slot103 : slotSize Tryz.prog 103 = 0 := by kernel_rfl
attribute [simp] Tryz.underlying103
@[simp] theorem zero103 : zeroV Tryz.prog 103 = some (.nilx 1) := by kernel_rfl
@[simp] theorem inf104 : Tryz.prog.info? 104 = some Tryz.t104 := by kernel_rfl
@[simp] theorem tsz104 : Tryz.t104.size = 1 := by kernel_rfl
@[simp] theorem tby104 : Tryz.t104.bytes = 8 := by kernel_rfl
@[simp] theorem agg104 : aggT Tryz.prog 104 = some false := by kernel_rfl
@[simp] theorem slot104 : slotSize Tryz.prog 104 = 0 := by kernel_rfl
attribute [simp] Tryz.underlying104
@[simp] theorem zero104 : zeroV Tryz.prog 104 = some (.nilx 1) := by kernel_rfl
@[simp] theorem inf105 : Tryz.prog.info? 105 = some Tryz.t105 := by kernel_rfl
@[simp] theorem tsz105 : Tryz.t105.size = 1 := by kernel_rfl
@[simp] theorem tby105 : Tryz.t105.bytes = 8 := by kernel_rfl
@[simp] theorem agg105 : aggT Tryz.prog 105 = some false := by kernel_rfl
@[simp] theorem slot105 : slotSize Tryz.prog 105 = 0 := by kernel_rfl
attribute [simp] Tryz.underlying105
@[simp] theorem zero105 : zeroV Tryz.prog 105 = some (.nilx 1) := by kernel_rfl
@[simp] theorem inf106 : Tryz.prog.info? 106 = some Tryz.t106 := by kernel_rfl
@[simp] theorem tsz106 : Tryz.t106.size = 1 := by kernel_rfl
@[simp] theorem tby106 : Tryz.t106.bytes = 8 := by kernel_rfl
@[simp] theorem agg106 : aggT Tryz.prog 106 = some false := by kernel_rfl
@[simp] theorem slot106 : slotSize Tryz.prog 106 = 0 := by kernel_rfl
attribute [simp] Tryz.underlying106
@[simp] theorem zero106 : zeroV Tryz.prog 106 = some (.nilx 1) := by kernel_rfl
@[simp] theorem inf107 : Tryz.prog.info? 107 = some Tryz.t107 := by kernel_rfl
@[simp] theorem tsz107 : Tryz.t107.size = 1 := by kernel_rfl
@[simp] theorem tby107 : Tryz.t107.bytes = 8 := by kernel_rfl
@[simp] theorem agg107 : aggT Tryz.prog 107 = some false := by kernel_rfl
@[simp] theorem slot107 : slotSize Tryz.prog 107 = 0 := by kernel_rfl
attribute [simp] Tryz.underlying107
@[simp] theorem zero107 : zeroV Tryz.prog 107 = some (.nilx 1) := by kernel_rfl
@[simp] theorem inf108 : Tryz.prog.info? 108 = some Tryz.t108 := by kernel_rfl
@[simp] theorem tsz108 : Tryz.t108.size = 1 := by kernel_rfl
@[simp] theorem tby108 : Tryz.t108.bytes = 8 := by kernel_rfl
@[simp] theorem agg108 : aggT Tryz.prog 108 = some false := by kernel_rfl
@[simp] theorem slot108 : slotSize Tryz.prog 108 = 0 := by kernel_rfl
attribute [simp] Tryz.underlying108
@[simp] theorem zero108 : zeroV Tryz.prog 108 = some (.nilx 1) := by kernel_rfl
@[simp] theorem inf109 : Tryz.prog.info? 109 = some Tryz.t109 := by kernel_rfl
@[simp] theorem tsz109 : Tryz.t109.size = 1 := by kernel_rfl
@[simp] theorem tby109 : Tryz.t109.bytes = 8 := by kernel_rfl
@[simp] theorem agg109 : aggT Tryz.prog 109 = some false := by kernel_rfl
@[simp] theorem slot109 : slotSize Tryz.prog 109 = 0 := by kernel_rfl
attribute [simp] Tryz.underlying109
@[simp] theorem zero109 : zeroV Tryz.prog 109 = some (.nilx 1) := by kernel_rfl
@[simp] theorem inf110 : Tryz.prog.info? 110 = some Tryz.t110 := by kernel_rfl
@[simp] theorem tsz110 : Tryz.t110.size = 1 := by kernel_rfl
@[simp] theorem tby110 : Tryz.t110.bytes = 8 := by kernel_rfl
@[simp] theorem agg110 : aggT Tryz.prog 110 = some false := by kernel_rfl
@[simp] theorem slot110 : slotSize Tryz.prog 110 = 0 := by kernel_rfl
attribute [simp] Tryz.underlying110
@[simp] theorem zero110 : zeroV Tryz.prog 110 = some (.nilx 1) := by kernel_rfl
@[simp] theorem inf111 : Tryz.prog.info? 111 = some Tryz.t111 := by kernel_rfl
@[simp] theorem tsz111 : Tryz.t111.size = 1 := by kernel_rfl
@[simp] theorem tby111 : Tryz.t111.bytes = 8 := by kernel_rfl
@[simp] theorem agg111 : aggT Tryz.prog 111 = some false := by kernel_rfl
@[simp] theorem slot111 : slotSize Tryz.prog 111 = 0 := by kernel_rfl
attribute [simp] Tryz.underlying111
@[simp] theorem zero111 : zeroV Tryz.prog 111 = some (.nilx 1) := by kernel_rfl
@[simp] theorem inf112 : Tryz.prog.info? 112 = some Tryz.t112 := by kernel_rfl
@[simp] theorem tsz112 : Tryz.t112.size = 1 := by kernel_rfl
@[simp] theorem tby112 : Tryz.t112.bytes = 8 := by kernel_rfl
@[simp] theorem agg112 : aggT Tryz.prog 112 = some false := by kernel_rfl
@[simp] theorem slot112 : slotSize Tryz.prog 112 = 0 := by kernel_rfl
attribute [simp] Tryz.underlying112
@[simp] theorem zero112 : zeroV Tryz.prog 112 = some (.nilx 1) := by kernel_rfl
@[simp] theorem inf113 : Tryz.prog.info? 113 = some Tryz.t113 := by kernel_rfl
@[simp] theorem tsz113 : Tryz.t113.size = 1 := by kernel_rfl
@[simp] theorem tby113 : Tryz.t113.bytes = 8 := by kernel_rfl
@[simp] theorem agg113 : aggT Tryz.prog 113 = some false := by kernel_rfl
@[simp] theorem slot113 : slotSize Tryz.prog 113 = 0 := by kernel_rfl
attribute [simp] Tryz.underlying113
@[simp] theorem zero113 : zeroV Tryz.prog 113 = some .nilm := by kernel_rfl
@[simp] theorem inf114 : Tryz.prog.info? 114 = some Tryz.t114 := by kernel_rfl
@[simp] theorem tsz114 : Tryz.t114.size = 1 := by kernel_rfl
@[simp] theorem tby114 : Tryz.t114.bytes = 8 := by kernel_rfl
@[simp] theorem agg114 : aggT Tryz.prog 114 = some false := by kernel_rfl
@[simp] theorem slot114 : slotSize Tryz.prog 114 = 0 := by kernel_rfl
attribute [simp] Tryz.underlying114
@[simp] theorem zero114 : zeroV Tryz.prog 114 = some (.nilx 1) := by kernel_rfl
@[simp] theorem inf115 : Tryz.prog.info? 115 = some Tryz.t115 := by kernel_rfl
@[simp] theorem tsz115 : Tryz.t115.size = 1 := by kernel_rfl
@[simp] theorem tby115 : Tryz.t115.bytes = 8 := by kernel_rfl
@[simp] theorem agg115 : aggT Tryz.prog 115 = some false := by kernel_rfl
@[simp] theorem slot115 : slotSize Tryz.prog 115 = 0 := by kernel_rfl
attribute [simp] Tryz.underlying115
@[simp] theorem zero115 : zeroV Tryz.prog 115 = some (.nilx 1) := by kernel_rfl
@[simp] theorem inf116 : Tryz.prog.info? 116 = some Tryz.t116 := by kernel_rfl
@[simp] theorem tsz116 : Tryz.t116.size = 1 := by kernel_rfl
@[simp] theorem tby116 : Tryz.t116.bytes = 8 := by kernel_rfl
@[simp] theorem agg116 : aggT Tryz.prog 116 = some false := by kernel_rfl
@[simp] theorem slot116 : slotSize Tryz.prog 116 = 0 := by kernel_rfl
attribute [simp] Tryz.underlying116
@[simp] theorem zero116 : zeroV Tryz.prog 116 = some (.nilx 1) := by kernel_rfl
@[simp] theorem inf117 : Tryz.prog.info? 117 = some Tryz.t117 := by kernel_rfl
@[simp] theorem tsz117 : Tryz.t117.size = 1 := by kernel_rfl
@[simp] theorem tby117 : Tryz.t117.bytes = 8 := by kernel_rfl
@[simp] theorem agg117 : aggT Tryz.prog 117 = some false := by kernel_rfl
@[simp] theorem slot117 : slotSize Tryz.prog 117 = 0 := by kernel_rfl
attribute [simp] Tryz.underlying117
@[simp] theorem zero117 : zeroV Tryz.prog 117 = some (.nilx 1) := by kernel_rfl
@[simp] theorem inf118 : Tryz.prog.info? 118 = some Tryz.t118 := by kernel_rfl
@[simp] theorem tsz118 : Tryz.t118.size = 1 := by kernel_rfl
@[simp] theorem tby118 : Tryz.t118.bytes = 8 := by kernel_rfl
@[simp] theorem agg118 : aggT Tryz.prog 118 = some false := by kernel_rfl
@[simp] theorem slot118 : slotSize Tryz.prog 118 = 0 := by kernel_rfl
attribute [simp] Tryz.underlying118
@[simp] theorem zero118 : zeroV Tryz.prog 118 = some (.nilx 1) := by kernel_rfl
@[simp] theorem inf119 : Tryz.prog.info? 119 = some Tryz.t119 := by kernel_rfl
@[simp] theorem tsz119 : Tryz.t119.size = 1 := by kernel_rfl
@[simp] theorem tby119 : Tryz.t119.bytes = 8 := by kernel_rfl
@[simp] theorem agg119 : aggT Tryz.prog 119 = some false := by kernel_rfl
@[simp] theorem slot119 : slotSize Tryz.prog 119 = 0 := by kernel_rfl
attribute [simp] Tryz.underlying119
@[simp] theorem zero119 : zeroV Tryz.prog 119 = some (.nilx 1) := by kernel_rfl
@[simp] theorem inf120 : Tryz.prog.info? 120 = some Tryz.t120 := by kernel_rfl
@[simp] theorem tsz120 : Tryz.t120.size = 1 := by kernel_rfl
@[simp] theorem tby120 : Tryz.t120.bytes = 8 := by kernel_rfl
@[simp] theorem agg120 : aggT Tryz.prog 120 = some false := by kernel_rfl
@[simp] theorem slot120 : slotSize Tryz.prog 120 = 0 := by kernel_rfl
attribute [simp] Tryz.underlying120
@[simp] theorem zero120 : zeroV Tryz.prog 120 = some (.nilx 0) := by kernel_rfl
@[simp] theorem inf121 : Tryz.prog.info? 121 = some Tryz.t121 := by kernel_rfl
@[simp] theorem tsz121 : Tryz.t121.size = 1 := by kernel_rfl
@[simp] theorem tby121 : Tryz.t121.bytes = 8 := by kernel_rfl
@[simp] theorem agg121 : aggT Tryz.prog 121 = some false := by kernel_rfl
@[simp] theorem slot121 : slotSize Tryz.prog 121 = 0 := by kernel_rfl
attribute [simp] Tryz.underlying121
@[simp] theorem zero121 : zeroV Tryz.prog 121 = some (.nilx 1) := by kernel_rfl
@[simp] theorem inf122 : Tryz.prog.info? 122 = some Tryz.t122 := by kernel_rfl
@[simp] theorem tsz122 : Tryz.t122.size = 1 := by kernel_rfl
@[simp] theorem tby122 : Tryz.t122.bytes = 8 := by kernel_rfl
@[simp] theorem agg122 : aggT Tryz.prog 122 = some false := by kernel_rfl
@[simp] theorem slot122 : slotSize Tryz.prog 122 = 0 := by kernel_rfl
attribute [simp] Tryz.underlying122
@[simp] theorem zero122 : zeroV Tryz.prog 122 = some (.nilx 1) := by kernel_rfl
@[simp] theorem inf123 : Tryz.prog.info? 123 = some Tryz.t123 := by kernel_rfl
@[simp] theorem tsz123 : Tryz.t123.size = 1 := by kernel_rfl
@[simp] theorem tby123 : Tryz.t123.bytes = 8 := by kernel_rfl
@[simp] theorem agg123 : aggT Tryz.prog 123 = some false := by kernel_rfl
@[simp] theorem slot123 : slotSize Tryz.prog 123 = 0 := by kernel_rfl
attribute [simp] Tryz.underlying123
@[simp] theorem zero123 : zeroV Tryz.prog 123 = some (.nilx 1) := by kernel_rfl
@[simp] theorem inf124 : Tryz.prog.info? 124 = some Tryz.t124 := by kernel_rfl
@[simp] theorem tsz124 : Tryz.t124.size = 1 := by kernel_rfl
@[simp] theorem tby124 : Tryz.t124.bytes = 8 := by kernel_rfl
@[simp] theorem agg124 : aggT Tryz.prog 124 = some false := by kernel_rfl
@[simp] theorem slot124 : slotSize Tryz.prog 124 = 0 := by kernel_rfl
attribute [simp] Tryz.underlying124
@[simp] theorem zero124 : zeroV Tryz.prog 124 = some (.nilx 1) := by kernel_rfl
@[simp] theorem inf125 : Tryz.prog.info? 125 = some Tryz.t125 := by kernel_rfl
@[simp] theorem tsz125 : Tryz.t125.size = 1 := by kernel_rfl
@[simp] theorem tby125 : Tryz.t125.bytes = 8 := by kernel_rfl
@[simp] theorem agg125 : aggT Tryz.prog 125 = some false := by kernel_rfl
@[simp] theorem slot125 : slotSize Tryz.prog 125 = 0 := by kernel_rfl
attribute [simp] Tryz.underlying125
@[simp] theorem zero125 : zeroV Tryz.prog 125 = some (.nilx 1) := by kernel_rfl
@[simp] theorem inf126 : Tryz.prog.info? 126 = some Tryz.t126 := by kernel_rfl
@[simp] theorem tsz126 : Tryz.t126.size = 1 := by kernel_rfl
@[simp] theorem tby126 : Tryz.t126.bytes = 8 := by kernel_rfl
@[simp] theorem agg126 : aggT Tryz.prog 126 = some false := by kernel_rfl
@[simp] theorem slot126 : slotSize Tryz.prog 126 = 0 := by kernel_rfl
attribute [simp] Tryz.underlying126
@[simp] theorem zero126 : zeroV Tryz.prog 126 = some (.nilx 1) := by kernel_rfl
@[simp] theorem inf127 : Tryz.prog.info? 127 = some Tryz.t127 := by kernel_rfl
@[simp] theorem tsz127 : Tryz.t127.size = 1 := by kernel_rfl
@[simp] theorem tby127 : Tryz.t127.bytes = 8 := by kernel_rfl
@[simp] theorem agg127 : aggT Tryz.prog 127 = some false := by kernel_rfl
@[simp] theorem slot127 : slotSize Tryz.prog 127 = 0 := by kernel_rfl
attribute [simp] Tryz.underlying127
@[simp] theorem zero127 : zeroV Tryz.prog 127 = some (.nilx 1) := by kernel_rfl
@[simp] theorem inf128 : Tryz.prog.info? 128 = some Tryz.t128 := by kernel_rfl
@[simp] theorem tsz128 : Tryz.t128.size = 1 := by kernel_rfl
@[simp] theorem tby128 : Tryz.t128.bytes = 8 := by kernel_rfl
@[simp] theorem agg128 : aggT Tryz.prog 128 = some false := by kernel_rfl
@[simp] theorem slot128 : slotSize Tryz.prog 128 = 0 := by kernel_rfl
attribute [simp] Tryz.underlying128
@[simp] theorem zero128 : zeroV Tryz.prog 128 = some (.int .u64 0) := by kernel_rfl
@[simp] theorem inf129 : Tryz.prog.info? 129 = some Tryz.t129 := by kernel_rfl
@[simp] theorem tsz129 : Tryz.t129.size = 1 := by kernel_rfl
@[simp] theorem tby129 : Tryz.t129.bytes = 8 := by kernel_rfl
@[simp] theorem agg129 : aggT Tryz.prog 129 = some false := by kernel_rfl
@[simp] theorem slot129 : slotSize Tryz.prog 129 = 0 := by kernel_rfl
attribute [simp] Tryz.underlying129
@[simp] theorem zero129 : zeroV Tryz.prog 129 = some (.nilx 1) := by kernel_rfl
@[simp] theorem inf130 : Tryz.prog.info? 130 = some Tryz.t130 := by kernel_rfl
@[simp] theorem tsz130 : Tryz.t130.size = 1 := by kernel_rfl
@[simp] theorem tby130 : Tryz.t130.bytes = 8 := by kernel_rfl
@[simp] theorem agg130 : aggT Tryz.prog 130 = some false := by kernel_rfl
@[simp] theorem slot130 : slotSize Tryz.prog 130 = 0 := by kernel_rfl
attribute [simp] Tryz.underlying130
@[simp] theorem zero130 : zeroV Tryz.prog 130 = some (.nilx 1) := by kernel_rfl
@[simp] theorem inf132 : Tryz.prog.info? 132 = some Tryz.t132 := by kernel_rfl
@[simp] theorem tsz132 : Tryz.t132.size = 1 := by kernel_rfl
@[simp] theorem tby132 : Tryz.t132.bytes = 8 := by kernel_rfl
@[simp] theorem agg132 : aggT Tryz.prog 132 = some false := by kernel_rfl
@[simp] theorem slot132 : slotSize Tryz.prog 132 = 0 := by kernel_rfl
attribute [simp] Tryz.underlying132
@[simp] theorem zero132 : zeroV Tryz.prog 132 = some (.nilx 1) := by kernel_rfl
@[simp] theorem inf133 : Tryz.prog.info? 133 = some Tryz.t133 := by kernel_rfl
@[simp] theorem tsz133 : Tryz.t133.size = 1 := by kernel_rfl
@[simp] theorem tby133 : Tryz.t133.bytes = 8 := by kernel_rfl
@[simp] theorem agg133 : aggT Tryz.prog 133 = some false := by kernel_rfl
@[simp] theorem slot133 : slotSize Tryz.prog 133 = 0 := by kernel_rfl
attribute [simp] Tryz.underlying133
@[simp] theorem zero133 : zeroV Tryz.prog 133 = some (.nilx 1) := by kernel_rfl
@[simp] theorem inf134 : Tryz.prog.info? 134 = some Tryz.t134 := by kernel_rfl
@[simp] theorem tsz134 : Tryz.t134.size = 1 := by kernel_rfl
@[simp] theorem tby134 : Tryz.t134.bytes = 8 := by kernel_rfl
@[simp] theorem agg134 : aggT Tryz.prog 134 = some false := by kernel_rfl
@[simp] theorem slot134 : slotSize Tryz.prog 134 = 0 := by kernel_rfl
attribute [simp] Tryz.underlying134
@[simp] theorem zero134 : zeroV Tryz.prog 134 = some (.nilx 1) := by kernel_rfl
@[simp] theorem inf135 : Tryz.prog.info? 135 = some Tryz.t135 := by kernel_rfl
@[simp] theorem tsz135 : Tryz.t135.size = 1 := by kernel_rfl
@[simp] theorem tby135 : Tryz.t135.bytes = 8 := by kernel_rfl
@[simp] theorem agg135 : aggT Tryz.prog 135 = some false := by kernel_rfl
@[simp] theorem slot135 : slotSize Tryz.prog 135 = 0 := by kernel_rfl
attribute [simp] Tryz.underlying135
@[simp] theorem zero135 : zeroV Tryz.prog 135 = some (.nilx 1) := by kernel_rfl
@[simp] theorem inf137 : Tryz.prog.info? 137 = some Tryz.t137 := by kernel_rfl
@[simp] theorem tsz137 : Tryz.t137.size = 1 := by kernel_rfl
@[simp] theorem tby137 : Tryz.t137.bytes = 8 := by kernel_rfl
@[simp] theorem agg137 : aggT Tryz.prog 137 = some false := by kernel_rfl
@[simp] theorem slot137 : slotSize Tryz.prog 137 = 0 := by kernel_rfl
attribute [simp] Tryz.underlying137
@[simp] theorem zero137 : zeroV Tryz.prog 137 = some (.nilx 1) := by kernel_rfl
@[simp] theorem inf138 : Tryz.prog.info? 138 = some Tryz.t138 := by kernel_rfl
@[simp] theorem tsz138 : Tryz.t138.size = 1 := by kernel_rfl
@[simp] theorem tby138 : Tryz.t138.bytes = 8 := by kernel_rfl
@[simp] theorem agg138 : aggT Tryz.prog 138 = some false := by kernel_rfl
@[simp] theorem slot138 : slotSize Tryz.prog 138 = 0 := by kernel_rfl
attribute [simp] Tryz.underlying138
@[simp] theorem zero138 : zeroV Tryz.prog 138 = some (.nilx 1) := by kernel_rfl
@[simp] theorem inf139 : Tryz.prog.info? 139 = some Tryz.t139 := by kernel_rfl
@[simp] theorem tsz139 : Tryz.t139.size = 1 := by kernel_rfl
@[simp] theorem tby139 : Tryz.t139.bytes = 8 := by kernel_rfl
@[simp] theorem agg139 : aggT Tryz.prog 139 = some false := by kernel_rfl
@[simp] theorem slot139 : slotSize Tryz.prog 139 = 0 := by kernel_rfl
attribute [simp] Tryz.underlying139
@[simp] theorem zero139 : zeroV Tryz.prog 139 = some (.nilx 1) := by kernel_rfl
@[simp] theorem inf140 : Tryz.prog.info? 140 = some Tryz.t140 := by kernel_rfl
@[simp] theorem tsz140 : Tryz.t140.size = 1 := by kernel_rfl
@[simp] theorem tby140 : Tryz.t140.bytes = 8 := by kernel_rfl
@[simp] theorem agg140 : aggT Tryz.prog 140 = some false := by kernel_rfl
@[simp] theorem slot140 : slotSize Tryz.prog 140 = 0 := by kernel_rfl
attribute [simp] Tryz.underlying140
@[simp] theorem zero140 : zeroV Tryz.prog 140 = some (.nilx 1) := by kernel_rfl
@[simp] theorem inf141 : Tryz.prog.info? 141 = some Tryz.t141 := by kernel_rfl
@[simp] theorem tsz141 : Tryz.t141.size = 1 := by kernel_rfl
@[simp] theorem tby141 : Tryz.t141.bytes = 24 := by kernel_rfl
@[simp] theorem agg141 : aggT Tryz.prog 141 = some false := by kernel_rfl
@[simp] theorem slot141 : slotSize Tryz.prog 141 = 1 := by kernel_rfl
attribute [simp] Tryz.underlying141
@[simp] theorem zero141 : zeroV Tryz.prog 141 = some .nils := by kernel_rfl
@[simp] theorem elem141 : elemT Tryz.prog 141 = some Tryz.t4 := by kernel_rfl
@[simp] theorem inf142 : Tryz.prog.info? 142 = some Tryz.t142 := by kernel_rfl
@[simp] theorem tsz142 : Tryz.t142.size = 1 := by kernel_rfl
@[simp] theorem tby142 : Tryz.t142.bytes = 8 := by kernel_rfl
@[simp] theorem agg142 : aggT Tryz.prog 142 = some false := by kernel_rfl
@[simp] theorem slot142 : slotSize Tryz.prog 142 = 0 := by kernel_rfl
attribute [simp] Tryz.underlying142
@[simp] theorem zero142 : zeroV Tryz.prog 142 = some (.nilx 1) := by kernel_rfl
@[simp] theorem inf143 : Tryz.prog.info? 143 = some Tryz.t143 := by kernel_rfl
@[simp] theorem tsz143 : Tryz.t143.size = 1 := by kernel_rfl
@[simp] theorem tby143 : Tryz.t143.bytes = 8 := by kernel_rfl
@[simp] theorem agg143 : aggT Tryz.prog 143 = some false := by kernel_rfl
@[simp] theorem slot143 : slotSize Tryz.prog 143 = 0 := by kernel_rfl
attribute [simp] Tryz.underlying143
@[simp] theorem zero143 : zeroV Tryz.prog 143 = some (.int .i64 0) := by kernel_rfl
@[simp] theorem inf145 : Tryz.prog.info? 145 = some Tryz.t145 := by kernel_rfl
@[simp] theorem tsz145 : Tryz.t145.size = 1 := by kernel_rfl
@[simp] theorem tby145 : Tryz.t145.bytes = 8 := by kernel_rfl
@[simp] theorem agg145 : aggT Tryz.prog 145 = some false := by kernel_rfl
@[simp] theorem slot145 : slotSize Tryz.prog 145 = 0 := by kernel_rfl
attribute [simp] Tryz.underlying145
@[simp] theorem zero145 : zeroV Tryz.prog 145 = some (.nilx 1) := by kernel_rfl
@[simp] theorem inf146 : Tryz.prog.info? 146 = some Tryz.t146 := by kernel_rfl
@[simp] theorem tsz146 : Tryz.t146.size = 1 := by kernel_rfl
@[simp] theorem tby146 : Tryz.t146.bytes = 8 := by kernel_rfl
@[simp] theorem agg146 : aggT Tryz.prog 146 = some false := by kernel_rfl
@[simp] theorem slot146 : slotSize Tryz.prog 146 = 0 := by kernel_rfl
attribute [simp] Tryz.underlying146
@[simp] theorem zero146 : zeroV Tryz.prog 146 = some (.nilx 1) := by kernel_rfl
@[simp] theorem inf147 : Tryz.prog.info? 147 = some Tryz.t147 := by kernel_rfl
@[simp] theorem tsz147 : Tryz.t147.size = 1 := by kernel_rfl
@[simp] theorem tby147 : Tryz.t147.bytes = 8 := by kernel_rfl
@[simp] theorem agg147 : aggT Tryz.prog 147 = some false := by kernel_rfl
@[simp] theorem slot147 : slotSize Tryz.prog 147 = 0 := by kernel_rfl
attribute [simp] Tryz.underlying147
@[simp] theorem zero147 : zeroV Tryz.prog 147 = some (.nilx 1) := by kernel_rfl
@[simp] theorem inf148 : Tryz.prog.info? 148 = some Tryz.t148 := by kernel_rfl
@[simp] theorem tsz148 : Tryz.t148.size = 1 := by kernel_rfl
@[simp] theorem tby148 : Tryz.t148.bytes = 8 := by kernel_rfl
@[simp] theorem agg148 : aggT Tryz.prog 148 = some false := by kernel_rfl
@[simp] theorem slot148 : slotSize Tryz.prog 148 = 0 := by kernel_rfl
attribute [simp] Tryz.underlying148
@[simp] theorem zero148 : zeroV Tryz.prog 148 = some (.nilx 1) := by kernel_rfl
@[simp] theorem inf149 : Tryz.prog.info? 149 = some Tryz.t149 := by kernel_rfl
@[simp] theorem tsz149 : Tryz.t149.size = 1 := by kernel_rfl
@[simp] theorem tby149 : Tryz.t149.bytes = 8 := by kernel_rfl
@[simp] theorem agg149 : aggT Tryz.prog 149 = some false := by kernel_rfl
@[simp] theorem slot149 : slotSize Tryz.prog 149 = 0 := by kernel_rfl
attribute [simp] Tryz.underlying149
@[simp] theorem zero149 : zeroV Tryz.prog 149 = some (.nilx 1) := by kernel_rfl
@[simp] theorem inf150 : Tryz.prog.info? 150 = some Tryz.t150 := by kernel_rfl
@[simp] theorem tsz150 : Tryz.t150.size = 1 := by kernel_rfl
@[simp] theorem tby150 : Tryz.t150.bytes = 4 := by kernel_rfl
@[simp] theorem agg150 : aggT Tryz.prog 150 = some false := by kernel_rfl
@[simp] theorem slot150 : slotSize Tryz.prog 150 = 0 := by kernel_rfl
attribute [simp] Tryz.underlying150
@[simp] theorem zero150 : zeroV Tryz.prog 150 = some (.int .u32 0) := by kernel_rfl
@[simp] theorem inf151 : Tryz.prog.info? 151 = some Tryz.t151 := by kernel_rfl
@[simp] theorem tsz151 : Tryz.t151.size = 1 := by kernel_rfl
@[simp] theorem tby151 : Tryz.t151.bytes = 8 := by kernel_rfl
@[simp] theorem agg151 : aggT Tryz.prog 151 = some false := by kernel_rfl
@[simp] theorem slot151 : slotSize Tryz.prog 151 = 0 := by kernel_rfl
attribute [simp] Tryz.underlying151
@[simp] theorem zero151 : zeroV Tryz.prog 151 = some (.nilx 1) := by kernel_rfl
@[simp] theorem inf152 : Tryz.prog.info? 152 = some Tryz.t152 := by kernel_rfl
@[simp] theorem tsz152 : Tryz.t152.size = 1 := by kernel_rfl
@[simp] theorem tby152 : Tryz.t152.bytes = 8 := by kernel_rfl
@[simp] theorem agg152 : aggT Tryz.prog 152 = some false := by kernel_rfl
@[simp] theorem slot152 : slotSize Tryz.prog 152 = 0 := by kernel_rfl
attribute [simp] Tryz.underlying152
@[simp] theorem zero152 : zeroV Tryz.prog 152 = some (.int .u64 0) := by kernel_rfl
@[simp] theorem inf154 : Tryz.prog.info? 154 = some Tryz.t154 := by kernel_rfl
@[simp] theorem tsz154 : Tryz.t154.size = 1 := by kernel_rfl
@[simp] theorem tby154 : Tryz.t154.bytes = 8 := by kernel_rfl
@[simp] theorem agg154 : aggT Tryz.prog 154 = some false := by kernel_rfl
@[simp] theorem slot154 : slotSize Tryz.prog 154 = 0 := by kernel_rfl
attribute [simp] Tryz.underlying154
@[simp] theorem zero154 : zeroV Tryz.prog 154 = some (.nilx 1) := by kernel_rfl
@[simp] theorem inf156 : Tryz.prog.info? 156 = some Tryz.t156 := by kernel_rfl
@[simp] theorem tsz156 : Tryz.t156.size = 1 := by kernel_rfl
@[simp] theorem tby156 : Tryz.t156.bytes = 8 := by kernel_rfl
@[simp] theorem agg156 : aggT Tryz.prog 156 = some false := by kernel_rfl
@[simp] theorem slot156 : slotSize Tryz.prog 156 = 0 := by kernel_rfl
attribute [simp] Tryz.underlying156
@[simp] theorem zero156 : zeroV Tryz.prog 156 = some (.nilx 1) := by kernel_rfl
attribute [simp] Tryz.underlying157
@[simp] theorem inf158 : Tryz.prog.info? 158 = some Tryz.t158 := by kernel_rfl
@[simp] theorem tsz158 : Tryz.t158.size = 9 := by kernel_rfl
@[simp] theorem tby158 : Tryz.t158.bytes = 56 := by kernel_rfl
@[simp] theorem agg158 : aggT Tryz.prog 158 = some true := by kernel_rfl
@[simp] theorem slot158 : slotSize Tryz.prog 158 = 0 := by kernel_rfl
attribute [simp] Tryz.underlying158
@[simp] theorem zero158 : zeroV Tryz.prog 158 = some (.agg [(.bool false), (.bool false), (.bool false), (.int .i64 0), (.bool false), (.bool false), (.int .i64 0), (.int .i64 0), (.str [])]) := by kernel_rfl
@[simp] theorem slots158 : slotSizes Tryz.prog 158 = [0, 0, 0, 0, 0, 0, 0, 0, 0] := by kernel_rfl
noncomputable def F158_0 : Field := (fieldOf Tryz.prog 158 0).getD default
@[simp] theorem fo158_0 : fieldOf Tryz.prog 158 0 = some F158_0 := by kernel_rfl
@[simp] theorem ft158_0 : F158_0.type = 4 := by kernel_rfl
@[simp] theorem fx158_0 : F158_0.offset = 0 := by kernel_rfl
noncomputable def F158_1 : Field := (fieldOf Tryz.prog 158 1).getD default
@[simp] theorem fo158_1 : fieldOf Tryz.prog 158 1 = some F158_1 := by kernel_rfl
@[simp] theorem ft158_1 : F158_1.type = 4 := by kernel_rfl
@[simp] theorem fx158_1 : F158_1.offset = 1 := by kernel_rfl
noncomputable def F158_2 : Field := (fieldOf Tryz.prog 158 2).getD default
@[simp] theorem fo158_2 : fieldOf Tryz.prog 158 2 = some F158_2 := by kernel_rfl
@[simp] theorem ft158_2 : F158_2.type = 4 := by kernel_rfl
@[simp] theorem fx158_2 : F158_2.offset = 2 := by kernel_rfl
noncomputable def F158_3 : Field := (fieldOf Tryz.prog 158 3).getD default
@[simp] theorem fo158_3 : fieldOf Tryz.prog 158 3 = some F158_3 := by kernel_rfl
@[simp] theorem ft158_3 : F158_3.type = 3 := by kernel_rfl
@[simp] theorem fx158_3 : F158_3.offset = 3 := by kernel_rfl
noncomputable def F158_4 : Field := (fieldOf Tryz.prog 158 4).getD default
@[simp] theorem fo158_4 : fieldOf Tryz.prog 158 4 = some F158_4 := by kernel_rfl
@[simp] theorem ft158_4 : F158_4.type = 4 := by kernel_rfl
@[simp] theorem fx158_4 : F158_4.offset = 4 := by kernel_rfl
noncomputable def F158_5 : Field := (fieldOf Tryz.prog 158 5).getD default
@[simp] theorem fo158_5 : fieldOf Tryz.prog 158 5 = some F158_5 := by kernel_rfl
@[simp] theorem ft158_5 : F158_5.type = 4 := by kernel_rfl
@[simp] theorem fx158_5 : F158_5.offset = 5 := by kernel_rfl
noncomputable def F158_6 : Field := (fieldOf Tryz.prog 158 6).getD default
@[simp] theorem fo158_6 : fieldOf Tryz.prog 158 6 = some F158_6 := by kernel_rfl
@[simp] theorem ft158_6 : F158_6.type = 3 := by kernel_rfl
@[simp] theorem fx158_6 : F158_6.offset = 6 := by kernel_rfl
noncomputable def F158_7 : Field := (fieldOf Tryz.prog 158 7).getD default
@[simp] theorem fo158_7 : fieldOf Tryz.prog 158 7 = some F158_7 := by kernel_rfl
@[simp] theorem ft158_7 : F158_7.type = 3 := by kernel_rfl
@[simp] theorem fx158_7 : F158_7.offset = 7 := by kernel_rfl
noncomputable def F158_8 : Field := (fieldOf Tryz.prog 158 8).getD default
@[simp] theorem fo158_8 : fieldOf Tryz.prog 158 8 = some F158_8 := by kernel_rfl
@[simp] theorem ft158_8 : F158_8.type = 9 := by kernel_rfl
@[simp] theorem fx158_8 : F158_8.offset = 8 := by kernel_rfl
@[simp] theorem inf159 : Tryz.prog.info? 159 = some Tryz.t159 := by kernel_rfl
@[simp] theorem tsz159 : Tryz.t159.size = 1 := by kernel_rfl
@[simp] theorem tby159 : Tryz.t159.bytes = 8 := by kernel_rfl
@[simp] theorem agg159 : aggT Tryz.prog 159 = some false := by kernel_rfl
@[simp] theorem slot159 : slotSize Tryz.prog 159 = 0 := by kernel_rfl
attribute [simp] Tryz.underlying159
@[simp] theorem zero159 : zeroV Tryz.prog 159 = some (.nilx 1) := by kernel_rfl
@[simp] theorem inf160 : Tryz.prog.info? 160 = some Tryz.t160 := by kernel_rfl
@[simp] theorem tsz160 : Tryz.t160.size = 1 := by kernel_rfl
@[simp] theorem tby160 : Tryz.t160.bytes = 8 := by kernel_rfl
@[simp] theorem agg160 : aggT Tryz.prog 160 = some false := by kernel_rfl
@[simp] theorem slot160 : slotSize Tryz.prog 160 = 0 := by kernel_rfl
attribute [simp] Tryz.underlying160
@[simp] theorem zero160 : zeroV Tryz.prog 160 = some (.int .u64 0) := by kernel_rfl
@[simp] theorem inf161 : Tryz.prog.info? 161 = some Tryz.t161 := by kernel_rfl
@[simp] theorem tsz161 : Tryz.t161.size = 1 := by kernel_rfl
@[simp] theorem tby161 : Tryz.t161.bytes = 8 := by kernel_rfl
@[simp] theorem agg161 : aggT Tryz.prog 161 = some false := by kernel_rfl
@[simp] theorem slot161 : slotSize Tryz.prog 161 = 0 := by kernel_rfl
attribute [simp] Tryz.underlying161
@[simp] theorem zero161 : zeroV Tryz.prog 161 = some (.nilx 1) := by kernel_rfl
@[simp] theorem inf162 : Tryz.prog.info? 162 = some Tryz.t162 := by kernel_rfl
@[simp] theorem tsz162 : Tryz.t162.size = 1 := by kernel_rfl
@[simp] theorem tby162 : Tryz.t162.bytes = 8 := by kernel_rfl
@[simp] theorem agg162 : aggT Tryz.prog 162 = some false := by kernel_rfl
@[simp] theorem slot162 : slotSize Tryz.prog 162 = 0 := by kernel_rfl
attribute [simp] Tryz.underlying162
@[simp] theorem zero162 : zeroV Tryz.prog 162 = some (.nilx 1) := by kernel_rfl
@[simp] theorem inf163 : Tryz.prog.info? 163 = some Tryz.t163 := by kernel_rfl
@[simp] theorem tsz163 : Tryz.t163.size = 1 := by kernel_rfl
@[simp] theorem tby163 : Tryz.t163.bytes = 8 := by kernel_rfl
@[simp] theorem agg163 : aggT Tryz.prog 163 = some false := by kernel_rfl
@[simp] theorem slot163 : slotSize Tryz.prog 163 = 0 := by kernel_rfl
attribute [simp] Tryz.underlying163
@[simp] theorem zero163 : zeroV Tryz.prog 163 = some (.nilx 1) := by kernel_rfl
@[simp] theorem inf164 : Tryz.prog.info? 164 = some Tryz.t164 := by kernel_rfl
@[simp] theorem tsz164 : Tryz.t164.size = 1 := by kernel_rfl
@[simp] theorem tby164 : Tryz.t164.bytes = 8 := by kernel_rfl
@[simp] theorem agg164 : aggT Tryz.prog 164 = some false := by kernel_rfl
@[simp] theorem slot164 : slotSize Tryz.prog 164 = 0 := by kernel_rfl
attribute [simp] Tryz.underlying164
@[simp] theorem zero164 : zeroV Tryz.prog 164 = some (.nilx 0) := by kernel_rfl
@[simp] theorem inf165 : Tryz.prog.info? 165 = some Tryz.t165 := by kernel_rfl
@[simp] theorem tsz165 : Tryz.t165.size = 1 := by kernel_rfl
@[simp] theorem tby165 : Tryz.t165.bytes = 8 := by kernel_rfl
@[simp] theorem agg165 : aggT Tryz.prog 165 = some false := by kernel_rfl
@[simp] theorem slot165 : slotSize Tryz.prog 165 = 0 := by kernel_rfl
attribute [simp] Tryz.underlying165
@[simp] theorem zero165 : zeroV Tryz.prog 165 = some (.nilx 1) := by kernel_rfl
@[simp] theorem inf166 : Tryz.prog.info? 166 = some Tryz.t166 := by kernel_rfl
@[simp] theorem tsz166 : Tryz.t166.size = 1 := by kernel_rfl
@[simp] theorem tby166 : Tryz.t166.bytes = 8 := by kernel_rfl
@[simp] theorem agg166 : aggT Tryz.prog 166 = some false := by kernel_rfl
@[simp] theorem slot166 : slotSize Tryz.prog 166 = 0 := by kernel_rfl
attribute [simp] Tryz.underlying166
@[simp] theorem zero166 : zeroV Tryz.prog 166 = some (.nilx 1) := by kernel_rfl
@[simp] theorem inf167 : Tryz.prog.info? 167 = some Tryz.t167 := by kernel_rfl
@[simp] theorem tsz167 : Tryz.t167.size = 1 := by kernel_rfl
@[simp] theorem tby167 : Tryz.t167.bytes = 8 := by kernel_rfl
@[simp] theorem agg167 : aggT Tryz.prog 167 = some false := by kernel_rfl
@[simp] theorem slot167 : slotSize Tryz.prog 167 = 0 := by kernel_rfl
attribute [simp] Tryz.underlying167
@[simp] theorem zero167 : zeroV Tryz.prog 167 = some (.nilx 0) := by kernel_rfl
@[simp] theorem inf169 : Tryz.prog.info? 169 = some Tryz.t169 := by kernel_rfl
@[simp] theorem tsz169 : Tryz.t169.size = 1 := by kernel_rfl
@[simp] theorem tby169 : Tryz.t169.bytes = 8 := by kernel_rfl
@[simp] theorem agg169 : aggT Tryz.prog 169 = some false := by kernel_rfl
@[simp] theorem slot169 : slotSize Tryz.prog 169 = 0 := by kernel_rfl
attribute [simp] Tryz.underlying169
@[simp] theorem zero169 : zeroV Tryz.prog 169 = some (.nilx 1) := by kernel_rfl
attribute [simp] Tryz.underlying170
@[simp] theorem inf171 : Tryz.prog.info? 171 = some Tryz.t171 := by kernel_rfl
@[simp] theorem tsz171 : Tryz.t171.size = 4 := by kernel_rfl
@[simp] theorem tby171 : Tryz.t171.bytes = 40 := by kernel_rfl
@[simp] theorem agg171 : aggT Tryz.prog 171 = some true := by kernel_rfl
@[simp] theorem slot171 : slotSize Tryz.prog 171 = 0 := by kernel_rfl
attribute [simp] Tryz.underlying171
@[simp] theorem zero171 : zeroV Tryz.prog 171 = some (.agg [(.nilx 0), (.nilx 0), (.nilx 0), (.str [])]) := by kernel_rfl
@[simp] theorem slots171 : slotSizes Tryz.prog 171 = [0, 0, 0, 0] := by kernel_rfl
noncomputable def F171_0 : Field := (fieldOf Tryz.prog 171 0).getD default
@[simp] theorem fo171_0 : fieldOf Tryz.prog 171 0 = some F171_0 := by kernel_rfl
@[simp] theorem ft171_0 : F171_0.type = 17 := by kernel_rfl
@[simp] theorem fx171_0 : F171_0.offset = 0 := by kernel_rfl
noncomputable def F171_1 : Field := (fieldOf Tryz.prog 171 1).getD default
@[simp] theorem fo171_1 : fieldOf Tryz.prog 171 1 = some F171_1 := by kernel_rfl
@[simp] theorem ft171_1 : F171_1.type = 17 := by kernel_rfl
@[simp] theorem fx171_1 : F171_1.offset = 1 := by kernel_rfl
noncomputable def F171_2 : Field := (fieldOf Tryz.prog 171 2).getD default
@[simp] theorem fo171_2 : fieldOf Tryz.prog 171 2 = some F171_2 := by kernel_rfl
@[simp] theorem ft171_2 : F171_2.type = 17 := by kernel_rfl
@[simp] theorem fx171_2 : F171_2.offset = 2 := by kernel_rfl
noncomputable def F171_3 : Field := (fieldOf Tryz.prog 171 3).getD default
@[simp] theorem fo171_3 : fieldOf Tryz.prog 171 3 = some F171_3 := by kernel_rfl
@[simp] theorem ft171_3 : F171_3.type = 9 := by kernel_rfl
@[simp] theorem fx171_3 : F171_3.offset = 3 := by kernel_rfl
@[simp] theorem inf172 : Tryz.prog.info? 172 = some Tryz.t172 := by kernel_rfl
@[simp] theorem tsz172 : Tryz.t172.size = 0 := by kernel_rfl
@[simp] theorem tby172 : Tryz.t172.bytes = 0 := by kernel_rfl
@[simp] theorem agg172 : aggT Tryz.prog 172 = some true := by kernel_rfl
@[simp] theorem slot172 : slotSize Tryz.prog 172 = 0 := by kernel_rfl
attribute [simp] Tryz.underlying172
@[simp] theorem zero172 : zeroV Tryz.prog 172 = some (.agg []) := by kernel_rfl
attribute [simp] Tryz.underlying173
@[simp] theorem inf174 : Tryz.prog.info? 174 = some Tryz.t174 := by kernel_rfl
@[simp] theorem tsz174 : Tryz.t174.size = 0 := by kernel_rfl
@[simp] theorem tby174 : Tryz.t174.bytes = 0 := by kernel_rfl
@[simp] theorem agg174 : aggT Tryz.prog 174 = some true := by kernel_rfl
@[simp] theorem slot174 : slotSize Tryz.prog 174 = 0 := by kernel_rfl
attribute [simp] Tryz.underlying174
@[simp] theorem zero174 : zeroV Tryz.prog 174 = some (.agg []) := by kernel_rfl
@[simp] theorem slots174 : slotSizes Tryz.prog 174 = [] := by kernel_rfl
noncomputable def F174_0 : Field := (fieldOf Tryz.prog 174 0).getD default
@[simp] theorem fo174_0 : fieldOf Tryz.prog 174 0 = some F174_0 := by kernel_rfl
@[simp] theorem ft174_0 : F174_0.type = 172 := by kernel_rfl
@[simp] theorem fx174_0 : F174_0.offset = 0 := by kernel_rfl
@[simp] theorem inf175 : Tryz.prog.info? 175 = some Tryz.t175 := by kernel_rfl
@[simp] theorem tsz175 : Tryz.t175.size = 1 := by kernel_rfl
@[simp] theorem tby175 : Tryz.t175.bytes = 1 := by kernel_rfl
@[simp] theorem agg175 : aggT Tryz.prog 175 = some false := by kernel_rfl
@[simp] theorem slot175 : slotSize Tryz.prog 175 = 0 := by kernel_rfl
attribute [simp] Tryz.underlying175
@[simp] theorem zero175 : zeroV Tryz.prog 175 = some (.int .u8 0) := by kernel_rfl
@[simp] theorem inf176 : Tryz.prog.info? 176 = some Tryz.t176 := by kernel_rfl
@[simp] theorem tsz176 : Tryz.t176.size = 1 := by kernel_rfl
@[simp] theorem tby176 : Tryz.t176.bytes = 1 := by kernel_rfl
@[simp] theorem agg176 : aggT Tryz.prog 176 = some false := by kernel_rfl
@[simp] theorem slot176 : slotSize Tryz.prog 176 = 0 := by kernel_rfl
attribute [simp] Tryz.underlying176
@[simp] theorem zero176 : zeroV Tryz.prog 176 = some (.int .u8 0) := by kernel_rfl
@[simp] theorem inf177 : Tryz.prog.info? 177 = some Tryz.t177 := by kernel_rfl
@[simp] theorem tsz177 : Tryz.t177.size = 1 := by kernel_rfl
@[simp] theorem tby177 : Tryz.t177.bytes = 8 := by kernel_rfl
@[simp] theorem agg177 : aggT Tryz.prog 177 = some false := by kernel_rfl
@[simp] theorem slot177 : slotSize Tryz.prog 177 = 0 := by kernel_rfl
attribute [simp] Tryz.underlying177
@[simp] theorem zero177 : zeroV Tryz.prog 177 = some (.nilx 1) := by kernel_rfl
@[simp] theorem inf178 : Tryz.prog.info? 178 = some Tryz.t178 := by kernel_rfl
@[simp] theorem tsz178 : Tryz.t178.size = 1 := by kernel_rfl
@[simp] theorem tby178 : Tryz.t178.bytes = 4 := by kernel_rfl
@[simp] theorem agg178 : aggT Tryz.prog 178 = some false := by kernel_rfl
@[simp] theorem slot178 : slotSize Tryz.prog 178 = 0 := by kernel_rfl
attribute [simp] Tryz.underlying178
@[simp] theorem zero178 : zeroV Tryz.prog 178 = some (.int .i32 0) := by kernel_rfl
@[simp] theorem inf179 : Tryz.prog.info? 179 = some Tryz.t179 := by kernel_rfl
@[simp] theorem tsz179 : Tryz.t179.size = 1 := by kernel_rfl
@[simp] theorem tby179 : Tryz.t179.bytes = 4 := by kernel_rfl
@[simp] theorem agg179 : aggT Tryz.prog 179 = some false := by kernel_rfl
@[simp] theorem slot179 : slotSize Tryz.prog 179 = 0 := by kernel_rfl
attribute [simp] Tryz.underlying179
@[simp] theorem zero179 : zeroV Tryz.prog 179 = some (.int .i32 0) := by kernel_rfl
attribute [simp] Tryz.underlying180
@[simp] theorem inf181 : Tryz.prog.info? 181 = some Tryz.t181 := by kernel_rfl
@[simp] theorem tsz181 : Tryz.t181.size = 11 := by kernel_rfl
@[simp] theorem tby181 : Tryz.t181.bytes = 48 := by kernel_rfl
@[simp] theorem agg181 : aggT Tryz.prog 181 = some true := by kernel_rfl
@[simp] theorem slot181 : slotSize Tryz.prog 181 = 0 := by kernel_rfl
attribute [simp] Tryz.underlying181
@[simp] theorem zero181 : zeroV Tryz.prog 181 = some (.agg [(.int .u64 0), (.int .u64 0), (.int .u32 0), (.int .u8 0), (.int .u8 0), (.int .u8 0), (.int .u8 0), (.nilx 1), (.nilx 0), (.int .i32 0), (.int .i32 0)]) := by kernel_rfl
@[simp] theorem slots181 : slotSizes Tryz.prog 181 = [0, 0, 0, 0, 0, 0, 0, 0, 0, 0, 0] := by kernel_rfl
noncomputable def F181_0 : Field := (fieldOf Tryz.prog 181 0).getD default
@[simp] theorem fo181_0 : fieldOf Tryz.prog 181 0 = some F181_0 := by kernel_rfl
@[simp] theorem ft181_0 : F181_0.type = 12 := by kernel_rfl
@[simp] theorem fx181_0 : F181_0.offset = 0 := by kernel_rfl
noncomputable def F181_1 : Field := (fieldOf Tryz.prog 181 1).getD default
@[simp] theorem fo181_1 : fieldOf Tryz.prog 181 1 = some F181_1 := by kernel_rfl
@[simp] theorem ft181_1 : F181_1.type = 12 := by kernel_rfl
@[simp] theorem fx181_1 : F181_1.offset = 1 := by kernel_rfl
noncomputable def F181_2 : Field := (fieldOf Tryz.prog 181 2).getD default
@[simp] theorem fo181_2 : fieldOf Tryz.prog 181 2 = some F181_2 := by kernel_rfl
@[simp] theorem ft181_2 : F181_2.type = 150 := by kernel_rfl
@[simp] theorem fx181_2 : F181_2.offset = 2 := by kernel_rfl
noncomputable def F181_3 : Field := (fieldOf Tryz.prog 181 3).getD default
@[simp] theorem fo181_3 : fieldOf Tryz.prog 181 3 = some F181_3 := by kernel_rfl
@[simp] theorem ft181_3 : F181_3.type = 175 := by kernel_rfl
@[simp] theorem fx181_3 : F181_3.offset = 3 := by kernel_rfl
noncomputable def F181_4 : Field := (fieldOf Tryz.prog 181 4).getD default
@[simp] theorem fo181_4 : fieldOf Tryz.prog 181 4 = some F181_4 := by kernel_rfl
@[simp] theorem ft181_4 : F181_4.type = 5 := by kernel_rfl
@[simp] theorem fx181_4 : F181_4.offset = 4 := by kernel_rfl
noncomputable def F181_5 : Field := (fieldOf Tryz.prog 181 5).getD default
@[simp] theorem fo181_5 : fieldOf Tryz.prog 181 5 = some F181_5 := by kernel_rfl
@[simp] theorem ft181_5 : F181_5.type = 5 := by kernel_rfl
@[simp] theorem fx181_5 : F181_5.offset = 5 := by kernel_rfl
noncomputable def F181_6 : Field := (fieldOf Tryz.prog 181 6).getD default
@[simp] theorem fo181_6 : fieldOf Tryz.prog 181 6 = some F181_6 := by kernel_rfl
@[simp] theorem ft181_6 : F181_6.type = 176 := by kernel_rfl
@[simp] theorem fx181_6 : F181_6.offset = 6 := by kernel_rfl
noncomputable def F181_7 : Field := (fieldOf Tryz.prog 181 7).getD default
@[simp] theorem fo181_7 : fieldOf Tryz.prog 181 7 = some F181_7 := by kernel_rfl
@[simp] theorem ft181_7 : F181_7.type = 177 := by kernel_rfl
@[simp] theorem fx181_7 : F181_7.offset = 7 := by kernel_rfl
noncomputable def F181_8 : Field := (fieldOf Tryz.prog 181 8).getD default
@[simp] theorem fo181_8 : fieldOf Tryz.prog 181 8 = some F181_8 := by kernel_rfl
@[simp] theorem ft181_8 : F181_8.type = 120 := by kernel_rfl
@[simp] theorem fx181_8 : F181_8.offset = 8 := by kernel_rfl
noncomputable def F181_9 : Field := (fieldOf Tryz.prog 181 9).getD default
@[simp] theorem fo181_9 : fieldOf Tryz.prog 181 9 = some F181_9 := by kernel_rfl
@[simp] theorem ft181_9 : F181_9.type = 178 := by kernel_rfl
@[simp] theorem fx181_9 : F181_9.offset = 9 := by kernel_rfl
noncomputable def F181_10 : Field := (fieldOf Tryz.prog 181 10).getD default
@[simp] theorem fo181_10 : fieldOf Tryz.prog 181 10 = some F181_10 := by kernel_rfl
@[simp] theorem ft181_10 : F181_10.type = 179 := by kernel_rfl
@[simp] theorem fx181_10 : F181_10.offset = 10 := by kernel_rfl
attribute [simp] Tryz.underlying182
@[simp] theorem inf183 : Tryz.prog.info? 183 = some Tryz.t183 := by kernel_rfl
@[simp] theorem tsz183 : Tryz.t183.size = 4 := by kernel_rfl
@[simp] theorem tby183 : Tryz.t183.bytes = 64 := by kernel_rfl
@[simp] theorem agg183 : aggT Tryz.prog 183 = some true := by kernel_rfl
@[simp] theorem slot183 : slotSize Tryz.prog 183 = 0 := by kernel_rfl
attribute [simp] Tryz.underlying183
@[simp] theorem zero183 : zeroV Tryz.prog 183 = some (.agg [(.bool false), (.str []), .nils, (.str [])]) := by kernel_rfl
@[simp] theorem slots183 : slotSizes Tryz.prog 183 = [0, 0, 1, 0] := by kernel_rfl
noncomputable def F183_0 : Field := (fieldOf Tryz.prog 183 0).getD default
@[simp] theorem fo183_0 : fieldOf Tryz.prog 183 0 = some F183_0 := by kernel_rfl
@[simp] theorem ft183_0 : F183_0.type = 4 := by kernel_rfl
@[simp] theorem fx183_0 : F183_0.offset = 0 := by kernel_rfl
noncomputable def F183_1 : Field := (fieldOf Tryz.prog 183 1).getD default
@[simp] theorem fo183_1 : fieldOf Tryz.prog 183 1 = some F183_1 := by kernel_rfl
@[simp] theorem ft183_1 : F183_1.type = 9 := by kernel_rfl
@[simp] theorem fx183_1 : F183_1.offset = 1 := by kernel_rfl
noncomputable def F183_2 : Field := (fieldOf Tryz.prog 183 2).getD default
@[simp] theorem fo183_2 : fieldOf Tryz.prog 183 2 = some F183_2 := by kernel_rfl
@[simp] theorem ft183_2 : F183_2.type = 36 := by kernel_rfl
@[simp] theorem fx183_2 : F183_2.offset = 2 := by kernel_rfl
noncomputable def F183_3 : Field := (fieldOf Tryz.prog 183 3).getD default
@[simp] theorem fo183_3 : fieldOf Tryz.prog 183 3 = some F183_3 := by kernel_rfl
@[simp] theorem ft183_3 : F183_3.type = 9 := by kernel_rfl
@[simp] theorem fx183_3 : F183_3.offset = 3 := by kernel_rfl
-- T 0 ()
-- T 1 func()
-- T 2 int64
-- T 3 int
-- T 4 bool
-- T 5 uint8
-- T 6 abi.BoundsErrorCode
-- T 7 struct { x int64; y int; signed bool; code abi.BoundsErrorCode }
-- T 8 runtime.boundsError
-- T 9 string
-- T 10 runtime.errorString
-- T 11 runtime.plainError
-- T 12 uintptr
-- T 13 struct { msg string; addr uintptr }
-- T 14 runtime.errorAddressString
-- T 15 *runtime.TypeAssertionError
-- T 16 *runtime.PanicNilError
-- T 17 *abi.Type
-- T 18 struct { typ *abi.Type }
-- T 19 maps.unhashableTypeError
-- T 20 interface {}
-- T 21 int32
-- T 22 [6]int
-- T 23 [2]int
-- T 24 struct { R [6]int; SP [2]int; PC int; PSW int }
-- T 25 api.Cpu
-- T 26 []int
-- T 27 struct { Base int; Length int; Access int; Written bool }
-- T 28 api.Page
-- T 29 [8]api.Page
-- T 30 [2][8]api.Page
-- T 31 struct { On bool; Pages [2][8]api.Page; Status int; Addr int }
-- T 32 api.Mmu
-- T 33 struct { Enable bool; Ready bool; Period int; Left int }
-- T 34 api.Clock
-- T 35 []api.Line
-- T 36 []string
-- T 37 struct { Sectors []string; Bad []int }
-- T 38 api.Drive
-- T 39 struct { Drive api.Drive; Enable bool; Ready bool; Error bool; Command int; Words int; Addr int; Start int; Left int }
-- T 40 api.Disk
-- T 41 struct { Records []string; Pos int; Enable bool; Ready bool; Error bool; Mark bool; End bool; Command int; Count int; Addr int; Left int }
-- T 42 api.Tape
-- T 43 struct { Cpu api.Cpu; Mem []int; Bad []int; Mmu api.Mmu; Clock api.Clock; Lines []api.Line; Disk api.Disk; Tape api.Tape; Now int; Halted bool; Waiting bool; Power int; PowerTrap bool }
-- T 44 api.Machine
-- T 45 [8]int
-- T 46 struct { Pid int; Parent int; State int; Cpu api.Cpu; Base int; Blocks int; Swapped bool; Fds [8]int; Dir int; WaitKind int; WaitId int; Status int; Turn int }
-- T 47 api.Proc
-- T 48 [8]api.Proc
-- T 49 struct { Kind int; Id int; Read bool; Write bool; Offset int; Refs int }
-- T 50 api.Open
-- T 51 [24]api.Open
-- T 52 struct { Data string; Readers int; Writers int }
-- T 53 api.Pipe
-- T 54 [8]api.Pipe
-- T 55 []api.Tty
-- T 56 struct { Start int; Count int }
-- T 57 api.Extent
-- T 58 struct { Machine api.Machine; Procs [8]api.Proc; Opens [24]api.Open; Pipes [8]api.Pipe; Ttys []api.Tty; Swap api.Extent; Core api.Extent; Next int; Current int; Up bool }
-- T 59 api.System
-- T 60 func(api.System) bool
-- T 61 api.Errno
-- T 62 (api.System, api.Errno)
-- T 63 func(api.System, int) (api.System, api.Errno)
-- T 64 func(api.System, api.System) bool
-- T 65 func() bool
-- T 66 func(api.System, int) bool
-- T 67 func([]int, []int) bool
-- T 68 func(api.Drive) bool
-- T 69 func(api.Extent) bool
-- T 70 func(api.Proc) bool
-- T 71 func([]api.Extent, api.Extent) bool
-- T 72 []api.Extent
-- T 73 func([8]api.Proc) []api.Extent
-- T 74 func(api.System, int, bool) bool
-- T 75 *api.Proc
-- T 76 func(int) int
-- T 77 (int, bool)
-- T 78 func([]api.Extent, api.Extent, int) (int, bool)
-- T 79 (string, api.Errno)
-- T 80 func([]int, int, int) (string, api.Errno)
-- T 81 []api.Write
-- T 82 struct { Sector int; Data string }
-- T 83 api.Write
-- T 84 (api.Drive, int, api.Errno)
-- T 85 func(api.Drive, []api.Write, int) (api.Drive, int, api.Errno)
-- T 86 (api.Drive, api.Errno)
-- T 87 func(api.Drive, int, string) (api.Drive, api.Errno)
-- T 88 func(string, int) string
-- T 89 *strings.Builder
-- T 90 []uint8
-- T 91 struct { addr *strings.Builder; buf []uint8 }
-- T 92 strings.Builder
-- T 93 func(api.Drive, int) (string, api.Errno)
-- T 94 interface { Error() string }
-- T 95 error
-- T 96 (int, error)
-- T 97 func(string) (int, error)
-- T 98 ([]int, api.Errno)
-- T 99 func([]int, int, string) ([]int, api.Errno)
-- T 100 func() string
-- T 101 func([]int, func(int) bool) []int
-- T 102 func([]int) []int
-- T 103 func(int) bool
-- T 104 func([]int, int, int) []int
-- T 105 func(api.Machine, api.Machine) bool
-- T 106 func() api.System
-- T 107 func(api.Extent, api.Extent) bool
-- T 108 func(api.Extent) int
-- T 109 func([]int)
-- T 110 func([]api.Extent, func(api.Extent) bool) bool
-- T 111 func([]int, int, int) bool
-- T 112 func(api.Drive) api.Drive
-- T 113 map[int]bool
-- T 114 func(api.Drive) map[int]bool
-- T 115 func(api.Drive, map[int]bool, api.Write) api.Errno
-- T 116 func([]api.Extent, api.Extent, api.Extent) bool
-- T 117 func([]int, int) int
-- T 118 func(api.Drive, int) bool
-- T 119 func(int) string
-- T 120 *uint8
-- T 121 func([]int, func(int) bool) int
-- T 122 func([]int, int, int)
-- T 123 func(api.Machine, api.Machine) []string
-- T 124 func(int) ([]int, api.Errno)
-- T 125 func(int) (api.Drive, api.Errno)
-- T 126 func([]int, int, int, int)
-- T 127 func(uint) int
-- T 128 uint
-- T 129 func([]api.Extent, func(api.Extent) bool) int
-- T 130 func([]string) []string
-- T 131 (uint, uint)
-- T 132 func(uint, uint) (uint, uint)
-- T 133 func(string, string) bool
-- T 134 func(int)
-- T 135 func() int
-- T 136 unsafe.Pointer
-- T 137 func(unsafe.Pointer) unsafe.Pointer
-- T 138 func([]api.Line, []api.Line) bool
-- T 139 func(api.Disk, api.Disk) bool
-- T 140 func(api.Tape, api.Tape) bool
-- T 141 []bool
-- T 142 func([]string, int) []string
-- T 143 slices.sortedHint
-- T 144 (int, slices.sortedHint)
-- T 145 func([]int, int, int) (int, slices.sortedHint)
-- T 146 func(int, int) bool
-- T 147 func([]int, int, int, int) int
-- T 148 func([]int, int, int, int) (int, bool)
-- T 149 func(uint32) int
-- T 150 uint32
-- T 151 func(uint64) int
-- T 152 uint64
-- T 153 (uint32, uint32)
-- T 154 func(uint32, uint32) (uint32, uint32)
-- T 155 (uint64, uint64)
-- T 156 func(uint64, uint64) (uint64, uint64)
-- T 157 struct { RxEnable bool; RxReady bool; Overrun bool; RxData int; TxEnable bool; TxReady bool; TxData int; TxLeft int; Out string }
-- T 158 api.Line
-- T 159 func([]string, []string) bool
-- T 160 slices.xorshift
-- T 161 func(int) uint
-- T 162 func() uint64
-- T 163 func([]int, int, *int) int
-- T 164 *int
-- T 165 func([]int, int, int, int, *int) int
-- T 166 func(int) []uint8
-- T 167 *slices.xorshift
-- T 168 (int, int)
-- T 169 func([]int, int, int, *int) (int, int)
-- T 170 struct { _interface *abi.Type; concrete *abi.Type; asserted *abi.Type; missingMethod string }
-- T 171 runtime.TypeAssertionError
-- T 172 [0]*runtime.PanicNilError
-- T 173 struct { _ [0]*runtime.PanicNilError }
-- T 174 runtime.PanicNilError
-- T 175 abi.TFlag
-- T 176 abi.Kind
-- T 177 func(unsafe.Pointer, unsafe.Pointer) bool
-- T 178 abi.NameOff
-- T 179 abi.TypeOff
-- T 180 struct { Size_ uintptr; PtrBytes uintptr; Hash uint32; TFlag abi.TFlag; Align_ uint8; FieldAlign_ uint8; Kind_ abi.Kind; Equal func(unsafe.Pointer, unsafe.Pointer) bool; GCData *uint8; Str abi.NameOff; PtrToThis abi.TypeOff }
-- T 181 abi.Type
-- T 182 struct { Raw bool; Typed string; Lines []string; Out string }
-- T 183 api.Tty
-- LOUD [32, 34, 81]
@[simp] theorem k5_6 : DC.keep 5 6 = some [1, 3] := rfl
@[simp] theorem k6_13 : DC.keep 6 13 = some [2, 4, 6, 8, 10, 12, 63, 64] := rfl
@[simp] theorem k7_13 : DC.keep 7 13 = some [1, 2, 4, 6, 7, 8, 10, 12, 13] := rfl
@[simp] theorem k8_9 : DC.keep 8 9 = some [2, 4, 6, 7, 9, 45, 46] := rfl
@[simp] theorem k9_9 : DC.keep 9 9 = some [1, 2, 4, 6, 7, 9, 10] := rfl
@[simp] theorem k12_4 : DC.keep 12 4 = some [0, 1, 5] := rfl
@[simp] theorem k12_9 : DC.keep 12 9 = some [0, 1, 6] := rfl
@[simp] theorem k13_4 : DC.keep 13 4 = some [1, 3] := rfl
@[simp] theorem k13_9 : DC.keep 13 9 = some [1, 4] := rfl
@[simp] theorem k16_2 : DC.keep 16 2 = some [0, 3, 5] := rfl
@[simp] theorem k16_7 : DC.keep 16 7 = some [0, 3, 5, 6] := rfl
@[simp] theorem k17_3 : DC.keep 17 3 = some [1, 3, 4] := rfl
@[simp] theorem k18_3 : DC.keep 18 3 = some [1, 3, 4] := rfl
@[simp] theorem k21_5 : DC.keep 21 5 = some [0, 2, 4, 8, 25, 26, 27] := rfl
@[simp] theorem k21_12 : DC.keep 21 12 = some [0, 2, 4, 42, 43, 44] := rfl
@[simp] theorem k22_3 : DC.keep 22 3 = some [3, 6, 7] := rfl
@[simp] theorem k23_5 : DC.keep 23 5 = some [0, 1, 8, 19, 20] := rfl
@[simp] theorem k24_4 : DC.keep 24 4 = some [1, 2, 3, 6, 9, 17, 18, 19] := rfl
@[simp] theorem k26_5 : DC.keep 26 5 = some [0, 2, 4, 8, 9] := rfl
@[simp] theorem k27_5 : DC.keep 27 5 = some [0, 1, 2, 8, 9] := rfl
@[simp] theorem k30_3 : DC.keep 30 3 = some [3, 6, 7] := rfl
@[simp] theorem k33_5 : DC.keep 33 5 = some [1, 2, 8, 21, 22] := rfl
@[simp] theorem k35_5 : DC.keep 35 5 = some [0, 1, 5, 6] := rfl
@[simp] theorem k39_5 : DC.keep 39 5 = some [1, 2, 8, 9] := rfl
@[simp] theorem k40_3 : DC.keep 40 3 = some [0, 1, 2, 7, 8] := rfl
@[simp] theorem k43_4 : DC.keep 43 4 = some [0, 1, 5] := rfl
@[simp] theorem k44_6 : DC.keep 44 6 = some [1, 50, 51] := rfl
@[simp] theorem k57_3 : DC.keep 57 3 = some [3, 8, 9, 10] := rfl
@[simp] theorem k60_2 : DC.keep 60 2 = some [0, 4, 5, 7] := rfl
@[simp] theorem k63_2 : DC.keep 63 2 = some [1, 2, 5] := rfl
@[simp] theorem k64_3 : DC.keep 64 3 = some [0, 3, 4] := rfl
@[simp] theorem k68_2 : DC.keep 68 2 = some [0, 1, 7, 8] := rfl
@[simp] theorem k70_5 : DC.keep 70 5 = some [5, 6, 7, 8] := rfl
@[simp] theorem k74_2 : DC.keep 74 2 = some [0, 3, 7, 8, 9] := rfl
@[simp] theorem k75_2 : DC.keep 75 2 = some [0, 1, 2, 3, 8, 9] := rfl
@[simp] theorem k77_2 : DC.keep 77 2 = some [0, 1, 7, 8] := rfl
@[simp] theorem k84_4 : DC.keep 84 4 = some [0, 1, 5] := rfl
@[simp] theorem k88_8 : DC.keep 88 8 = some [7, 8] := rfl
@[simp] theorem k90_1 : DC.keep 90 1 = some [0, 1, 2, 6] := rfl
@[simp] theorem k90_4 : DC.keep 90 4 = some [0, 1, 2, 6, 7] := rfl
@[simp] theorem k91_4 : DC.keep 91 4 = some [0, 6, 7, 8, 9] := rfl
@[simp] theorem k91_8 : DC.keep 91 8 = some [0, 6, 7, 10] := rfl
@[simp] theorem k92_5 : DC.keep 92 5 = some [0, 1, 6, 7, 8, 9] := rfl
@[simp] theorem k94_2 : DC.keep 94 2 = some [0, 6, 7] := rfl
@[simp] theorem k95_3 : DC.keep 95 3 = some [0, 1, 2, 7, 8] := rfl
@[simp] theorem k95_5 : DC.keep 95 5 = some [0, 1, 2, 7, 8] := rfl
@[simp] theorem k95_14 : DC.keep 95 14 = some [0, 1, 2, 7, 8, 9] := rfl
@[simp] theorem k95_20 : DC.keep 95 20 = some [0, 1, 2, 7, 8, 10] := rfl
@[simp] theorem k97_3 : DC.keep 97 3 = some [0, 1, 9, 10] := rfl
@[simp] theorem k97_5 : DC.keep 97 5 = some [0, 1, 9, 10] := rfl
@[simp] theorem k98_3 : DC.keep 98 3 = some [0, 1, 10, 11] := rfl
@[simp] theorem k98_5 : DC.keep 98 5 = some [0, 1, 10, 11] := rfl
@[simp] theorem k98_13 : DC.keep 98 13 = some [0, 1, 10, 11] := rfl
@[simp] theorem k98_15 : DC.keep 98 15 = some [0, 1, 10, 11] := rfl
@[simp] theorem k105_4 : DC.keep 105 4 = some [0, 1, 5] := rfl
@[simp] theorem k106_1 : DC.keep 106 1 = some [0, 2, 3, 8] := rfl
@[simp] theorem bldT92 : bldT Tryz.prog 92 = some 5 := by kernel_rfl
end Go.Abs
