/- Proved here: facts of the types. No condition but those that each theorem states. -/
import Derived.Test.YtfgikfagblhkiaaGreatDoorDC
namespace Go.Abs
open Go.Proofs
set_option maxRecDepth 100000
set_option linter.unusedVariables false
set_option linter.unusedSimpArgs false

@[simp] theorem inf1 : Tryz.prog.info? 1 = some Tryz.t1 := by kernel_rfl
@[simp] theorem tsz1 : Tryz.t1.size = 1 := by kernel_rfl
@[simp] theorem tby1 : Tryz.t1.bytes = 8 := by kernel_rfl
@[simp] theorem agg1 : aggT Tryz.prog 1 = some false := by kernel_rfl
@[simp] theorem slot1 : slotSize Tryz.prog 1 = 0 := by kernel_rfl
attribute [simp] Tryz.underlying1
@[simp] theorem zero1 : zeroV Tryz.prog 1 = some (.nilx 1) := by kernel_rfl
@[simp] theorem inf2 : Tryz.prog.info? 2 = some Tryz.t2 := by kernel_rfl
@[simp] theorem tsz2 : Tryz.t2.size = 1 := by kernel_rfl
@[simp] theorem tby2 : Tryz.t2.bytes = 8 := by kernel_rfl
@[simp] theorem agg2 : aggT Tryz.prog 2 = some false := by kernel_rfl
@[simp] theorem slot2 : slotSize Tryz.prog 2 = 0 := by kernel_rfl
attribute [simp] Tryz.underlying2
@[simp] theorem zero2 : zeroV Tryz.prog 2 = some (.int .i64 0) := by kernel_rfl
@[simp] theorem inf3 : Tryz.prog.info? 3 = some Tryz.t3 := by kernel_rfl
@[simp] theorem tsz3 : Tryz.t3.size = 1 := by kernel_rfl
@[simp] theorem tby3 : Tryz.t3.bytes = 8 := by kernel_rfl
@[simp] theorem agg3 : aggT Tryz.prog 3 = some false := by kernel_rfl
@[simp] theorem slot3 : slotSize Tryz.prog 3 = 0 := by kernel_rfl
attribute [simp] Tryz.underlying3
@[simp] theorem zero3 : zeroV Tryz.prog 3 = some (.int .i64 0) := by kernel_rfl
@[simp] theorem inf4 : Tryz.prog.info? 4 = some Tryz.t4 := by kernel_rfl
@[simp] theorem tsz4 : Tryz.t4.size = 1 := by kernel_rfl
@[simp] theorem tby4 : Tryz.t4.bytes = 1 := by kernel_rfl
@[simp] theorem agg4 : aggT Tryz.prog 4 = some false := by kernel_rfl
@[simp] theorem slot4 : slotSize Tryz.prog 4 = 0 := by kernel_rfl
attribute [simp] Tryz.underlying4
@[simp] theorem zero4 : zeroV Tryz.prog 4 = some (.bool false) := by kernel_rfl
@[simp] theorem inf5 : Tryz.prog.info? 5 = some Tryz.t5 := by kernel_rfl
@[simp] theorem tsz5 : Tryz.t5.size = 1 := by kernel_rfl
@[simp] theorem tby5 : Tryz.t5.bytes = 1 := by kernel_rfl
@[simp] theorem agg5 : aggT Tryz.prog 5 = some false := by kernel_rfl
@[simp] theorem slot5 : slotSize Tryz.prog 5 = 0 := by kernel_rfl
attribute [simp] Tryz.underlying5
@[simp] theorem zero5 : zeroV Tryz.prog 5 = some (.int .u8 0) := by kernel_rfl
@[simp] theorem inf6 : Tryz.prog.info? 6 = some Tryz.t6 := by kernel_rfl
@[simp] theorem tsz6 : Tryz.t6.size = 1 := by kernel_rfl
@[simp] theorem tby6 : Tryz.t6.bytes = 1 := by kernel_rfl
@[simp] theorem agg6 : aggT Tryz.prog 6 = some false := by kernel_rfl
@[simp] theorem slot6 : slotSize Tryz.prog 6 = 0 := by kernel_rfl
attribute [simp] Tryz.underlying6
@[simp] theorem zero6 : zeroV Tryz.prog 6 = some (.int .u8 0) := by kernel_rfl
attribute [simp] Tryz.underlying7
@[simp] theorem inf8 : Tryz.prog.info? 8 = some Tryz.t8 := by kernel_rfl
@[simp] theorem tsz8 : Tryz.t8.size = 4 := by kernel_rfl
@[simp] theorem tby8 : Tryz.t8.bytes = 24 := by kernel_rfl
@[simp] theorem agg8 : aggT Tryz.prog 8 = some true := by kernel_rfl
@[simp] theorem slot8 : slotSize Tryz.prog 8 = 0 := by kernel_rfl
attribute [simp] Tryz.underlying8
@[simp] theorem zero8 : zeroV Tryz.prog 8 = some (.agg [(.int .i64 0), (.int .i64 0), (.bool false), (.int .u8 0)]) := by kernel_rfl
@[simp] theorem slots8 : slotSizes Tryz.prog 8 = [0, 0, 0, 0] := by kernel_rfl
noncomputable def F8_0 : Field := (fieldOf Tryz.prog 8 0).getD default
@[simp] theorem fo8_0 : fieldOf Tryz.prog 8 0 = some F8_0 := by kernel_rfl
@[simp] theorem ft8_0 : F8_0.type = 2 := by kernel_rfl
@[simp] theorem fx8_0 : F8_0.offset = 0 := by kernel_rfl
noncomputable def F8_1 : Field := (fieldOf Tryz.prog 8 1).getD default
@[simp] theorem fo8_1 : fieldOf Tryz.prog 8 1 = some F8_1 := by kernel_rfl
@[simp] theorem ft8_1 : F8_1.type = 3 := by kernel_rfl
@[simp] theorem fx8_1 : F8_1.offset = 1 := by kernel_rfl
noncomputable def F8_2 : Field := (fieldOf Tryz.prog 8 2).getD default
@[simp] theorem fo8_2 : fieldOf Tryz.prog 8 2 = some F8_2 := by kernel_rfl
@[simp] theorem ft8_2 : F8_2.type = 4 := by kernel_rfl
@[simp] theorem fx8_2 : F8_2.offset = 2 := by kernel_rfl
noncomputable def F8_3 : Field := (fieldOf Tryz.prog 8 3).getD default
@[simp] theorem fo8_3 : fieldOf Tryz.prog 8 3 = some F8_3 := by kernel_rfl
@[simp] theorem ft8_3 : F8_3.type = 6 := by kernel_rfl
@[simp] theorem fx8_3 : F8_3.offset = 3 := by kernel_rfl
@[simp] theorem inf9 : Tryz.prog.info? 9 = some Tryz.t9 := by kernel_rfl
@[simp] theorem tsz9 : Tryz.t9.size = 1 := by kernel_rfl
@[simp] theorem tby9 : Tryz.t9.bytes = 16 := by kernel_rfl
@[simp] theorem agg9 : aggT Tryz.prog 9 = some false := by kernel_rfl
@[simp] theorem slot9 : slotSize Tryz.prog 9 = 0 := by kernel_rfl
attribute [simp] Tryz.underlying9
@[simp] theorem zero9 : zeroV Tryz.prog 9 = some (.str []) := by kernel_rfl
@[simp] theorem inf10 : Tryz.prog.info? 10 = some Tryz.t10 := by kernel_rfl
@[simp] theorem tsz10 : Tryz.t10.size = 1 := by kernel_rfl
@[simp] theorem tby10 : Tryz.t10.bytes = 16 := by kernel_rfl
@[simp] theorem agg10 : aggT Tryz.prog 10 = some false := by kernel_rfl
@[simp] theorem slot10 : slotSize Tryz.prog 10 = 0 := by kernel_rfl
attribute [simp] Tryz.underlying10
@[simp] theorem zero10 : zeroV Tryz.prog 10 = some (.str []) := by kernel_rfl
@[simp] theorem inf12 : Tryz.prog.info? 12 = some Tryz.t12 := by kernel_rfl
@[simp] theorem tsz12 : Tryz.t12.size = 1 := by kernel_rfl
@[simp] theorem tby12 : Tryz.t12.bytes = 8 := by kernel_rfl
@[simp] theorem agg12 : aggT Tryz.prog 12 = some false := by kernel_rfl
@[simp] theorem slot12 : slotSize Tryz.prog 12 = 0 := by kernel_rfl
attribute [simp] Tryz.underlying12
@[simp] theorem zero12 : zeroV Tryz.prog 12 = some (.int .u64 0) := by kernel_rfl
@[simp] theorem inf14 : Tryz.prog.info? 14 = some Tryz.t14 := by kernel_rfl
@[simp] theorem tsz14 : Tryz.t14.size = 2 := by kernel_rfl
@[simp] theorem tby14 : Tryz.t14.bytes = 24 := by kernel_rfl
@[simp] theorem agg14 : aggT Tryz.prog 14 = some true := by kernel_rfl
@[simp] theorem slot14 : slotSize Tryz.prog 14 = 0 := by kernel_rfl
attribute [simp] Tryz.underlying14
@[simp] theorem zero14 : zeroV Tryz.prog 14 = some (.agg [(.str []), (.int .u64 0)]) := by kernel_rfl
@[simp] theorem slots14 : slotSizes Tryz.prog 14 = [0, 0] := by kernel_rfl
noncomputable def F14_0 : Field := (fieldOf Tryz.prog 14 0).getD default
@[simp] theorem fo14_0 : fieldOf Tryz.prog 14 0 = some F14_0 := by kernel_rfl
@[simp] theorem ft14_0 : F14_0.type = 9 := by kernel_rfl
@[simp] theorem fx14_0 : F14_0.offset = 0 := by kernel_rfl
noncomputable def F14_1 : Field := (fieldOf Tryz.prog 14 1).getD default
@[simp] theorem fo14_1 : fieldOf Tryz.prog 14 1 = some F14_1 := by kernel_rfl
@[simp] theorem ft14_1 : F14_1.type = 12 := by kernel_rfl
@[simp] theorem fx14_1 : F14_1.offset = 1 := by kernel_rfl
@[simp] theorem inf21 : Tryz.prog.info? 21 = some Tryz.t21 := by kernel_rfl
@[simp] theorem tsz21 : Tryz.t21.size = 1 := by kernel_rfl
@[simp] theorem tby21 : Tryz.t21.bytes = 4 := by kernel_rfl
@[simp] theorem agg21 : aggT Tryz.prog 21 = some false := by kernel_rfl
@[simp] theorem slot21 : slotSize Tryz.prog 21 = 0 := by kernel_rfl
attribute [simp] Tryz.underlying21
@[simp] theorem zero21 : zeroV Tryz.prog 21 = some (.int .i32 0) := by kernel_rfl
@[simp] theorem inf22 : Tryz.prog.info? 22 = some Tryz.t22 := by kernel_rfl
@[simp] theorem tsz22 : Tryz.t22.size = 1 := by kernel_rfl
@[simp] theorem tby22 : Tryz.t22.bytes = 24 := by kernel_rfl
@[simp] theorem agg22 : aggT Tryz.prog 22 = some false := by kernel_rfl
@[simp] theorem slot22 : slotSize Tryz.prog 22 = 1 := by kernel_rfl
attribute [simp] Tryz.underlying22
@[simp] theorem zero22 : zeroV Tryz.prog 22 = some .nils := by kernel_rfl
@[simp] theorem elem22 : elemT Tryz.prog 22 = some Tryz.t9 := by kernel_rfl
@[simp] theorem inf23 : Tryz.prog.info? 23 = some Tryz.t23 := by kernel_rfl
@[simp] theorem tsz23 : Tryz.t23.size = 1 := by kernel_rfl
@[simp] theorem tby23 : Tryz.t23.bytes = 24 := by kernel_rfl
@[simp] theorem agg23 : aggT Tryz.prog 23 = some false := by kernel_rfl
@[simp] theorem slot23 : slotSize Tryz.prog 23 = 1 := by kernel_rfl
attribute [simp] Tryz.underlying23
@[simp] theorem zero23 : zeroV Tryz.prog 23 = some .nils := by kernel_rfl
@[simp] theorem elem23 : elemT Tryz.prog 23 = some Tryz.t3 := by kernel_rfl
@[simp] theorem inf25 : Tryz.prog.info? 25 = some Tryz.t25 := by kernel_rfl
@[simp] theorem tsz25 : Tryz.t25.size = 2 := by kernel_rfl
@[simp] theorem tby25 : Tryz.t25.bytes = 48 := by kernel_rfl
@[simp] theorem agg25 : aggT Tryz.prog 25 = some true := by kernel_rfl
@[simp] theorem slot25 : slotSize Tryz.prog 25 = 0 := by kernel_rfl
attribute [simp] Tryz.underlying25
@[simp] theorem zero25 : zeroV Tryz.prog 25 = some (.agg [.nils, .nils]) := by kernel_rfl
@[simp] theorem slots25 : slotSizes Tryz.prog 25 = [1, 1] := by kernel_rfl
noncomputable def F25_0 : Field := (fieldOf Tryz.prog 25 0).getD default
@[simp] theorem fo25_0 : fieldOf Tryz.prog 25 0 = some F25_0 := by kernel_rfl
@[simp] theorem ft25_0 : F25_0.type = 22 := by kernel_rfl
@[simp] theorem fx25_0 : F25_0.offset = 0 := by kernel_rfl
noncomputable def F25_1 : Field := (fieldOf Tryz.prog 25 1).getD default
@[simp] theorem fo25_1 : fieldOf Tryz.prog 25 1 = some F25_1 := by kernel_rfl
@[simp] theorem ft25_1 : F25_1.type = 23 := by kernel_rfl
@[simp] theorem fx25_1 : F25_1.offset = 1 := by kernel_rfl
attribute [simp] Tryz.underlying26
@[simp] theorem inf27 : Tryz.prog.info? 27 = some Tryz.t27 := by kernel_rfl
@[simp] theorem tsz27 : Tryz.t27.size = 7 := by kernel_rfl
@[simp] theorem tby27 : Tryz.t27.bytes = 72 := by kernel_rfl
@[simp] theorem agg27 : aggT Tryz.prog 27 = some true := by kernel_rfl
@[simp] theorem slot27 : slotSize Tryz.prog 27 = 0 := by kernel_rfl
attribute [simp] Tryz.underlying27
@[simp] theorem zero27 : zeroV Tryz.prog 27 = some (.agg [(.int .i64 0), (.str []), (.str []), (.int .i64 0), (.int .i64 0), (.int .i64 0), (.int .i64 0)]) := by kernel_rfl
@[simp] theorem slots27 : slotSizes Tryz.prog 27 = [0, 0, 0, 0, 0, 0, 0] := by kernel_rfl
noncomputable def F27_0 : Field := (fieldOf Tryz.prog 27 0).getD default
@[simp] theorem fo27_0 : fieldOf Tryz.prog 27 0 = some F27_0 := by kernel_rfl
@[simp] theorem ft27_0 : F27_0.type = 3 := by kernel_rfl
@[simp] theorem fx27_0 : F27_0.offset = 0 := by kernel_rfl
noncomputable def F27_1 : Field := (fieldOf Tryz.prog 27 1).getD default
@[simp] theorem fo27_1 : fieldOf Tryz.prog 27 1 = some F27_1 := by kernel_rfl
@[simp] theorem ft27_1 : F27_1.type = 9 := by kernel_rfl
@[simp] theorem fx27_1 : F27_1.offset = 1 := by kernel_rfl
noncomputable def F27_2 : Field := (fieldOf Tryz.prog 27 2).getD default
@[simp] theorem fo27_2 : fieldOf Tryz.prog 27 2 = some F27_2 := by kernel_rfl
@[simp] theorem ft27_2 : F27_2.type = 9 := by kernel_rfl
@[simp] theorem fx27_2 : F27_2.offset = 2 := by kernel_rfl
noncomputable def F27_3 : Field := (fieldOf Tryz.prog 27 3).getD default
@[simp] theorem fo27_3 : fieldOf Tryz.prog 27 3 = some F27_3 := by kernel_rfl
@[simp] theorem ft27_3 : F27_3.type = 3 := by kernel_rfl
@[simp] theorem fx27_3 : F27_3.offset = 3 := by kernel_rfl
noncomputable def F27_4 : Field := (fieldOf Tryz.prog 27 4).getD default
@[simp] theorem fo27_4 : fieldOf Tryz.prog 27 4 = some F27_4 := by kernel_rfl
@[simp] theorem ft27_4 : F27_4.type = 3 := by kernel_rfl
@[simp] theorem fx27_4 : F27_4.offset = 4 := by kernel_rfl
noncomputable def F27_5 : Field := (fieldOf Tryz.prog 27 5).getD default
@[simp] theorem fo27_5 : fieldOf Tryz.prog 27 5 = some F27_5 := by kernel_rfl
@[simp] theorem ft27_5 : F27_5.type = 3 := by kernel_rfl
@[simp] theorem fx27_5 : F27_5.offset = 5 := by kernel_rfl
noncomputable def F27_6 : Field := (fieldOf Tryz.prog 27 6).getD default
@[simp] theorem fo27_6 : fieldOf Tryz.prog 27 6 = some F27_6 := by kernel_rfl
@[simp] theorem ft27_6 : F27_6.type = 3 := by kernel_rfl
@[simp] theorem fx27_6 : F27_6.offset = 6 := by kernel_rfl
@[simp] theorem inf30 : Tryz.prog.info? 30 = some Tryz.t30 := by kernel_rfl
@[simp] theorem tsz30 : Tryz.t30.size = 1 := by kernel_rfl
@[simp] theorem tby30 : Tryz.t30.bytes = 24 := by kernel_rfl
@[simp] theorem agg30 : aggT Tryz.prog 30 = some false := by kernel_rfl
@[simp] theorem slot30 : slotSize Tryz.prog 30 = 2 := by kernel_rfl
attribute [simp] Tryz.underlying30
@[simp] theorem zero30 : zeroV Tryz.prog 30 = some .nils := by kernel_rfl
@[simp] theorem elem30 : elemT Tryz.prog 30 = some Tryz.t70 := by kernel_rfl
@[simp] theorem inf31 : Tryz.prog.info? 31 = some Tryz.t31 := by kernel_rfl
@[simp] theorem tsz31 : Tryz.t31.size = 1 := by kernel_rfl
@[simp] theorem tby31 : Tryz.t31.bytes = 8 := by kernel_rfl
@[simp] theorem agg31 : aggT Tryz.prog 31 = some false := by kernel_rfl
@[simp] theorem slot31 : slotSize Tryz.prog 31 = 0 := by kernel_rfl
attribute [simp] Tryz.underlying31
@[simp] theorem zero31 : zeroV Tryz.prog 31 = some (.int .i64 0) := by kernel_rfl
@[simp] theorem inf42 : Tryz.prog.info? 42 = some Tryz.t42 := by kernel_rfl
@[simp] theorem tsz42 : Tryz.t42.size = 2 := by kernel_rfl
@[simp] theorem tby42 : Tryz.t42.bytes = 32 := by kernel_rfl
@[simp] theorem agg42 : aggT Tryz.prog 42 = some true := by kernel_rfl
@[simp] theorem slot42 : slotSize Tryz.prog 42 = 0 := by kernel_rfl
attribute [simp] Tryz.underlying42
@[simp] theorem zero42 : zeroV Tryz.prog 42 = some (.agg [(.str []), (.str [])]) := by kernel_rfl
@[simp] theorem inf45 : Tryz.prog.info? 45 = some Tryz.t45 := by kernel_rfl
@[simp] theorem tsz45 : Tryz.t45.size = 1 := by kernel_rfl
@[simp] theorem tby45 : Tryz.t45.bytes = 8 := by kernel_rfl
@[simp] theorem agg45 : aggT Tryz.prog 45 = some false := by kernel_rfl
@[simp] theorem slot45 : slotSize Tryz.prog 45 = 0 := by kernel_rfl
attribute [simp] Tryz.underlying45
@[simp] theorem zero45 : zeroV Tryz.prog 45 = some (.nilx 1) := by kernel_rfl
@[simp] theorem inf46 : Tryz.prog.info? 46 = some Tryz.t46 := by kernel_rfl
@[simp] theorem tsz46 : Tryz.t46.size = 1 := by kernel_rfl
@[simp] theorem tby46 : Tryz.t46.bytes = 24 := by kernel_rfl
@[simp] theorem agg46 : aggT Tryz.prog 46 = some false := by kernel_rfl
@[simp] theorem slot46 : slotSize Tryz.prog 46 = 3 := by kernel_rfl
attribute [simp] Tryz.underlying46
@[simp] theorem zero46 : zeroV Tryz.prog 46 = some .nils := by kernel_rfl
@[simp] theorem elem46 : elemT Tryz.prog 46 = some Tryz.t128 := by kernel_rfl
@[simp] theorem inf47 : Tryz.prog.info? 47 = some Tryz.t47 := by kernel_rfl
@[simp] theorem tsz47 : Tryz.t47.size = 1 := by kernel_rfl
@[simp] theorem tby47 : Tryz.t47.bytes = 8 := by kernel_rfl
@[simp] theorem agg47 : aggT Tryz.prog 47 = some false := by kernel_rfl
@[simp] theorem slot47 : slotSize Tryz.prog 47 = 0 := by kernel_rfl
attribute [simp] Tryz.underlying47
@[simp] theorem zero47 : zeroV Tryz.prog 47 = some (.nilx 1) := by kernel_rfl
@[simp] theorem inf48 : Tryz.prog.info? 48 = some Tryz.t48 := by kernel_rfl
@[simp] theorem tsz48 : Tryz.t48.size = 1 := by kernel_rfl
@[simp] theorem tby48 : Tryz.t48.bytes = 8 := by kernel_rfl
@[simp] theorem agg48 : aggT Tryz.prog 48 = some false := by kernel_rfl
@[simp] theorem slot48 : slotSize Tryz.prog 48 = 0 := by kernel_rfl
attribute [simp] Tryz.underlying48
@[simp] theorem zero48 : zeroV Tryz.prog 48 = some (.nilx 1) := by kernel_rfl
@[simp] theorem inf49 : Tryz.prog.info? 49 = some Tryz.t49 := by kernel_rfl
@[simp] theorem tsz49 : Tryz.t49.size = 1 := by kernel_rfl
@[simp] theorem tby49 : Tryz.t49.bytes = 24 := by kernel_rfl
@[simp] theorem agg49 : aggT Tryz.prog 49 = some false := by kernel_rfl
@[simp] theorem slot49 : slotSize Tryz.prog 49 = 2 := by kernel_rfl
attribute [simp] Tryz.underlying49
@[simp] theorem zero49 : zeroV Tryz.prog 49 = some .nils := by kernel_rfl
@[simp] theorem elem49 : elemT Tryz.prog 49 = some Tryz.t135 := by kernel_rfl
@[simp] theorem inf54 : Tryz.prog.info? 54 = some Tryz.t54 := by kernel_rfl
@[simp] theorem tsz54 : Tryz.t54.size = 1 := by kernel_rfl
@[simp] theorem tby54 : Tryz.t54.bytes = 24 := by kernel_rfl
@[simp] theorem agg54 : aggT Tryz.prog 54 = some false := by kernel_rfl
@[simp] theorem slot54 : slotSize Tryz.prog 54 = 5 := by kernel_rfl
attribute [simp] Tryz.underlying54
@[simp] theorem zero54 : zeroV Tryz.prog 54 = some .nils := by kernel_rfl
@[simp] theorem elem54 : elemT Tryz.prog 54 = some Tryz.t57 := by kernel_rfl
@[simp] theorem inf57 : Tryz.prog.info? 57 = some Tryz.t57 := by kernel_rfl
@[simp] theorem tsz57 : Tryz.t57.size = 5 := by kernel_rfl
@[simp] theorem tby57 : Tryz.t57.bytes = 64 := by kernel_rfl
@[simp] theorem agg57 : aggT Tryz.prog 57 = some true := by kernel_rfl
@[simp] theorem slot57 : slotSize Tryz.prog 57 = 0 := by kernel_rfl
attribute [simp] Tryz.underlying57
@[simp] theorem zero57 : zeroV Tryz.prog 57 = some (.agg [(.int .i64 0), (.int .i64 0), (.str []), (.str []), (.str [])]) := by kernel_rfl
@[simp] theorem slots57 : slotSizes Tryz.prog 57 = [0, 0, 0, 0, 0] := by kernel_rfl
noncomputable def F57_0 : Field := (fieldOf Tryz.prog 57 0).getD default
@[simp] theorem fo57_0 : fieldOf Tryz.prog 57 0 = some F57_0 := by kernel_rfl
@[simp] theorem ft57_0 : F57_0.type = 3 := by kernel_rfl
@[simp] theorem fx57_0 : F57_0.offset = 0 := by kernel_rfl
noncomputable def F57_1 : Field := (fieldOf Tryz.prog 57 1).getD default
@[simp] theorem fo57_1 : fieldOf Tryz.prog 57 1 = some F57_1 := by kernel_rfl
@[simp] theorem ft57_1 : F57_1.type = 3 := by kernel_rfl
@[simp] theorem fx57_1 : F57_1.offset = 1 := by kernel_rfl
noncomputable def F57_2 : Field := (fieldOf Tryz.prog 57 2).getD default
@[simp] theorem fo57_2 : fieldOf Tryz.prog 57 2 = some F57_2 := by kernel_rfl
@[simp] theorem ft57_2 : F57_2.type = 9 := by kernel_rfl
@[simp] theorem fx57_2 : F57_2.offset = 2 := by kernel_rfl
noncomputable def F57_3 : Field := (fieldOf Tryz.prog 57 3).getD default
@[simp] theorem fo57_3 : fieldOf Tryz.prog 57 3 = some F57_3 := by kernel_rfl
@[simp] theorem ft57_3 : F57_3.type = 9 := by kernel_rfl
@[simp] theorem fx57_3 : F57_3.offset = 3 := by kernel_rfl
noncomputable def F57_4 : Field := (fieldOf Tryz.prog 57 4).getD default
@[simp] theorem fo57_4 : fieldOf Tryz.prog 57 4 = some F57_4 := by kernel_rfl
@[simp] theorem ft57_4 : F57_4.type = 9 := by kernel_rfl
@[simp] theorem fx57_4 : F57_4.offset = 4 := by kernel_rfl
@[simp] theorem inf58 : Tryz.prog.info? 58 = some Tryz.t58 := by kernel_rfl
@[simp] theorem tsz58 : Tryz.t58.size = 1 := by kernel_rfl
@[simp] theorem tby58 : Tryz.t58.bytes = 8 := by kernel_rfl
@[simp] theorem agg58 : aggT Tryz.prog 58 = some false := by kernel_rfl
@[simp] theorem slot58 : slotSize Tryz.prog 58 = 0 := by kernel_rfl
attribute [simp] Tryz.underlying58
@[simp] theorem zero58 : zeroV Tryz.prog 58 = some (.nilx 1) := by kernel_rfl
@[simp] theorem inf61 : Tryz.prog.info? 61 = some Tryz.t61 := by kernel_rfl
@[simp] theorem tsz61 : Tryz.t61.size = 1 := by kernel_rfl
@[simp] theorem tby61 : Tryz.t61.bytes = 8 := by kernel_rfl
@[simp] theorem agg61 : aggT Tryz.prog 61 = some false := by kernel_rfl
@[simp] theorem slot61 : slotSize Tryz.prog 61 = 0 := by kernel_rfl
attribute [simp] Tryz.underlying61
@[simp] theorem zero61 : zeroV Tryz.prog 61 = some (.nilx 1) := by kernel_rfl
@[simp] theorem inf66 : Tryz.prog.info? 66 = some Tryz.t66 := by kernel_rfl
@[simp] theorem tsz66 : Tryz.t66.size = 1 := by kernel_rfl
@[simp] theorem tby66 : Tryz.t66.bytes = 8 := by kernel_rfl
@[simp] theorem agg66 : aggT Tryz.prog 66 = some false := by kernel_rfl
@[simp] theorem slot66 : slotSize Tryz.prog 66 = 0 := by kernel_rfl
attribute [simp] Tryz.underlying66
@[simp] theorem zero66 : zeroV Tryz.prog 66 = some (.nilx 1) := by kernel_rfl
attribute [simp] Tryz.underlying69
@[simp] theorem inf70 : Tryz.prog.info? 70 = some Tryz.t70 := by kernel_rfl
@[simp] theorem tsz70 : Tryz.t70.size = 2 := by kernel_rfl
@[simp] theorem tby70 : Tryz.t70.bytes = 24 := by kernel_rfl
@[simp] theorem agg70 : aggT Tryz.prog 70 = some true := by kernel_rfl
@[simp] theorem slot70 : slotSize Tryz.prog 70 = 0 := by kernel_rfl
attribute [simp] Tryz.underlying70
@[simp] theorem zero70 : zeroV Tryz.prog 70 = some (.agg [(.int .i64 0), (.str [])]) := by kernel_rfl
@[simp] theorem slots70 : slotSizes Tryz.prog 70 = [0, 0] := by kernel_rfl
noncomputable def F70_0 : Field := (fieldOf Tryz.prog 70 0).getD default
@[simp] theorem fo70_0 : fieldOf Tryz.prog 70 0 = some F70_0 := by kernel_rfl
@[simp] theorem ft70_0 : F70_0.type = 3 := by kernel_rfl
@[simp] theorem fx70_0 : F70_0.offset = 0 := by kernel_rfl
noncomputable def F70_1 : Field := (fieldOf Tryz.prog 70 1).getD default
@[simp] theorem fo70_1 : fieldOf Tryz.prog 70 1 = some F70_1 := by kernel_rfl
@[simp] theorem ft70_1 : F70_1.type = 9 := by kernel_rfl
@[simp] theorem fx70_1 : F70_1.offset = 1 := by kernel_rfl
@[simp] theorem inf71 : Tryz.prog.info? 71 = some Tryz.t71 := by kernel_rfl
@[simp] theorem tsz71 : Tryz.t71.size = 1 := by kernel_rfl
@[simp] theorem tby71 : Tryz.t71.bytes = 8 := by kernel_rfl
@[simp] theorem agg71 : aggT Tryz.prog 71 = some false := by kernel_rfl
@[simp] theorem slot71 : slotSize Tryz.prog 71 = 0 := by kernel_rfl
attribute [simp] Tryz.underlying71
@[simp] theorem zero71 : zeroV Tryz.prog 71 = some (.nilx 1) := by kernel_rfl
@[simp] theorem inf74 : Tryz.prog.info? 74 = some Tryz.t74 := by kernel_rfl
@[simp] theorem tsz74 : Tryz.t74.size = 3 := by kernel_rfl
@[simp] theorem tby74 : Tryz.t74.bytes = 48 := by kernel_rfl
@[simp] theorem agg74 : aggT Tryz.prog 74 = some true := by kernel_rfl
@[simp] theorem slot74 : slotSize Tryz.prog 74 = 0 := by kernel_rfl
attribute [simp] Tryz.underlying74
@[simp] theorem zero74 : zeroV Tryz.prog 74 = some (.agg [(.int .i64 0), .nils, (.str [])]) := by kernel_rfl
@[simp] theorem slots74 : slotSizes Tryz.prog 74 = [0, 2, 0] := by kernel_rfl
noncomputable def F74_0 : Field := (fieldOf Tryz.prog 74 0).getD default
@[simp] theorem fo74_0 : fieldOf Tryz.prog 74 0 = some F74_0 := by kernel_rfl
@[simp] theorem ft74_0 : F74_0.type = 3 := by kernel_rfl
@[simp] theorem fx74_0 : F74_0.offset = 0 := by kernel_rfl
noncomputable def F74_1 : Field := (fieldOf Tryz.prog 74 1).getD default
@[simp] theorem fo74_1 : fieldOf Tryz.prog 74 1 = some F74_1 := by kernel_rfl
@[simp] theorem ft74_1 : F74_1.type = 49 := by kernel_rfl
@[simp] theorem fx74_1 : F74_1.offset = 1 := by kernel_rfl
noncomputable def F74_2 : Field := (fieldOf Tryz.prog 74 2).getD default
@[simp] theorem fo74_2 : fieldOf Tryz.prog 74 2 = some F74_2 := by kernel_rfl
@[simp] theorem ft74_2 : F74_2.type = 9 := by kernel_rfl
@[simp] theorem fx74_2 : F74_2.offset = 2 := by kernel_rfl
@[simp] theorem inf80 : Tryz.prog.info? 80 = some Tryz.t80 := by kernel_rfl
@[simp] theorem tsz80 : Tryz.t80.size = 1 := by kernel_rfl
@[simp] theorem tby80 : Tryz.t80.bytes = 8 := by kernel_rfl
@[simp] theorem agg80 : aggT Tryz.prog 80 = some false := by kernel_rfl
@[simp] theorem slot80 : slotSize Tryz.prog 80 = 0 := by kernel_rfl
attribute [simp] Tryz.underlying80
@[simp] theorem zero80 : zeroV Tryz.prog 80 = some (.nilx 0) := by kernel_rfl
@[simp] theorem inf82 : Tryz.prog.info? 82 = some Tryz.t82 := by kernel_rfl
@[simp] theorem tsz82 : Tryz.t82.size = 3 := by kernel_rfl
@[simp] theorem tby82 : Tryz.t82.bytes = 72 := by kernel_rfl
@[simp] theorem agg82 : aggT Tryz.prog 82 = some true := by kernel_rfl
@[simp] theorem slot82 : slotSize Tryz.prog 82 = 0 := by kernel_rfl
attribute [simp] Tryz.underlying82
@[simp] theorem zero82 : zeroV Tryz.prog 82 = some (.agg [.nils, .nils, .nils]) := by kernel_rfl
@[simp] theorem slots82 : slotSizes Tryz.prog 82 = [1, 1, 2] := by kernel_rfl
noncomputable def F82_0 : Field := (fieldOf Tryz.prog 82 0).getD default
@[simp] theorem fo82_0 : fieldOf Tryz.prog 82 0 = some F82_0 := by kernel_rfl
@[simp] theorem ft82_0 : F82_0.type = 25 := by kernel_rfl
@[simp] theorem fx82_0 : F82_0.offset = 0 := by kernel_rfl
noncomputable def F82_1 : Field := (fieldOf Tryz.prog 82 1).getD default
@[simp] theorem fo82_1 : fieldOf Tryz.prog 82 1 = some F82_1 := by kernel_rfl
@[simp] theorem ft82_1 : F82_1.type = 30 := by kernel_rfl
@[simp] theorem fx82_1 : F82_1.offset = 2 := by kernel_rfl
@[simp] theorem inf84 : Tryz.prog.info? 84 = some Tryz.t84 := by kernel_rfl
@[simp] theorem tsz84 : Tryz.t84.size = 1 := by kernel_rfl
@[simp] theorem tby84 : Tryz.t84.bytes = 8 := by kernel_rfl
@[simp] theorem agg84 : aggT Tryz.prog 84 = some false := by kernel_rfl
@[simp] theorem slot84 : slotSize Tryz.prog 84 = 0 := by kernel_rfl
attribute [simp] Tryz.underlying84
@[simp] theorem zero84 : zeroV Tryz.prog 84 = some (.nilx 1) := by kernel_rfl
@[simp] theorem inf86 : Tryz.prog.info? 86 = some Tryz.t86 := by kernel_rfl
@[simp] theorem tsz86 : Tryz.t86.size = 1 := by kernel_rfl
@[simp] theorem tby86 : Tryz.t86.bytes = 8 := by kernel_rfl
@[simp] theorem agg86 : aggT Tryz.prog 86 = some false := by kernel_rfl
@[simp] theorem slot86 : slotSize Tryz.prog 86 = 0 := by kernel_rfl
attribute [simp] Tryz.underlying86
@[simp] theorem zero86 : zeroV Tryz.prog 86 = some (.nilx 0) := by kernel_rfl
@[simp] theorem inf88 : Tryz.prog.info? 88 = some Tryz.t88 := by kernel_rfl
@[simp] theorem tsz88 : Tryz.t88.size = 8 := by kernel_rfl
@[simp] theorem tby88 : Tryz.t88.bytes = 64 := by kernel_rfl
@[simp] theorem agg88 : aggT Tryz.prog 88 = some true := by kernel_rfl
@[simp] theorem slot88 : slotSize Tryz.prog 88 = 0 := by kernel_rfl
attribute [simp] Tryz.underlying88
@[simp] theorem zero88 : zeroV Tryz.prog 88 = some (.agg [(.int .i64 0), (.int .i64 0), (.int .i64 0), (.int .i64 0), (.int .i64 0), (.int .i64 0), (.int .i64 0), (.int .i64 0)]) := by kernel_rfl
@[simp] theorem inf90 : Tryz.prog.info? 90 = some Tryz.t90 := by kernel_rfl
@[simp] theorem tsz90 : Tryz.t90.size = 11 := by kernel_rfl
@[simp] theorem tby90 : Tryz.t90.bytes = 88 := by kernel_rfl
@[simp] theorem agg90 : aggT Tryz.prog 90 = some true := by kernel_rfl
@[simp] theorem slot90 : slotSize Tryz.prog 90 = 0 := by kernel_rfl
attribute [simp] Tryz.underlying90
@[simp] theorem zero90 : zeroV Tryz.prog 90 = some (.agg [(.int .i64 0), (.int .i64 0), (.int .i64 0), (.int .i64 0), (.int .i64 0), (.int .i64 0), (.int .i64 0), (.int .i64 0), (.int .i64 0), (.int .i64 0), (.int .i64 0)]) := by kernel_rfl
@[simp] theorem slots90 : slotSizes Tryz.prog 90 = [0, 0, 0, 0, 0, 0, 0, 0, 0, 0, 0] := by kernel_rfl
noncomputable def F90_0 : Field := (fieldOf Tryz.prog 90 0).getD default
@[simp] theorem fo90_0 : fieldOf Tryz.prog 90 0 = some F90_0 := by kernel_rfl
@[simp] theorem ft90_0 : F90_0.type = 3 := by kernel_rfl
@[simp] theorem fx90_0 : F90_0.offset = 0 := by kernel_rfl
noncomputable def F90_1 : Field := (fieldOf Tryz.prog 90 1).getD default
@[simp] theorem fo90_1 : fieldOf Tryz.prog 90 1 = some F90_1 := by kernel_rfl
@[simp] theorem ft90_1 : F90_1.type = 3 := by kernel_rfl
@[simp] theorem fx90_1 : F90_1.offset = 1 := by kernel_rfl
noncomputable def F90_2 : Field := (fieldOf Tryz.prog 90 2).getD default
@[simp] theorem fo90_2 : fieldOf Tryz.prog 90 2 = some F90_2 := by kernel_rfl
@[simp] theorem ft90_2 : F90_2.type = 3 := by kernel_rfl
@[simp] theorem fx90_2 : F90_2.offset = 2 := by kernel_rfl
noncomputable def F90_3 : Field := (fieldOf Tryz.prog 90 3).getD default
@[simp] theorem fo90_3 : fieldOf Tryz.prog 90 3 = some F90_3 := by kernel_rfl
@[simp] theorem ft90_3 : F90_3.type = 88 := by kernel_rfl
@[simp] theorem fx90_3 : F90_3.offset = 3 := by kernel_rfl
@[simp] theorem inf93 : Tryz.prog.info? 93 = some Tryz.t93 := by kernel_rfl
@[simp] theorem tsz93 : Tryz.t93.size = 4 := by kernel_rfl
@[simp] theorem tby93 : Tryz.t93.bytes = 80 := by kernel_rfl
@[simp] theorem agg93 : aggT Tryz.prog 93 = some true := by kernel_rfl
@[simp] theorem slot93 : slotSize Tryz.prog 93 = 0 := by kernel_rfl
attribute [simp] Tryz.underlying93
@[simp] theorem zero93 : zeroV Tryz.prog 93 = some (.agg [.nils, .nils, .nils, (.int .i64 0)]) := by kernel_rfl
@[simp] theorem slots93 : slotSizes Tryz.prog 93 = [1, 1, 2, 0] := by kernel_rfl
noncomputable def F93_0 : Field := (fieldOf Tryz.prog 93 0).getD default
@[simp] theorem fo93_0 : fieldOf Tryz.prog 93 0 = some F93_0 := by kernel_rfl
@[simp] theorem ft93_0 : F93_0.type = 25 := by kernel_rfl
@[simp] theorem fx93_0 : F93_0.offset = 0 := by kernel_rfl
noncomputable def F93_1 : Field := (fieldOf Tryz.prog 93 1).getD default
@[simp] theorem fo93_1 : fieldOf Tryz.prog 93 1 = some F93_1 := by kernel_rfl
@[simp] theorem ft93_1 : F93_1.type = 30 := by kernel_rfl
@[simp] theorem fx93_1 : F93_1.offset = 2 := by kernel_rfl
noncomputable def F93_2 : Field := (fieldOf Tryz.prog 93 2).getD default
@[simp] theorem fo93_2 : fieldOf Tryz.prog 93 2 = some F93_2 := by kernel_rfl
@[simp] theorem ft93_2 : F93_2.type = 31 := by kernel_rfl
@[simp] theorem fx93_2 : F93_2.offset = 3 := by kernel_rfl
@[simp] theorem inf99 : Tryz.prog.info? 99 = some Tryz.t99 := by kernel_rfl
@[simp] theorem tsz99 : Tryz.t99.size = 1 := by kernel_rfl
@[simp] theorem tby99 : Tryz.t99.bytes = 8 := by kernel_rfl
@[simp] theorem agg99 : aggT Tryz.prog 99 = some false := by kernel_rfl
@[simp] theorem slot99 : slotSize Tryz.prog 99 = 0 := by kernel_rfl
attribute [simp] Tryz.underlying99
@[simp] theorem zero99 : zeroV Tryz.prog 99 = some (.nilx 1) := by kernel_rfl
@[simp] theorem inf100 : Tryz.prog.info? 100 = some Tryz.t100 := by kernel_rfl
@[simp] theorem tsz100 : Tryz.t100.size = 1 := by kernel_rfl
@[simp] theorem tby100 : Tryz.t100.bytes = 8 := by kernel_rfl
@[simp] theorem agg100 : aggT Tryz.prog 100 = some false := by kernel_rfl
@[simp] theorem slot100 : slotSize Tryz.prog 100 = 0 := by kernel_rfl
attribute [simp] Tryz.underlying100
@[simp] theorem zero100 : zeroV Tryz.prog 100 = some (.nilx 1) := by kernel_rfl
@[simp] theorem inf101 : Tryz.prog.info? 101 = some Tryz.t101 := by kernel_rfl
@[simp] theorem tsz101 : Tryz.t101.size = 1 := by kernel_rfl
@[simp] theorem tby101 : Tryz.t101.bytes = 8 := by kernel_rfl
@[simp] theorem agg101 : aggT Tryz.prog 101 = some false := by kernel_rfl
@[simp] theorem slot101 : slotSize Tryz.prog 101 = 0 := by kernel_rfl
attribute [simp] Tryz.underlying101
@[simp] theorem zero101 : zeroV Tryz.prog 101 = some (.nilx 1) := by kernel_rfl
@[simp] theorem inf102 : Tryz.prog.info? 102 = some Tryz.t102 := by kernel_rfl
@[simp] theorem tsz102 : Tryz.t102.size = 1 := by kernel_rfl
@[simp] theorem tby102 : Tryz.t102.bytes = 8 := by kernel_rfl
@[simp] theorem agg102 : aggT Tryz.prog 102 = some false := by kernel_rfl
@[simp] theorem slot102 : slotSize Tryz.prog 102 = 0 := by kernel_rfl
attribute [simp] Tryz.underlying102
@[simp] theorem zero102 : zeroV Tryz.prog 102 = some (.nilx 1) := by kernel_rfl
@[simp] theorem inf104 : Tryz.prog.info? 104 = some Tryz.t104 := by kernel_rfl
@[simp] theorem tsz104 : Tryz.t104.size = 1 := by kernel_rfl
@[simp] theorem tby104 : Tryz.t104.bytes = 8 := by kernel_rfl
@[simp] theorem agg104 : aggT Tryz.prog 104 = some false := by kernel_rfl
@[simp] theorem slot104 : slotSize Tryz.prog 104 = 0 := by kernel_rfl
attribute [simp] Tryz.underlying104
@[simp] theorem zero104 : zeroV Tryz.prog 104 = some (.nilx 1) := by kernel_rfl
@[simp] theorem inf105 : Tryz.prog.info? 105 = some Tryz.t105 := by kernel_rfl
@[simp] theorem tsz105 : Tryz.t105.size = 1 := by kernel_rfl
@[simp] theorem tby105 : Tryz.t105.bytes = 8 := by kernel_rfl
@[simp] theorem agg105 : aggT Tryz.prog 105 = some false := by kernel_rfl
@[simp] theorem slot105 : slotSize Tryz.prog 105 = 0 := by kernel_rfl
attribute [simp] Tryz.underlying105
@[simp] theorem zero105 : zeroV Tryz.prog 105 = some (.nilx 1) := by kernel_rfl
@[simp] theorem inf108 : Tryz.prog.info? 108 = some Tryz.t108 := by kernel_rfl
@[simp] theorem tsz108 : Tryz.t108.size = 1 := by kernel_rfl
@[simp] theorem tby108 : Tryz.t108.bytes = 8 := by kernel_rfl
@[simp] theorem agg108 : aggT Tryz.prog 108 = some false := by kernel_rfl
@[simp] theorem slot108 : slotSize Tryz.prog 108 = 0 := by kernel_rfl
attribute [simp] Tryz.underlying108
@[simp] theorem zero108 : zeroV Tryz.prog 108 = some (.nilx 1) := by kernel_rfl
@[simp] theorem inf110 : Tryz.prog.info? 110 = some Tryz.t110 := by kernel_rfl
@[simp] theorem tsz110 : Tryz.t110.size = 1 := by kernel_rfl
@[simp] theorem tby110 : Tryz.t110.bytes = 8 := by kernel_rfl
@[simp] theorem agg110 : aggT Tryz.prog 110 = some false := by kernel_rfl
@[simp] theorem slot110 : slotSize Tryz.prog 110 = 0 := by kernel_rfl
attribute [simp] Tryz.underlying110
@[simp] theorem zero110 : zeroV Tryz.prog 110 = some (.nilx 1) := by kernel_rfl
@[simp] theorem inf111 : Tryz.prog.info? 111 = some Tryz.t111 := by kernel_rfl
@[simp] theorem tsz111 : Tryz.t111.size = 1 := by kernel_rfl
@[simp] theorem tby111 : Tryz.t111.bytes = 8 := by kernel_rfl
@[simp] theorem agg111 : aggT Tryz.prog 111 = some false := by kernel_rfl
@[simp] theorem slot111 : slotSize Tryz.prog 111 = 0 := by kernel_rfl
attribute [simp] Tryz.underlying111
@[simp] theorem zero111 : zeroV Tryz.prog 111 = some (.nilx 1) := by kernel_rfl
@[simp] theorem inf114 : Tryz.prog.info? 114 = some Tryz.t114 := by kernel_rfl
@[simp] theorem tsz114 : Tryz.t114.size = 1 := by kernel_rfl
@[simp] theorem tby114 : Tryz.t114.bytes = 8 := by kernel_rfl
@[simp] theorem agg114 : aggT Tryz.prog 114 = some false := by kernel_rfl
@[simp] theorem slot114 : slotSize Tryz.prog 114 = 0 := by kernel_rfl
attribute [simp] Tryz.underlying114
@[simp] theorem zero114 : zeroV Tryz.prog 114 = some (.nilx 1) := by kernel_rfl
@[simp] theorem inf115 : Tryz.prog.info? 115 = some Tryz.t115 := by kernel_rfl
@[simp] theorem tsz115 : Tryz.t115.size = 1 := by kernel_rfl
@[simp] theorem tby115 : Tryz.t115.bytes = 8 := by kernel_rfl
@[simp] theorem agg115 : aggT Tryz.prog 115 = some false := by kernel_rfl
@[simp] theorem slot115 : slotSize Tryz.prog 115 = 0 := by kernel_rfl
attribute [simp] Tryz.underlying115
@[simp] theorem zero115 : zeroV Tryz.prog 115 = some (.nilx 1) := by kernel_rfl
@[simp] theorem inf116 : Tryz.prog.info? 116 = some Tryz.t116 := by kernel_rfl
@[simp] theorem tsz116 : Tryz.t116.size = 1 := by kernel_rfl
@[simp] theorem tby116 : Tryz.t116.bytes = 24 := by kernel_rfl
@[simp] theorem agg116 : aggT Tryz.prog 116 = some false := by kernel_rfl
@[simp] theorem slot116 : slotSize Tryz.prog 116 = 1 := by kernel_rfl
attribute [simp] Tryz.underlying116
@[simp] theorem zero116 : zeroV Tryz.prog 116 = some .nils := by kernel_rfl
@[simp] theorem elem116 : elemT Tryz.prog 116 = some Tryz.t84 := by kernel_rfl
@[simp] theorem inf117 : Tryz.prog.info? 117 = some Tryz.t117 := by kernel_rfl
@[simp] theorem tsz117 : Tryz.t117.size = 1 := by kernel_rfl
@[simp] theorem tby117 : Tryz.t117.bytes = 8 := by kernel_rfl
@[simp] theorem agg117 : aggT Tryz.prog 117 = some false := by kernel_rfl
@[simp] theorem slot117 : slotSize Tryz.prog 117 = 0 := by kernel_rfl
attribute [simp] Tryz.underlying117
@[simp] theorem zero117 : zeroV Tryz.prog 117 = some (.nilx 1) := by kernel_rfl
@[simp] theorem inf118 : Tryz.prog.info? 118 = some Tryz.t118 := by kernel_rfl
@[simp] theorem tsz118 : Tryz.t118.size = 1 := by kernel_rfl
@[simp] theorem tby118 : Tryz.t118.bytes = 8 := by kernel_rfl
@[simp] theorem agg118 : aggT Tryz.prog 118 = some false := by kernel_rfl
@[simp] theorem slot118 : slotSize Tryz.prog 118 = 0 := by kernel_rfl
attribute [simp] Tryz.underlying118
@[simp] theorem zero118 : zeroV Tryz.prog 118 = some (.nilx 1) := by kernel_rfl
attribute [simp] Tryz.underlying119
@[simp] theorem inf120 : Tryz.prog.info? 120 = some Tryz.t120 := by kernel_rfl
@[simp] theorem tsz120 : Tryz.t120.size = 2 := by kernel_rfl
@[simp] theorem tby120 : Tryz.t120.bytes = 16 := by kernel_rfl
@[simp] theorem agg120 : aggT Tryz.prog 120 = some true := by kernel_rfl
@[simp] theorem slot120 : slotSize Tryz.prog 120 = 0 := by kernel_rfl
attribute [simp] Tryz.underlying120
@[simp] theorem zero120 : zeroV Tryz.prog 120 = some (.agg [(.int .i64 0), (.int .i64 0)]) := by kernel_rfl
@[simp] theorem slots120 : slotSizes Tryz.prog 120 = [0, 0] := by kernel_rfl
noncomputable def F120_0 : Field := (fieldOf Tryz.prog 120 0).getD default
@[simp] theorem fo120_0 : fieldOf Tryz.prog 120 0 = some F120_0 := by kernel_rfl
@[simp] theorem ft120_0 : F120_0.type = 3 := by kernel_rfl
@[simp] theorem fx120_0 : F120_0.offset = 0 := by kernel_rfl
noncomputable def F120_1 : Field := (fieldOf Tryz.prog 120 1).getD default
@[simp] theorem fo120_1 : fieldOf Tryz.prog 120 1 = some F120_1 := by kernel_rfl
@[simp] theorem ft120_1 : F120_1.type = 3 := by kernel_rfl
@[simp] theorem fx120_1 : F120_1.offset = 1 := by kernel_rfl
@[simp] theorem inf121 : Tryz.prog.info? 121 = some Tryz.t121 := by kernel_rfl
@[simp] theorem tsz121 : Tryz.t121.size = 352 := by kernel_rfl
@[simp] theorem tby121 : Tryz.t121.bytes = 2816 := by kernel_rfl
@[simp] theorem agg121 : aggT Tryz.prog 121 = some true := by kernel_rfl
@[simp] theorem slot121 : slotSize Tryz.prog 121 = 0 := by kernel_rfl
attribute [simp] Tryz.underlying121
@[simp] theorem zero121 : zeroV Tryz.prog 121 = some (.agg [(.int .i64 0), (.int .i64 0), (.int .i64 0), (.int .i64 0), (.int .i64 0), (.int .i64 0), (.int .i64 0), (.int .i64 0), (.int .i64 0), (.int .i64 0), (.int .i64 0), (.int .i64 0), (.int .i64 0), (.int .i64 0), (.int .i64 0), (.int .i64 0), (.int .i64 0), (.int .i64 0), (.int .i64 0), (.int .i64 0), (.int .i64 0), (.int .i64 0), (.int .i64 0), (.int .i64 0), (.int .i64 0), (.int .i64 0), (.int .i64 0), (.int .i64 0), (.int .i64 0), (.int .i64 0), (.int .i64 0), (.int .i64 0), (.int .i64 0), (.int .i64 0), (.int .i64 0), (.int .i64 0), (.int .i64 0), (.int .i64 0), (.int .i64 0), (.int .i64 0), (.int .i64 0), (.int .i64 0), (.int .i64 0), (.int .i64 0), (.int .i64 0), (.int .i64 0), (.int .i64 0), (.int .i64 0), (.int .i64 0), (.int .i64 0), (.int .i64 0), (.int .i64 0), (.int .i64 0), (.int .i64 0), (.int .i64 0), (.int .i64 0), (.int .i64 0), (.int .i64 0), (.int .i64 0), (.int .i64 0), (.int .i64 0), (.int .i64 0), (.int .i64 0), (.int .i64 0), (.int .i64 0), (.int .i64 0), (.int .i64 0), (.int .i64 0), (.int .i64 0), (.int .i64 0), (.int .i64 0), (.int .i64 0), (.int .i64 0), (.int .i64 0), (.int .i64 0), (.int .i64 0), (.int .i64 0), (.int .i64 0), (.int .i64 0), (.int .i64 0), (.int .i64 0), (.int .i64 0), (.int .i64 0), (.int .i64 0), (.int .i64 0), (.int .i64 0), (.int .i64 0), (.int .i64 0), (.int .i64 0), (.int .i64 0), (.int .i64 0), (.int .i64 0), (.int .i64 0), (.int .i64 0), (.int .i64 0), (.int .i64 0), (.int .i64 0), (.int .i64 0), (.int .i64 0), (.int .i64 0), (.int .i64 0), (.int .i64 0), (.int .i64 0), (.int .i64 0), (.int .i64 0), (.int .i64 0), (.int .i64 0), (.int .i64 0), (.int .i64 0), (.int .i64 0), (.int .i64 0), (.int .i64 0), (.int .i64 0), (.int .i64 0), (.int .i64 0), (.int .i64 0), (.int .i64 0), (.int .i64 0), (.int .i64 0), (.int .i64 0), (.int .i64 0), (.int .i64 0), (.int .i64 0), (.int .i64 0), (.int .i64 0), (.int .i64 0), (.int .i64 0), (.int .i64 0), (.int .i64 0), (.int .i64 0), (.int .i64 0), (.int .i64 0), (.int .i64 0), (.int .i64 0), (.int .i64 0), (.int .i64 0), (.int .i64 0), (.int .i64 0), (.int .i64 0), (.int .i64 0), (.int .i64 0), (.int .i64 0), (.int .i64 0), (.int .i64 0), (.int .i64 0), (.int .i64 0), (.int .i64 0), (.int .i64 0), (.int .i64 0), (.int .i64 0), (.int .i64 0), (.int .i64 0), (.int .i64 0), (.int .i64 0), (.int .i64 0), (.int .i64 0), (.int .i64 0), (.int .i64 0), (.int .i64 0), (.int .i64 0), (.int .i64 0), (.int .i64 0), (.int .i64 0), (.int .i64 0), (.int .i64 0), (.int .i64 0), (.int .i64 0), (.int .i64 0), (.int .i64 0), (.int .i64 0), (.int .i64 0), (.int .i64 0), (.int .i64 0), (.int .i64 0), (.int .i64 0), (.int .i64 0), (.int .i64 0), (.int .i64 0), (.int .i64 0), (.int .i64 0), (.int .i64 0), (.int .i64 0), (.int .i64 0), (.int .i64 0), (.int .i64 0), (.int .i64 0), (.int .i64 0), (.int .i64 0), (.int .i64 0), (.int .i64 0), (.int .i64 0), (.int .i64 0), (.int .i64 0), (.int .i64 0), (.int .i64 0), (.int .i64 0), (.int .i64 0), (.int .i64 0), (.int .i64 0), (.int .i64 0), (.int .i64 0), (.int .i64 0), (.int .i64 0), (.int .i64 0), (.int .i64 0), (.int .i64 0), (.int .i64 0), (.int .i64 0), (.int .i64 0), (.int .i64 0), (.int .i64 0), (.int .i64 0), (.int .i64 0), (.int .i64 0), (.int .i64 0), (.int .i64 0), (.int .i64 0), (.int .i64 0), (.int .i64 0), (.int .i64 0), (.int .i64 0), (.int .i64 0), (.int .i64 0), (.int .i64 0), (.int .i64 0), (.int .i64 0), (.int .i64 0), (.int .i64 0), (.int .i64 0), (.int .i64 0), (.int .i64 0), (.int .i64 0), (.int .i64 0), (.int .i64 0), (.int .i64 0), (.int .i64 0), (.int .i64 0), (.int .i64 0), (.int .i64 0), (.int .i64 0), (.int .i64 0), (.int .i64 0), (.int .i64 0), (.int .i64 0), (.int .i64 0), (.int .i64 0), (.int .i64 0), (.int .i64 0), (.int .i64 0), (.int .i64 0), (.int .i64 0), (.int .i64 0), (.int .i64 0), (.int .i64 0), (.int .i64 0), (.int .i64 0), (.int .i64 0), (.int .i64 0), (.int .i64 0), (.int .i64 0), (.int .i64 0), (.int .i64 0), (.int .i64 0), (.int .i64 0), (.int .i64 0), (.int .i64 0), (.int .i64 0), (.int .i64 0), (.int .i64 0), (.int .i64 0), (.int .i64 0), (.int .i64 0), (.int .i64 0), (.int .i64 0), (.int .i64 0), (.int .i64 0), (.int .i64 0), (.int .i64 0), (.int .i64 0), (.int .i64 0), (.int .i64 0), (.int .i64 0), (.int .i64 0), (.int .i64 0), (.int .i64 0), (.int .i64 0), (.int .i64 0), (.int .i64 0), (.int .i64 0), (.int .i64 0), (.int .i64 0), (.int .i64 0), (.int .i64 0), (.int .i64 0), (.int .i64 0), (.int .i64 0), (.int .i64 0), (.int .i64 0), (.int .i64 0), (.int .i64 0), (.int .i64 0), (.int .i64 0), (.int .i64 0), (.int .i64 0), (.int .i64 0), (.int .i64 0), (.int .i64 0), (.int .i64 0), (.int .i64 0), (.int .i64 0), (.int .i64 0), (.int .i64 0), (.int .i64 0), (.int .i64 0), (.int .i64 0), (.int .i64 0), (.int .i64 0), (.int .i64 0), (.int .i64 0), (.int .i64 0), (.int .i64 0), (.int .i64 0), (.int .i64 0), (.int .i64 0), (.int .i64 0), (.int .i64 0), (.int .i64 0), (.int .i64 0), (.int .i64 0), (.int .i64 0), (.int .i64 0), (.int .i64 0), (.int .i64 0), (.int .i64 0), (.int .i64 0), (.int .i64 0), (.int .i64 0), (.int .i64 0), (.int .i64 0), (.int .i64 0), (.int .i64 0), (.int .i64 0), (.int .i64 0), (.int .i64 0), (.int .i64 0), (.int .i64 0), (.int .i64 0), (.int .i64 0), (.int .i64 0), (.int .i64 0), (.int .i64 0), (.int .i64 0)]) := by kernel_rfl
@[simp] theorem inf122 : Tryz.prog.info? 122 = some Tryz.t122 := by kernel_rfl
@[simp] theorem tsz122 : Tryz.t122.size = 32 := by kernel_rfl
@[simp] theorem tby122 : Tryz.t122.bytes = 32 := by kernel_rfl
@[simp] theorem agg122 : aggT Tryz.prog 122 = some true := by kernel_rfl
@[simp] theorem slot122 : slotSize Tryz.prog 122 = 0 := by kernel_rfl
attribute [simp] Tryz.underlying122
@[simp] theorem zero122 : zeroV Tryz.prog 122 = some (.agg [(.bool false), (.bool false), (.bool false), (.bool false), (.bool false), (.bool false), (.bool false), (.bool false), (.bool false), (.bool false), (.bool false), (.bool false), (.bool false), (.bool false), (.bool false), (.bool false), (.bool false), (.bool false), (.bool false), (.bool false), (.bool false), (.bool false), (.bool false), (.bool false), (.bool false), (.bool false), (.bool false), (.bool false), (.bool false), (.bool false), (.bool false), (.bool false)]) := by kernel_rfl
@[simp] theorem inf124 : Tryz.prog.info? 124 = some Tryz.t124 := by kernel_rfl
@[simp] theorem tsz124 : Tryz.t124.size = 390 := by kernel_rfl
@[simp] theorem tby124 : Tryz.t124.bytes = 2928 := by kernel_rfl
@[simp] theorem agg124 : aggT Tryz.prog 124 = some true := by kernel_rfl
@[simp] theorem slot124 : slotSize Tryz.prog 124 = 0 := by kernel_rfl
attribute [simp] Tryz.underlying124
@[simp] theorem zero124 : zeroV Tryz.prog 124 = some (.agg [.nils, .nils, (.int .i64 0), (.int .i64 0), (.int .i64 0), (.int .i64 0), (.int .i64 0), (.int .i64 0), (.int .i64 0), (.int .i64 0), (.int .i64 0), (.int .i64 0), (.int .i64 0), (.int .i64 0), (.int .i64 0), (.int .i64 0), (.int .i64 0), (.int .i64 0), (.int .i64 0), (.int .i64 0), (.int .i64 0), (.int .i64 0), (.int .i64 0), (.int .i64 0), (.int .i64 0), (.int .i64 0), (.int .i64 0), (.int .i64 0), (.int .i64 0), (.int .i64 0), (.int .i64 0), (.int .i64 0), (.int .i64 0), (.int .i64 0), (.int .i64 0), (.int .i64 0), (.int .i64 0), (.int .i64 0), (.int .i64 0), (.int .i64 0), (.int .i64 0), (.int .i64 0), (.int .i64 0), (.int .i64 0), (.int .i64 0), (.int .i64 0), (.int .i64 0), (.int .i64 0), (.int .i64 0), (.int .i64 0), (.int .i64 0), (.int .i64 0), (.int .i64 0), (.int .i64 0), (.int .i64 0), (.int .i64 0), (.int .i64 0), (.int .i64 0), (.int .i64 0), (.int .i64 0), (.int .i64 0), (.int .i64 0), (.int .i64 0), (.int .i64 0), (.int .i64 0), (.int .i64 0), (.int .i64 0), (.int .i64 0), (.int .i64 0), (.int .i64 0), (.int .i64 0), (.int .i64 0), (.int .i64 0), (.int .i64 0), (.int .i64 0), (.int .i64 0), (.int .i64 0), (.int .i64 0), (.int .i64 0), (.int .i64 0), (.int .i64 0), (.int .i64 0), (.int .i64 0), (.int .i64 0), (.int .i64 0), (.int .i64 0), (.int .i64 0), (.int .i64 0), (.int .i64 0), (.int .i64 0), (.int .i64 0), (.int .i64 0), (.int .i64 0), (.int .i64 0), (.int .i64 0), (.int .i64 0), (.int .i64 0), (.int .i64 0), (.int .i64 0), (.int .i64 0), (.int .i64 0), (.int .i64 0), (.int .i64 0), (.int .i64 0), (.int .i64 0), (.int .i64 0), (.int .i64 0), (.int .i64 0), (.int .i64 0), (.int .i64 0), (.int .i64 0), (.int .i64 0), (.int .i64 0), (.int .i64 0), (.int .i64 0), (.int .i64 0), (.int .i64 0), (.int .i64 0), (.int .i64 0), (.int .i64 0), (.int .i64 0), (.int .i64 0), (.int .i64 0), (.int .i64 0), (.int .i64 0), (.int .i64 0), (.int .i64 0), (.int .i64 0), (.int .i64 0), (.int .i64 0), (.int .i64 0), (.int .i64 0), (.int .i64 0), (.int .i64 0), (.int .i64 0), (.int .i64 0), (.int .i64 0), (.int .i64 0), (.int .i64 0), (.int .i64 0), (.int .i64 0), (.int .i64 0), (.int .i64 0), (.int .i64 0), (.int .i64 0), (.int .i64 0), (.int .i64 0), (.int .i64 0), (.int .i64 0), (.int .i64 0), (.int .i64 0), (.int .i64 0), (.int .i64 0), (.int .i64 0), (.int .i64 0), (.int .i64 0), (.int .i64 0), (.int .i64 0), (.int .i64 0), (.int .i64 0), (.int .i64 0), (.int .i64 0), (.int .i64 0), (.int .i64 0), (.int .i64 0), (.int .i64 0), (.int .i64 0), (.int .i64 0), (.int .i64 0), (.int .i64 0), (.int .i64 0), (.int .i64 0), (.int .i64 0), (.int .i64 0), (.int .i64 0), (.int .i64 0), (.int .i64 0), (.int .i64 0), (.int .i64 0), (.int .i64 0), (.int .i64 0), (.int .i64 0), (.int .i64 0), (.int .i64 0), (.int .i64 0), (.int .i64 0), (.int .i64 0), (.int .i64 0), (.int .i64 0), (.int .i64 0), (.int .i64 0), (.int .i64 0), (.int .i64 0), (.int .i64 0), (.int .i64 0), (.int .i64 0), (.int .i64 0), (.int .i64 0), (.int .i64 0), (.int .i64 0), (.int .i64 0), (.int .i64 0), (.int .i64 0), (.int .i64 0), (.int .i64 0), (.int .i64 0), (.int .i64 0), (.int .i64 0), (.int .i64 0), (.int .i64 0), (.int .i64 0), (.int .i64 0), (.int .i64 0), (.int .i64 0), (.int .i64 0), (.int .i64 0), (.int .i64 0), (.int .i64 0), (.int .i64 0), (.int .i64 0), (.int .i64 0), (.int .i64 0), (.int .i64 0), (.int .i64 0), (.int .i64 0), (.int .i64 0), (.int .i64 0), (.int .i64 0), (.int .i64 0), (.int .i64 0), (.int .i64 0), (.int .i64 0), (.int .i64 0), (.int .i64 0), (.int .i64 0), (.int .i64 0), (.int .i64 0), (.int .i64 0), (.int .i64 0), (.int .i64 0), (.int .i64 0), (.int .i64 0), (.int .i64 0), (.int .i64 0), (.int .i64 0), (.int .i64 0), (.int .i64 0), (.int .i64 0), (.int .i64 0), (.int .i64 0), (.int .i64 0), (.int .i64 0), (.int .i64 0), (.int .i64 0), (.int .i64 0), (.int .i64 0), (.int .i64 0), (.int .i64 0), (.int .i64 0), (.int .i64 0), (.int .i64 0), (.int .i64 0), (.int .i64 0), (.int .i64 0), (.int .i64 0), (.int .i64 0), (.int .i64 0), (.int .i64 0), (.int .i64 0), (.int .i64 0), (.int .i64 0), (.int .i64 0), (.int .i64 0), (.int .i64 0), (.int .i64 0), (.int .i64 0), (.int .i64 0), (.int .i64 0), (.int .i64 0), (.int .i64 0), (.int .i64 0), (.int .i64 0), (.int .i64 0), (.int .i64 0), (.int .i64 0), (.int .i64 0), (.int .i64 0), (.int .i64 0), (.int .i64 0), (.int .i64 0), (.int .i64 0), (.int .i64 0), (.int .i64 0), (.int .i64 0), (.int .i64 0), (.int .i64 0), (.int .i64 0), (.int .i64 0), (.int .i64 0), (.int .i64 0), (.int .i64 0), (.int .i64 0), (.int .i64 0), (.int .i64 0), (.int .i64 0), (.int .i64 0), (.int .i64 0), (.int .i64 0), (.int .i64 0), (.int .i64 0), (.int .i64 0), (.int .i64 0), (.int .i64 0), (.int .i64 0), (.int .i64 0), (.int .i64 0), (.int .i64 0), (.int .i64 0), (.int .i64 0), (.int .i64 0), (.int .i64 0), (.int .i64 0), (.int .i64 0), (.int .i64 0), (.int .i64 0), (.int .i64 0), (.int .i64 0), (.int .i64 0), (.int .i64 0), (.int .i64 0), (.int .i64 0), (.int .i64 0), (.int .i64 0), (.int .i64 0), (.int .i64 0), (.int .i64 0), (.int .i64 0), (.int .i64 0), (.int .i64 0), (.int .i64 0), (.int .i64 0), (.int .i64 0), (.int .i64 0), (.int .i64 0), (.int .i64 0), (.int .i64 0), (.int .i64 0), (.int .i64 0), (.int .i64 0), (.int .i64 0), (.int .i64 0), (.int .i64 0), (.int .i64 0), (.int .i64 0), (.int .i64 0), (.int .i64 0), (.int .i64 0), (.int .i64 0), (.bool false), (.bool false), (.bool false), (.bool false), (.bool false), (.bool false), (.bool false), (.bool false), (.bool false), (.bool false), (.bool false), (.bool false), (.bool false), (.bool false), (.bool false), (.bool false), (.bool false), (.bool false), (.bool false), (.bool false), (.bool false), (.bool false), (.bool false), (.bool false), (.bool false), (.bool false), (.bool false), (.bool false), (.bool false), (.bool false), (.bool false), (.bool false)]) := by kernel_rfl
@[simp] theorem slots124 : slotSizes Tryz.prog 124 = [1, 1, 0, 0, 0, 0, 0, 0, 0, 0, 0, 0, 0, 0, 0, 0, 0, 0, 0, 0, 0, 0, 0, 0, 0, 0, 0, 0, 0, 0, 0, 0, 0, 0, 0, 0, 0, 0, 0, 0, 0, 0, 0, 0, 0, 0, 0, 0, 0, 0, 0, 0, 0, 0, 0, 0, 0, 0, 0, 0, 0, 0, 0, 0, 0, 0, 0, 0, 0, 0, 0, 0, 0, 0, 0, 0, 0, 0, 0, 0, 0, 0, 0, 0, 0, 0, 0, 0, 0, 0, 0, 0, 0, 0, 0, 0, 0, 0, 0, 0, 0, 0, 0, 0, 0, 0, 0, 0, 0, 0, 0, 0, 0, 0, 0, 0, 0, 0, 0, 0, 0, 0, 0, 0, 0, 0, 0, 0, 0, 0, 0, 0, 0, 0, 0, 0, 0, 0, 0, 0, 0, 0, 0, 0, 0, 0, 0, 0, 0, 0, 0, 0, 0, 0, 0, 0, 0, 0, 0, 0, 0, 0, 0, 0, 0, 0, 0, 0, 0, 0, 0, 0, 0, 0, 0, 0, 0, 0, 0, 0, 0, 0, 0, 0, 0, 0, 0, 0, 0, 0, 0, 0, 0, 0, 0, 0, 0, 0, 0, 0, 0, 0, 0, 0, 0, 0, 0, 0, 0, 0, 0, 0, 0, 0, 0, 0, 0, 0, 0, 0, 0, 0, 0, 0, 0, 0, 0, 0, 0, 0, 0, 0, 0, 0, 0, 0, 0, 0, 0, 0, 0, 0, 0, 0, 0, 0, 0, 0, 0, 0, 0, 0, 0, 0, 0, 0, 0, 0, 0, 0, 0, 0, 0, 0, 0, 0, 0, 0, 0, 0, 0, 0, 0, 0, 0, 0, 0, 0, 0, 0, 0, 0, 0, 0, 0, 0, 0, 0, 0, 0, 0, 0, 0, 0, 0, 0, 0, 0, 0, 0, 0, 0, 0, 0, 0, 0, 0, 0, 0, 0, 0, 0, 0, 0, 0, 0, 0, 0, 0, 0, 0, 0, 0, 0, 0, 0, 0, 0, 0, 0, 0, 0, 0, 0, 0, 0, 0, 0, 0, 0, 0, 0, 0, 0, 0, 0, 0, 0, 0, 0, 0, 0, 0, 0, 0, 0, 0, 0, 0, 0, 0, 0, 0, 0, 0, 0, 0, 0, 0, 0, 0, 0, 0, 0, 0, 0, 0, 0, 0, 0, 0, 0, 0, 0, 0, 0, 0, 0, 0, 0] := by kernel_rfl
noncomputable def F124_0 : Field := (fieldOf Tryz.prog 124 0).getD default
@[simp] theorem fo124_0 : fieldOf Tryz.prog 124 0 = some F124_0 := by kernel_rfl
@[simp] theorem ft124_0 : F124_0.type = 25 := by kernel_rfl
@[simp] theorem fx124_0 : F124_0.offset = 0 := by kernel_rfl
noncomputable def F124_1 : Field := (fieldOf Tryz.prog 124 1).getD default
@[simp] theorem fo124_1 : fieldOf Tryz.prog 124 1 = some F124_1 := by kernel_rfl
@[simp] theorem ft124_1 : F124_1.type = 120 := by kernel_rfl
@[simp] theorem fx124_1 : F124_1.offset = 2 := by kernel_rfl
noncomputable def F124_2 : Field := (fieldOf Tryz.prog 124 2).getD default
@[simp] theorem fo124_2 : fieldOf Tryz.prog 124 2 = some F124_2 := by kernel_rfl
@[simp] theorem ft124_2 : F124_2.type = 120 := by kernel_rfl
@[simp] theorem fx124_2 : F124_2.offset = 4 := by kernel_rfl
noncomputable def F124_3 : Field := (fieldOf Tryz.prog 124 3).getD default
@[simp] theorem fo124_3 : fieldOf Tryz.prog 124 3 = some F124_3 := by kernel_rfl
@[simp] theorem ft124_3 : F124_3.type = 121 := by kernel_rfl
@[simp] theorem fx124_3 : F124_3.offset = 6 := by kernel_rfl
noncomputable def F124_4 : Field := (fieldOf Tryz.prog 124 4).getD default
@[simp] theorem fo124_4 : fieldOf Tryz.prog 124 4 = some F124_4 := by kernel_rfl
@[simp] theorem ft124_4 : F124_4.type = 122 := by kernel_rfl
@[simp] theorem fx124_4 : F124_4.offset = 358 := by kernel_rfl
@[simp] theorem inf128 : Tryz.prog.info? 128 = some Tryz.t128 := by kernel_rfl
@[simp] theorem tsz128 : Tryz.t128.size = 3 := by kernel_rfl
@[simp] theorem tby128 : Tryz.t128.bytes = 24 := by kernel_rfl
@[simp] theorem agg128 : aggT Tryz.prog 128 = some true := by kernel_rfl
@[simp] theorem slot128 : slotSize Tryz.prog 128 = 0 := by kernel_rfl
attribute [simp] Tryz.underlying128
@[simp] theorem zero128 : zeroV Tryz.prog 128 = some (.agg [(.int .i64 0), (.int .i64 0), (.int .i64 0)]) := by kernel_rfl
@[simp] theorem slots128 : slotSizes Tryz.prog 128 = [0, 0, 0] := by kernel_rfl
noncomputable def F128_0 : Field := (fieldOf Tryz.prog 128 0).getD default
@[simp] theorem fo128_0 : fieldOf Tryz.prog 128 0 = some F128_0 := by kernel_rfl
@[simp] theorem ft128_0 : F128_0.type = 3 := by kernel_rfl
@[simp] theorem fx128_0 : F128_0.offset = 0 := by kernel_rfl
noncomputable def F128_1 : Field := (fieldOf Tryz.prog 128 1).getD default
@[simp] theorem fo128_1 : fieldOf Tryz.prog 128 1 = some F128_1 := by kernel_rfl
@[simp] theorem ft128_1 : F128_1.type = 3 := by kernel_rfl
@[simp] theorem fx128_1 : F128_1.offset = 1 := by kernel_rfl
noncomputable def F128_2 : Field := (fieldOf Tryz.prog 128 2).getD default
@[simp] theorem fo128_2 : fieldOf Tryz.prog 128 2 = some F128_2 := by kernel_rfl
@[simp] theorem ft128_2 : F128_2.type = 3 := by kernel_rfl
@[simp] theorem fx128_2 : F128_2.offset = 2 := by kernel_rfl
@[simp] theorem inf135 : Tryz.prog.info? 135 = some Tryz.t135 := by kernel_rfl
@[simp] theorem tsz135 : Tryz.t135.size = 2 := by kernel_rfl
@[simp] theorem tby135 : Tryz.t135.bytes = 24 := by kernel_rfl
@[simp] theorem agg135 : aggT Tryz.prog 135 = some true := by kernel_rfl
@[simp] theorem slot135 : slotSize Tryz.prog 135 = 0 := by kernel_rfl
attribute [simp] Tryz.underlying135
@[simp] theorem zero135 : zeroV Tryz.prog 135 = some (.agg [(.str []), (.int .i64 0)]) := by kernel_rfl
@[simp] theorem slots135 : slotSizes Tryz.prog 135 = [0, 0] := by kernel_rfl
noncomputable def F135_0 : Field := (fieldOf Tryz.prog 135 0).getD default
@[simp] theorem fo135_0 : fieldOf Tryz.prog 135 0 = some F135_0 := by kernel_rfl
@[simp] theorem ft135_0 : F135_0.type = 9 := by kernel_rfl
@[simp] theorem fx135_0 : F135_0.offset = 0 := by kernel_rfl
noncomputable def F135_1 : Field := (fieldOf Tryz.prog 135 1).getD default
@[simp] theorem fo135_1 : fieldOf Tryz.prog 135 1 = some F135_1 := by kernel_rfl
@[simp] theorem ft135_1 : F135_1.type = 3 := by kernel_rfl
@[simp] theorem fx135_1 : F135_1.offset = 1 := by kernel_rfl
@[simp] theorem inf136 : Tryz.prog.info? 136 = some Tryz.t136 := by kernel_rfl
@[simp] theorem tsz136 : Tryz.t136.size = 32 := by kernel_rfl
@[simp] theorem tby136 : Tryz.t136.bytes = 256 := by kernel_rfl
@[simp] theorem agg136 : aggT Tryz.prog 136 = some true := by kernel_rfl
@[simp] theorem slot136 : slotSize Tryz.prog 136 = 0 := by kernel_rfl
attribute [simp] Tryz.underlying136
@[simp] theorem zero136 : zeroV Tryz.prog 136 = some (.agg [(.int .i64 0), (.int .i64 0), (.int .i64 0), (.int .i64 0), (.int .i64 0), (.int .i64 0), (.int .i64 0), (.int .i64 0), (.int .i64 0), (.int .i64 0), (.int .i64 0), (.int .i64 0), (.int .i64 0), (.int .i64 0), (.int .i64 0), (.int .i64 0), (.int .i64 0), (.int .i64 0), (.int .i64 0), (.int .i64 0), (.int .i64 0), (.int .i64 0), (.int .i64 0), (.int .i64 0), (.int .i64 0), (.int .i64 0), (.int .i64 0), (.int .i64 0), (.int .i64 0), (.int .i64 0), (.int .i64 0), (.int .i64 0)]) := by kernel_rfl
@[simp] theorem inf162 : Tryz.prog.info? 162 = some Tryz.t162 := by kernel_rfl
@[simp] theorem tsz162 : Tryz.t162.size = 1 := by kernel_rfl
@[simp] theorem tby162 : Tryz.t162.bytes = 8 := by kernel_rfl
@[simp] theorem agg162 : aggT Tryz.prog 162 = some false := by kernel_rfl
@[simp] theorem slot162 : slotSize Tryz.prog 162 = 0 := by kernel_rfl
attribute [simp] Tryz.underlying162
@[simp] theorem zero162 : zeroV Tryz.prog 162 = some (.nilx 1) := by kernel_rfl
@[simp] theorem inf164 : Tryz.prog.info? 164 = some Tryz.t164 := by kernel_rfl
@[simp] theorem tsz164 : Tryz.t164.size = 1 := by kernel_rfl
@[simp] theorem tby164 : Tryz.t164.bytes = 24 := by kernel_rfl
@[simp] theorem agg164 : aggT Tryz.prog 164 = some false := by kernel_rfl
@[simp] theorem slot164 : slotSize Tryz.prog 164 = 1 := by kernel_rfl
attribute [simp] Tryz.underlying164
@[simp] theorem zero164 : zeroV Tryz.prog 164 = some .nils := by kernel_rfl
@[simp] theorem elem164 : elemT Tryz.prog 164 = some Tryz.t5 := by kernel_rfl
@[simp] theorem inf183 : Tryz.prog.info? 183 = some Tryz.t183 := by kernel_rfl
@[simp] theorem tsz183 : Tryz.t183.size = 1 := by kernel_rfl
@[simp] theorem tby183 : Tryz.t183.bytes = 8 := by kernel_rfl
@[simp] theorem agg183 : aggT Tryz.prog 183 = some false := by kernel_rfl
@[simp] theorem slot183 : slotSize Tryz.prog 183 = 0 := by kernel_rfl
attribute [simp] Tryz.underlying183
@[simp] theorem zero183 : zeroV Tryz.prog 183 = some (.nilx 0) := by kernel_rfl
@[simp] theorem inf185 : Tryz.prog.info? 185 = some Tryz.t185 := by kernel_rfl
@[simp] theorem tsz185 : Tryz.t185.size = 2 := by kernel_rfl
@[simp] theorem tby185 : Tryz.t185.bytes = 32 := by kernel_rfl
@[simp] theorem agg185 : aggT Tryz.prog 185 = some true := by kernel_rfl
@[simp] theorem slot185 : slotSize Tryz.prog 185 = 0 := by kernel_rfl
attribute [simp] Tryz.underlying185
@[simp] theorem zero185 : zeroV Tryz.prog 185 = some (.agg [(.nilx 0), .nils]) := by kernel_rfl
@[simp] theorem slots185 : slotSizes Tryz.prog 185 = [0, 1] := by kernel_rfl
noncomputable def F185_0 : Field := (fieldOf Tryz.prog 185 0).getD default
@[simp] theorem fo185_0 : fieldOf Tryz.prog 185 0 = some F185_0 := by kernel_rfl
@[simp] theorem ft185_0 : F185_0.type = 183 := by kernel_rfl
@[simp] theorem fx185_0 : F185_0.offset = 0 := by kernel_rfl
noncomputable def F185_1 : Field := (fieldOf Tryz.prog 185 1).getD default
@[simp] theorem fo185_1 : fieldOf Tryz.prog 185 1 = some F185_1 := by kernel_rfl
@[simp] theorem ft185_1 : F185_1.type = 164 := by kernel_rfl
@[simp] theorem fx185_1 : F185_1.offset = 1 := by kernel_rfl
@[simp] theorem inf191 : Tryz.prog.info? 191 = some Tryz.t191 := by kernel_rfl
@[simp] theorem tsz191 : Tryz.t191.size = 1 := by kernel_rfl
@[simp] theorem tby191 : Tryz.t191.bytes = 8 := by kernel_rfl
@[simp] theorem agg191 : aggT Tryz.prog 191 = some false := by kernel_rfl
@[simp] theorem slot191 : slotSize Tryz.prog 191 = 0 := by kernel_rfl
attribute [simp] Tryz.underlying191
@[simp] theorem zero191 : zeroV Tryz.prog 191 = some (.nilx 0) := by kernel_rfl
@[simp] theorem inf193 : Tryz.prog.info? 193 = some Tryz.t193 := by kernel_rfl
@[simp] theorem tsz193 : Tryz.t193.size = 27 := by kernel_rfl
@[simp] theorem tby193 : Tryz.t193.bytes = 256 := by kernel_rfl
@[simp] theorem agg193 : aggT Tryz.prog 193 = some true := by kernel_rfl
@[simp] theorem slot193 : slotSize Tryz.prog 193 = 0 := by kernel_rfl
attribute [simp] Tryz.underlying193
@[simp] theorem zero193 : zeroV Tryz.prog 193 = some (.agg [(.nilx 0), (.int .i64 0), (.str []), (.int .i64 0), (.int .i64 0), (.int .i64 0), (.int .i64 0), (.int .i64 0), (.int .i64 0), (.int .i64 0), (.int .i64 0), (.int .i64 0), (.int .i64 0), (.int .i64 0), (.int .i64 0), (.int .i64 0), (.int .i64 0), (.int .i64 0), (.int .i64 0), (.int .i64 0), (.int .i64 0), (.int .i64 0), (.int .i64 0), (.int .i64 0), (.int .i64 0), .nils, .nils]) := by kernel_rfl
@[simp] theorem slots193 : slotSizes Tryz.prog 193 = [0, 0, 0, 0, 0, 0, 0, 0, 0, 0, 0, 0, 0, 0, 0, 0, 0, 0, 0, 0, 0, 0, 0, 0, 0, 1, 1] := by kernel_rfl
noncomputable def F193_0 : Field := (fieldOf Tryz.prog 193 0).getD default
@[simp] theorem fo193_0 : fieldOf Tryz.prog 193 0 = some F193_0 := by kernel_rfl
@[simp] theorem ft193_0 : F193_0.type = 80 := by kernel_rfl
@[simp] theorem fx193_0 : F193_0.offset = 0 := by kernel_rfl
noncomputable def F193_1 : Field := (fieldOf Tryz.prog 193 1).getD default
@[simp] theorem fo193_1 : fieldOf Tryz.prog 193 1 = some F193_1 := by kernel_rfl
@[simp] theorem ft193_1 : F193_1.type = 3 := by kernel_rfl
@[simp] theorem fx193_1 : F193_1.offset = 1 := by kernel_rfl
noncomputable def F193_2 : Field := (fieldOf Tryz.prog 193 2).getD default
@[simp] theorem fo193_2 : fieldOf Tryz.prog 193 2 = some F193_2 := by kernel_rfl
@[simp] theorem ft193_2 : F193_2.type = 9 := by kernel_rfl
@[simp] theorem fx193_2 : F193_2.offset = 2 := by kernel_rfl
noncomputable def F193_3 : Field := (fieldOf Tryz.prog 193 3).getD default
@[simp] theorem fo193_3 : fieldOf Tryz.prog 193 3 = some F193_3 := by kernel_rfl
@[simp] theorem ft193_3 : F193_3.type = 90 := by kernel_rfl
@[simp] theorem fx193_3 : F193_3.offset = 3 := by kernel_rfl
noncomputable def F193_4 : Field := (fieldOf Tryz.prog 193 4).getD default
@[simp] theorem fo193_4 : fieldOf Tryz.prog 193 4 = some F193_4 := by kernel_rfl
@[simp] theorem ft193_4 : F193_4.type = 90 := by kernel_rfl
@[simp] theorem fx193_4 : F193_4.offset = 14 := by kernel_rfl
noncomputable def F193_5 : Field := (fieldOf Tryz.prog 193 5).getD default
@[simp] theorem fo193_5 : fieldOf Tryz.prog 193 5 = some F193_5 := by kernel_rfl
@[simp] theorem ft193_5 : F193_5.type = 23 := by kernel_rfl
@[simp] theorem fx193_5 : F193_5.offset = 25 := by kernel_rfl
noncomputable def F193_6 : Field := (fieldOf Tryz.prog 193 6).getD default
@[simp] theorem fo193_6 : fieldOf Tryz.prog 193 6 = some F193_6 := by kernel_rfl
@[simp] theorem ft193_6 : F193_6.type = 23 := by kernel_rfl
@[simp] theorem fx193_6 : F193_6.offset = 26 := by kernel_rfl
@[simp] theorem inf198 : Tryz.prog.info? 198 = some Tryz.t198 := by kernel_rfl
@[simp] theorem tsz198 : Tryz.t198.size = 1 := by kernel_rfl
@[simp] theorem tby198 : Tryz.t198.bytes = 8 := by kernel_rfl
@[simp] theorem agg198 : aggT Tryz.prog 198 = some false := by kernel_rfl
@[simp] theorem slot198 : slotSize Tryz.prog 198 = 0 := by kernel_rfl
attribute [simp] Tryz.underlying198
@[simp] theorem zero198 : zeroV Tryz.prog 198 = some .nilm := by kernel_rfl
@[simp] theorem inf203 : Tryz.prog.info? 203 = some Tryz.t203 := by kernel_rfl
@[simp] theorem tsz203 : Tryz.t203.size = 1 := by kernel_rfl
@[simp] theorem tby203 : Tryz.t203.bytes = 8 := by kernel_rfl
@[simp] theorem agg203 : aggT Tryz.prog 203 = some false := by kernel_rfl
@[simp] theorem slot203 : slotSize Tryz.prog 203 = 0 := by kernel_rfl
attribute [simp] Tryz.underlying203
@[simp] theorem zero203 : zeroV Tryz.prog 203 = some (.nilx 1) := by kernel_rfl
@[simp] theorem inf208 : Tryz.prog.info? 208 = some Tryz.t208 := by kernel_rfl
@[simp] theorem tsz208 : Tryz.t208.size = 1 := by kernel_rfl
@[simp] theorem tby208 : Tryz.t208.bytes = 8 := by kernel_rfl
@[simp] theorem agg208 : aggT Tryz.prog 208 = some false := by kernel_rfl
@[simp] theorem slot208 : slotSize Tryz.prog 208 = 0 := by kernel_rfl
attribute [simp] Tryz.underlying208
@[simp] theorem zero208 : zeroV Tryz.prog 208 = some (.nilx 1) := by kernel_rfl
@[simp] theorem inf211 : Tryz.prog.info? 211 = some Tryz.t211 := by kernel_rfl
@[simp] theorem tsz211 : Tryz.t211.size = 1 := by kernel_rfl
@[simp] theorem tby211 : Tryz.t211.bytes = 8 := by kernel_rfl
@[simp] theorem agg211 : aggT Tryz.prog 211 = some false := by kernel_rfl
@[simp] theorem slot211 : slotSize Tryz.prog 211 = 0 := by kernel_rfl
attribute [simp] Tryz.underlying211
@[simp] theorem zero211 : zeroV Tryz.prog 211 = some (.int .u64 0) := by kernel_rfl
@[simp] theorem inf217 : Tryz.prog.info? 217 = some Tryz.t217 := by kernel_rfl
@[simp] theorem tsz217 : Tryz.t217.size = 1 := by kernel_rfl
@[simp] theorem tby217 : Tryz.t217.bytes = 8 := by kernel_rfl
@[simp] theorem agg217 : aggT Tryz.prog 217 = some false := by kernel_rfl
@[simp] theorem slot217 : slotSize Tryz.prog 217 = 0 := by kernel_rfl
attribute [simp] Tryz.underlying217
@[simp] theorem zero217 : zeroV Tryz.prog 217 = some (.nilx 0) := by kernel_rfl
@[simp] theorem inf224 : Tryz.prog.info? 224 = some Tryz.t224 := by kernel_rfl
@[simp] theorem tsz224 : Tryz.t224.size = 256 := by kernel_rfl
@[simp] theorem tby224 : Tryz.t224.bytes = 256 := by kernel_rfl
@[simp] theorem agg224 : aggT Tryz.prog 224 = some true := by kernel_rfl
@[simp] theorem slot224 : slotSize Tryz.prog 224 = 0 := by kernel_rfl
attribute [simp] Tryz.underlying224
@[simp] theorem zero224 : zeroV Tryz.prog 224 = some (.agg [(.bool false), (.bool false), (.bool false), (.bool false), (.bool false), (.bool false), (.bool false), (.bool false), (.bool false), (.bool false), (.bool false), (.bool false), (.bool false), (.bool false), (.bool false), (.bool false), (.bool false), (.bool false), (.bool false), (.bool false), (.bool false), (.bool false), (.bool false), (.bool false), (.bool false), (.bool false), (.bool false), (.bool false), (.bool false), (.bool false), (.bool false), (.bool false), (.bool false), (.bool false), (.bool false), (.bool false), (.bool false), (.bool false), (.bool false), (.bool false), (.bool false), (.bool false), (.bool false), (.bool false), (.bool false), (.bool false), (.bool false), (.bool false), (.bool false), (.bool false), (.bool false), (.bool false), (.bool false), (.bool false), (.bool false), (.bool false), (.bool false), (.bool false), (.bool false), (.bool false), (.bool false), (.bool false), (.bool false), (.bool false), (.bool false), (.bool false), (.bool false), (.bool false), (.bool false), (.bool false), (.bool false), (.bool false), (.bool false), (.bool false), (.bool false), (.bool false), (.bool false), (.bool false), (.bool false), (.bool false), (.bool false), (.bool false), (.bool false), (.bool false), (.bool false), (.bool false), (.bool false), (.bool false), (.bool false), (.bool false), (.bool false), (.bool false), (.bool false), (.bool false), (.bool false), (.bool false), (.bool false), (.bool false), (.bool false), (.bool false), (.bool false), (.bool false), (.bool false), (.bool false), (.bool false), (.bool false), (.bool false), (.bool false), (.bool false), (.bool false), (.bool false), (.bool false), (.bool false), (.bool false), (.bool false), (.bool false), (.bool false), (.bool false), (.bool false), (.bool false), (.bool false), (.bool false), (.bool false), (.bool false), (.bool false), (.bool false), (.bool false), (.bool false), (.bool false), (.bool false), (.bool false), (.bool false), (.bool false), (.bool false), (.bool false), (.bool false), (.bool false), (.bool false), (.bool false), (.bool false), (.bool false), (.bool false), (.bool false), (.bool false), (.bool false), (.bool false), (.bool false), (.bool false), (.bool false), (.bool false), (.bool false), (.bool false), (.bool false), (.bool false), (.bool false), (.bool false), (.bool false), (.bool false), (.bool false), (.bool false), (.bool false), (.bool false), (.bool false), (.bool false), (.bool false), (.bool false), (.bool false), (.bool false), (.bool false), (.bool false), (.bool false), (.bool false), (.bool false), (.bool false), (.bool false), (.bool false), (.bool false), (.bool false), (.bool false), (.bool false), (.bool false), (.bool false), (.bool false), (.bool false), (.bool false), (.bool false), (.bool false), (.bool false), (.bool false), (.bool false), (.bool false), (.bool false), (.bool false), (.bool false), (.bool false), (.bool false), (.bool false), (.bool false), (.bool false), (.bool false), (.bool false), (.bool false), (.bool false), (.bool false), (.bool false), (.bool false), (.bool false), (.bool false), (.bool false), (.bool false), (.bool false), (.bool false), (.bool false), (.bool false), (.bool false), (.bool false), (.bool false), (.bool false), (.bool false), (.bool false), (.bool false), (.bool false), (.bool false), (.bool false), (.bool false), (.bool false), (.bool false), (.bool false), (.bool false), (.bool false), (.bool false), (.bool false), (.bool false), (.bool false), (.bool false), (.bool false), (.bool false), (.bool false), (.bool false), (.bool false), (.bool false), (.bool false), (.bool false), (.bool false), (.bool false), (.bool false), (.bool false), (.bool false), (.bool false), (.bool false), (.bool false), (.bool false), (.bool false), (.bool false), (.bool false), (.bool false)]) := by kernel_rfl
@[simp] theorem inf228 : Tryz.prog.info? 228 = some Tryz.t228 := by kernel_rfl
@[simp] theorem tsz228 : Tryz.t228.size = 1 := by kernel_rfl
@[simp] theorem tby228 : Tryz.t228.bytes = 8 := by kernel_rfl
@[simp] theorem agg228 : aggT Tryz.prog 228 = some false := by kernel_rfl
@[simp] theorem slot228 : slotSize Tryz.prog 228 = 0 := by kernel_rfl
attribute [simp] Tryz.underlying228
@[simp] theorem zero228 : zeroV Tryz.prog 228 = some (.nilx 0) := by kernel_rfl
@[simp] theorem inf233 : Tryz.prog.info? 233 = some Tryz.t233 := by kernel_rfl
@[simp] theorem tsz233 : Tryz.t233.size = 1 := by kernel_rfl
@[simp] theorem tby233 : Tryz.t233.bytes = 4 := by kernel_rfl
@[simp] theorem agg233 : aggT Tryz.prog 233 = some false := by kernel_rfl
@[simp] theorem slot233 : slotSize Tryz.prog 233 = 0 := by kernel_rfl
attribute [simp] Tryz.underlying233
@[simp] theorem zero233 : zeroV Tryz.prog 233 = some (.int .u32 0) := by kernel_rfl
@[simp] theorem inf236 : Tryz.prog.info? 236 = some Tryz.t236 := by kernel_rfl
@[simp] theorem tsz236 : Tryz.t236.size = 1 := by kernel_rfl
@[simp] theorem tby236 : Tryz.t236.bytes = 8 := by kernel_rfl
@[simp] theorem agg236 : aggT Tryz.prog 236 = some false := by kernel_rfl
@[simp] theorem slot236 : slotSize Tryz.prog 236 = 0 := by kernel_rfl
attribute [simp] Tryz.underlying236
@[simp] theorem zero236 : zeroV Tryz.prog 236 = some (.int .u64 0) := by kernel_rfl
@[simp] theorem inf256 : Tryz.prog.info? 256 = some Tryz.t256 := by kernel_rfl
@[simp] theorem tsz256 : Tryz.t256.size = 256 := by kernel_rfl
@[simp] theorem tby256 : Tryz.t256.bytes = 256 := by kernel_rfl
@[simp] theorem agg256 : aggT Tryz.prog 256 = some true := by kernel_rfl
@[simp] theorem slot256 : slotSize Tryz.prog 256 = 0 := by kernel_rfl
attribute [simp] Tryz.underlying256
@[simp] theorem zero256 : zeroV Tryz.prog 256 = some (.agg [(.int .u8 0), (.int .u8 0), (.int .u8 0), (.int .u8 0), (.int .u8 0), (.int .u8 0), (.int .u8 0), (.int .u8 0), (.int .u8 0), (.int .u8 0), (.int .u8 0), (.int .u8 0), (.int .u8 0), (.int .u8 0), (.int .u8 0), (.int .u8 0), (.int .u8 0), (.int .u8 0), (.int .u8 0), (.int .u8 0), (.int .u8 0), (.int .u8 0), (.int .u8 0), (.int .u8 0), (.int .u8 0), (.int .u8 0), (.int .u8 0), (.int .u8 0), (.int .u8 0), (.int .u8 0), (.int .u8 0), (.int .u8 0), (.int .u8 0), (.int .u8 0), (.int .u8 0), (.int .u8 0), (.int .u8 0), (.int .u8 0), (.int .u8 0), (.int .u8 0), (.int .u8 0), (.int .u8 0), (.int .u8 0), (.int .u8 0), (.int .u8 0), (.int .u8 0), (.int .u8 0), (.int .u8 0), (.int .u8 0), (.int .u8 0), (.int .u8 0), (.int .u8 0), (.int .u8 0), (.int .u8 0), (.int .u8 0), (.int .u8 0), (.int .u8 0), (.int .u8 0), (.int .u8 0), (.int .u8 0), (.int .u8 0), (.int .u8 0), (.int .u8 0), (.int .u8 0), (.int .u8 0), (.int .u8 0), (.int .u8 0), (.int .u8 0), (.int .u8 0), (.int .u8 0), (.int .u8 0), (.int .u8 0), (.int .u8 0), (.int .u8 0), (.int .u8 0), (.int .u8 0), (.int .u8 0), (.int .u8 0), (.int .u8 0), (.int .u8 0), (.int .u8 0), (.int .u8 0), (.int .u8 0), (.int .u8 0), (.int .u8 0), (.int .u8 0), (.int .u8 0), (.int .u8 0), (.int .u8 0), (.int .u8 0), (.int .u8 0), (.int .u8 0), (.int .u8 0), (.int .u8 0), (.int .u8 0), (.int .u8 0), (.int .u8 0), (.int .u8 0), (.int .u8 0), (.int .u8 0), (.int .u8 0), (.int .u8 0), (.int .u8 0), (.int .u8 0), (.int .u8 0), (.int .u8 0), (.int .u8 0), (.int .u8 0), (.int .u8 0), (.int .u8 0), (.int .u8 0), (.int .u8 0), (.int .u8 0), (.int .u8 0), (.int .u8 0), (.int .u8 0), (.int .u8 0), (.int .u8 0), (.int .u8 0), (.int .u8 0), (.int .u8 0), (.int .u8 0), (.int .u8 0), (.int .u8 0), (.int .u8 0), (.int .u8 0), (.int .u8 0), (.int .u8 0), (.int .u8 0), (.int .u8 0), (.int .u8 0), (.int .u8 0), (.int .u8 0), (.int .u8 0), (.int .u8 0), (.int .u8 0), (.int .u8 0), (.int .u8 0), (.int .u8 0), (.int .u8 0), (.int .u8 0), (.int .u8 0), (.int .u8 0), (.int .u8 0), (.int .u8 0), (.int .u8 0), (.int .u8 0), (.int .u8 0), (.int .u8 0), (.int .u8 0), (.int .u8 0), (.int .u8 0), (.int .u8 0), (.int .u8 0), (.int .u8 0), (.int .u8 0), (.int .u8 0), (.int .u8 0), (.int .u8 0), (.int .u8 0), (.int .u8 0), (.int .u8 0), (.int .u8 0), (.int .u8 0), (.int .u8 0), (.int .u8 0), (.int .u8 0), (.int .u8 0), (.int .u8 0), (.int .u8 0), (.int .u8 0), (.int .u8 0), (.int .u8 0), (.int .u8 0), (.int .u8 0), (.int .u8 0), (.int .u8 0), (.int .u8 0), (.int .u8 0), (.int .u8 0), (.int .u8 0), (.int .u8 0), (.int .u8 0), (.int .u8 0), (.int .u8 0), (.int .u8 0), (.int .u8 0), (.int .u8 0), (.int .u8 0), (.int .u8 0), (.int .u8 0), (.int .u8 0), (.int .u8 0), (.int .u8 0), (.int .u8 0), (.int .u8 0), (.int .u8 0), (.int .u8 0), (.int .u8 0), (.int .u8 0), (.int .u8 0), (.int .u8 0), (.int .u8 0), (.int .u8 0), (.int .u8 0), (.int .u8 0), (.int .u8 0), (.int .u8 0), (.int .u8 0), (.int .u8 0), (.int .u8 0), (.int .u8 0), (.int .u8 0), (.int .u8 0), (.int .u8 0), (.int .u8 0), (.int .u8 0), (.int .u8 0), (.int .u8 0), (.int .u8 0), (.int .u8 0), (.int .u8 0), (.int .u8 0), (.int .u8 0), (.int .u8 0), (.int .u8 0), (.int .u8 0), (.int .u8 0), (.int .u8 0), (.int .u8 0), (.int .u8 0), (.int .u8 0), (.int .u8 0), (.int .u8 0), (.int .u8 0), (.int .u8 0), (.int .u8 0), (.int .u8 0), (.int .u8 0), (.int .u8 0), (.int .u8 0), (.int .u8 0), (.int .u8 0), (.int .u8 0), (.int .u8 0), (.int .u8 0), (.int .u8 0), (.int .u8 0), (.int .u8 0), (.int .u8 0), (.int .u8 0), (.int .u8 0), (.int .u8 0), (.int .u8 0), (.int .u8 0), (.int .u8 0)]) := by kernel_rfl
@[simp] theorem inf258 : Tryz.prog.info? 258 = some Tryz.t258 := by kernel_rfl
@[simp] theorem tsz258 : Tryz.t258.size = 2 := by kernel_rfl
@[simp] theorem tby258 : Tryz.t258.bytes = 2 := by kernel_rfl
@[simp] theorem agg258 : aggT Tryz.prog 258 = some true := by kernel_rfl
@[simp] theorem slot258 : slotSize Tryz.prog 258 = 0 := by kernel_rfl
attribute [simp] Tryz.underlying258
@[simp] theorem zero258 : zeroV Tryz.prog 258 = some (.agg [(.int .u8 0), (.int .u8 0)]) := by kernel_rfl
@[simp] theorem slots258 : slotSizes Tryz.prog 258 = [0, 0] := by kernel_rfl
noncomputable def F258_0 : Field := (fieldOf Tryz.prog 258 0).getD default
@[simp] theorem fo258_0 : fieldOf Tryz.prog 258 0 = some F258_0 := by kernel_rfl
@[simp] theorem ft258_0 : F258_0.type = 5 := by kernel_rfl
@[simp] theorem fx258_0 : F258_0.offset = 0 := by kernel_rfl
noncomputable def F258_1 : Field := (fieldOf Tryz.prog 258 1).getD default
@[simp] theorem fo258_1 : fieldOf Tryz.prog 258 1 = some F258_1 := by kernel_rfl
@[simp] theorem ft258_1 : F258_1.type = 5 := by kernel_rfl
@[simp] theorem fx258_1 : F258_1.offset = 1 := by kernel_rfl
@[simp] theorem inf259 : Tryz.prog.info? 259 = some Tryz.t259 := by kernel_rfl
@[simp] theorem tsz259 : Tryz.t259.size = 32 := by kernel_rfl
@[simp] theorem tby259 : Tryz.t259.bytes = 32 := by kernel_rfl
@[simp] theorem agg259 : aggT Tryz.prog 259 = some true := by kernel_rfl
@[simp] theorem slot259 : slotSize Tryz.prog 259 = 0 := by kernel_rfl
attribute [simp] Tryz.underlying259
@[simp] theorem zero259 : zeroV Tryz.prog 259 = some (.agg [(.int .u8 0), (.int .u8 0), (.int .u8 0), (.int .u8 0), (.int .u8 0), (.int .u8 0), (.int .u8 0), (.int .u8 0), (.int .u8 0), (.int .u8 0), (.int .u8 0), (.int .u8 0), (.int .u8 0), (.int .u8 0), (.int .u8 0), (.int .u8 0), (.int .u8 0), (.int .u8 0), (.int .u8 0), (.int .u8 0), (.int .u8 0), (.int .u8 0), (.int .u8 0), (.int .u8 0), (.int .u8 0), (.int .u8 0), (.int .u8 0), (.int .u8 0), (.int .u8 0), (.int .u8 0), (.int .u8 0), (.int .u8 0)]) := by kernel_rfl
-- T 0 ()
-- T 1 func()
-- T 2 int64
-- T 3 int
-- T 4 bool
-- T 5 uint8
-- T 6 abi.BoundsErrorCode
-- T 7 struct { x int64; y int; signed bool; code abi.BoundsErrorCode }
-- T 8 runtime.boundsError
-- T 9 string
-- T 10 runtime.errorString
-- T 11 runtime.plainError
-- T 12 uintptr
-- T 13 struct { msg string; addr uintptr }
-- T 14 runtime.errorAddressString
-- T 15 *runtime.TypeAssertionError
-- T 16 *runtime.PanicNilError
-- T 17 *abi.Type
-- T 18 struct { typ *abi.Type }
-- T 19 maps.unhashableTypeError
-- T 20 interface {}
-- T 21 int32
-- T 22 []string
-- T 23 []int
-- T 24 struct { Sectors []string; Bad []int }
-- T 25 api.Drive
-- T 26 struct { Dir int; Path string; To string; Inode int; Offset int; N int; Other int }
-- T 27 emulatorlaw40.Query
-- T 28 func(api.Drive) bool
-- T 29 func() bool
-- T 30 []api.Write
-- T 31 api.Errno
-- T 32 ([]api.Write, int, api.Errno)
-- T 33 func(api.Drive, int, string, int) ([]api.Write, int, api.Errno)
-- T 34 func([]api.Write, []api.Write) bool
-- T 35 func(api.Drive, emulatorlaw40.Query, int) bool
-- T 36 ([]api.Write, api.Errno)
-- T 37 func(api.Drive, int, int, string) ([]api.Write, api.Errno)
-- T 38 (string, api.Errno)
-- T 39 func(api.Drive, int, int, int) (string, api.Errno)
-- T 40 func(api.Drive, []api.Write) api.Drive
-- T 41 func(api.Drive, emulatorlaw40.Query, string) bool
-- T 42 [2]string
-- T 43 (int, api.Errno)
-- T 44 func(api.Drive, int, string) (int, api.Errno)
-- T 45 func(api.Drive, int, string, []int) ([]api.Write, api.Errno)
-- T 46 []api.Finding
-- T 47 func(api.Drive) []api.Finding
-- T 48 func(api.Drive, [2]string, int) bool
-- T 49 []api.Entry
-- T 50 ([]api.Entry, api.Errno)
-- T 51 func(api.Drive, int) ([]api.Entry, api.Errno)
-- T 52 func([]api.Entry, []api.Entry) bool
-- T 53 func(api.Drive, emulatorlaw40.Query) bool
-- T 54 []emulatorlaw40.Deed
-- T 55 func(emulatorlaw40.Deed) bool
-- T 56 struct { Kind int; N int; Path string; To string; S string }
-- T 57 emulatorlaw40.Deed
-- T 58 func(api.Drive, emulatorlaw40.Deed) ([]api.Write, api.Errno)
-- T 59 func(api.Drive, []api.Write) ([]api.Write, api.Errno)
-- T 60 func(api.Drive, []emulatorlaw40.Deed) bool
-- T 61 func(api.Drive) ([]api.Write, api.Errno)
-- T 62 func(api.Drive, api.Drive) bool
-- T 63 func(api.Drive, emulatorlaw40.Deed, int) bool
-- T 64 func(api.Drive, int, string, string) ([]api.Write, api.Errno)
-- T 65 func(api.Drive, int) ([]api.Write, api.Errno)
-- T 66 func(api.Drive, emulatorlaw40.Query, []int) bool
-- T 67 (api.Drive, api.Errno)
-- T 68 func(int, int) (api.Drive, api.Errno)
-- T 69 struct { Sector int; Data string }
-- T 70 api.Write
-- T 71 func(api.Drive, int) bool
-- T 72 func(api.Drive) api.Errno
-- T 73 struct { in int; entries []api.Entry; name string }
-- T 74 fs.place
-- T 75 (fs.place, api.Errno)
-- T 76 func(api.Drive, int, string) (fs.place, api.Errno)
-- T 77 (int, bool)
-- T 78 func([]api.Entry, string) (int, bool)
-- T 79 func(api.Drive) (int, api.Errno)
-- T 80 *fs.operation
-- T 81 struct { d api.Drive; l []api.Write }
-- T 82 fs.operation
-- T 83 func(...func() api.Errno) api.Errno
-- T 84 func() api.Errno
-- T 85 func(*fs.place, int) func() api.Errno
-- T 86 *fs.place
-- T 87 func(int, api.Inode) func() api.Errno
-- T 88 [8]int
-- T 89 struct { Kind int; Links int; Size int; Sectors [8]int }
-- T 90 api.Inode
-- T 91 func(*fs.place) func() api.Errno
-- T 92 struct { D api.Drive; L []api.Write; E api.Errno }
-- T 93 emulatorref40.op
-- T 94 func(api.Drive) emulatorref40.op
-- T 95 (int, []api.Entry, string, api.Errno)
-- T 96 func(api.Drive, int, string) (int, []api.Entry, string, api.Errno)
-- T 97 (api.Write, api.Errno)
-- T 98 func(api.Drive, int, api.Inode) (api.Write, api.Errno)
-- T 99 func(api.Write, api.Errno) emulatorref40.op
-- T 100 func([]api.Entry, string, int) ([]api.Entry, api.Errno)
-- T 101 func(int, []api.Entry, api.Errno) emulatorref40.op
-- T 102 func() ([]api.Write, api.Errno)
-- T 103 (api.Inode, api.Errno)
-- T 104 func(api.Drive, int) (api.Inode, api.Errno)
-- T 105 func(api.Drive, api.Inode) (string, api.Errno)
-- T 106 func(api.Drive, int, string) ([]api.Write, api.Errno)
-- T 107 (api.Drive, int, api.Errno)
-- T 108 func(api.Drive, []api.Write, int) (api.Drive, int, api.Errno)
-- T 109 (bool, []string, api.Errno)
-- T 110 func(string) (bool, []string, api.Errno)
-- T 111 func(api.Drive, int, []string) (int, api.Errno)
-- T 112 (int, []string, api.Errno)
-- T 113 func(int, string) (int, []string, api.Errno)
-- T 114 func([]int, int) bool
-- T 115 func([]api.Entry, string) ([]api.Entry, api.Errno)
-- T 116 []func() api.Errno
-- T 117 func(int) func() api.Errno
-- T 118 func(api.Errno) ([]api.Write, api.Errno)
-- T 119 struct { Start int; Count int }
-- T 120 api.Extent
-- T 121 [32]api.Inode
-- T 122 [32]bool
-- T 123 struct { D api.Drive; Files api.Extent; Swap api.Extent; Inodes [32]api.Inode; Good [32]bool }
-- T 124 emulatorref41.found
-- T 125 (emulatorref41.found, bool)
-- T 126 func(api.Drive) (emulatorref41.found, bool)
-- T 127 struct { Kind int; A int; B int }
-- T 128 api.Finding
-- T 129 ([]api.Finding, []api.Finding)
-- T 130 func(emulatorref41.found) ([]api.Finding, []api.Finding)
-- T 131 ([]api.Entry, bool)
-- T 132 func(emulatorref41.found, int) ([]api.Entry, bool)
-- T 133 func(emulatorref41.found, int) bool
-- T 134 struct { Name string; Inode int }
-- T 135 api.Entry
-- T 136 [32]int
-- T 137 func(emulatorref41.found) [32]int
-- T 138 func(emulatorref41.found) [32]bool
-- T 139 func(emulatorref41.found) string
-- T 140 (api.Extent, api.Extent, api.Errno)
-- T 141 func(api.Drive) (api.Extent, api.Extent, api.Errno)
-- T 142 func([]api.Write) []api.Write
-- T 143 func(int, int) string
-- T 144 func(string) string
-- T 145 ([]int, bool)
-- T 146 func(string, int) ([]int, bool)
-- T 147 func(api.Drive, api.Drive) []int
-- T 148 func(int, api.Inode, api.Inode) emulatorref40.op
-- T 149 func(int) emulatorref40.op
-- T 150 func() string
-- T 151 (api.Extent, string, api.Errno)
-- T 152 func(api.Drive) (api.Extent, string, api.Errno)
-- T 153 func(string, int) bool
-- T 154 func(api.Write, api.Errno) api.Errno
-- T 155 func([]api.Entry) (string, api.Errno)
-- T 156 func(int, string) api.Errno
-- T 157 func([]api.Entry, string) int
-- T 158 (string, int, api.Errno)
-- T 159 func(api.Drive, int) (string, int, api.Errno)
-- T 160 func(api.Inode) bool
-- T 161 func(api.Inode) string
-- T 162 func(string) bool
-- T 163 func(int, string) emulatorref40.op
-- T 164 []uint8
-- T 165 func(int) int
-- T 166 func(api.Drive, int) (string, api.Errno)
-- T 167 func(string) (api.Inode, api.Errno)
-- T 168 func(api.Drive, int, string) (api.Drive, api.Errno)
-- T 169 func([]int, int) int
-- T 170 func(string) ([]api.Entry, api.Errno)
-- T 171 func([]api.Entry, int, int) []api.Entry
-- T 172 func([]api.Entry) []api.Entry
-- T 173 func(api.Inode) int
-- T 174 func(emulatorref41.found, [32]bool, int, int) bool
-- T 175 (string, bool)
-- T 176 func(emulatorref41.found, api.Inode) (string, bool)
-- T 177 (int, int, api.Errno)
-- T 178 func(string, int, int) (int, int, api.Errno)
-- T 179 func(api.Drive) (int, bool)
-- T 180 func(int) bool
-- T 181 func([]api.Entry, int, ...api.Entry) []api.Entry
-- T 182 func([]api.Entry) bool
-- T 183 *strings.Builder
-- T 184 struct { addr *strings.Builder; buf []uint8 }
-- T 185 strings.Builder
-- T 186 interface { Error() string }
-- T 187 error
-- T 188 (int, error)
-- T 189 func(string) (int, error)
-- T 190 func(string, int) string
-- T 191 *fs.setting
-- T 192 struct { *fs.operation; n int; s string; old api.Inode; next api.Inode; added []int; freed []int }
-- T 193 fs.setting
-- T 194 ([]int, api.Errno)
-- T 195 func(api.Drive) ([]int, api.Errno)
-- T 196 func(api.Inode, string) emulatorref40.op
-- T 197 func([]int, []int) emulatorref40.op
-- T 198 map[int]bool
-- T 199 func(api.Drive) map[int]bool
-- T 200 func(string, int) int
-- T 201 func(int) string
-- T 202 func(string) ([]int, api.Errno)
-- T 203 func(func(string) bool)
-- T 204 func(string) func(func(string) bool)
-- T 205 func(string, string) string
-- T 206 func([]api.Entry, string, func(api.Entry, string) int) (int, bool)
-- T 207 func(string, string) int
-- T 208 func(api.Entry, string) int
-- T 209 func(int, int) bool
-- T 210 func([]api.Entry, int)
-- T 211 uint
-- T 212 (uint, uint)
-- T 213 func(uint, uint) (uint, uint)
-- T 214 func(string, string) bool
-- T 215 func(int)
-- T 216 func() int
-- T 217 *uint8
-- T 218 func(api.Drive, []int, bool) (api.Write, api.Errno)
-- T 219 func(api.Entry) bool
-- T 220 (string, string, bool)
-- T 221 func(string, string) (string, string, bool)
-- T 222 func(string, uint8) string
-- T 223 [256]bool
-- T 224 strings.asciiSet
-- T 225 (strings.asciiSet, bool)
-- T 226 func(string) (strings.asciiSet, bool)
-- T 227 func(string, *strings.asciiSet) string
-- T 228 *strings.asciiSet
-- T 229 func(api.Drive) api.Drive
-- T 230 func(api.Drive, map[int]bool, api.Write) api.Errno
-- T 231 unsafe.Pointer
-- T 232 func(unsafe.Pointer) unsafe.Pointer
-- T 233 uint32
-- T 234 (uint32, uint32)
-- T 235 func(uint32, uint32) (uint32, uint32)
-- T 236 uint64
-- T 237 (uint64, uint64)
-- T 238 func(uint64, uint64) (uint64, uint64)
-- T 239 (api.Extent, []uint8, api.Errno)
-- T 240 func(api.Drive) (api.Extent, []uint8, api.Errno)
-- T 241 func([]uint8, int) bool
-- T 242 func(api.Extent, int) bool
-- T 243 func(string, int, bool) string
-- T 244 func(uint8) bool
-- T 245 (int32, int)
-- T 246 func(string) (int32, int)
-- T 247 func(string, int32) bool
-- T 248 func([]api.Entry)
-- T 249 func([]string) []string
-- T 250 func([]int) []int
-- T 251 func(int) []uint8
-- T 252 func(string, int32) int
-- T 253 func(string, uint8) int
-- T 254 func(int32) bool
-- T 255 func(string) (uint32, uint32)
-- T 256 [256]uint8
-- T 257 struct { lo uint8; hi uint8 }
-- T 258 utf8.acceptRange
-- T 259 [16]utf8.acceptRange
-- T 260 struct { _interface *abi.Type; concrete *abi.Type; asserted *abi.Type; missingMethod string }
-- T 261 runtime.TypeAssertionError
-- T 262 [0]*runtime.PanicNilError
-- T 263 struct { _ [0]*runtime.PanicNilError }
-- T 264 runtime.PanicNilError
-- T 265 abi.TFlag
-- T 266 abi.Kind
-- T 267 func(unsafe.Pointer, unsafe.Pointer) bool
-- T 268 abi.NameOff
-- T 269 abi.TypeOff
-- T 270 struct { Size_ uintptr; PtrBytes uintptr; Hash uint32; TFlag abi.TFlag; Align_ uint8; FieldAlign_ uint8; Kind_ abi.Kind; Equal func(unsafe.Pointer, unsafe.Pointer) bool; GCData *uint8; Str abi.NameOff; PtrToThis abi.TypeOff }
-- T 271 abi.Type
-- LOUD [44, 45, 46, 70, 103, 107, 146, 149, 150, 151, 152, 153, 180]
@[simp] theorem k7_4 : DC.keep 7 4 = some [1, 2, 5] := rfl
@[simp] theorem k10_2 : DC.keep 10 2 = some [1, 3] := rfl
@[simp] theorem k14_4 : DC.keep 14 4 = some [0, 1, 5] := rfl
@[simp] theorem k23_8 : DC.keep 23 8 = some [1, 3, 5, 6] := rfl
@[simp] theorem k23_15 : DC.keep 23 15 = some [1, 3, 5, 9] := rfl
@[simp] theorem k23_21 : DC.keep 23 21 = some [1, 3, 5, 12] := rfl
@[simp] theorem k23_25 : DC.keep 23 25 = some [1, 3, 5, 12, 13, 15] := rfl
@[simp] theorem k23_32 : DC.keep 23 32 = some [1, 3, 5, 16, 17] := rfl
@[simp] theorem k23_38 : DC.keep 23 38 = some [1, 3, 5, 18, 19] := rfl
@[simp] theorem k23_44 : DC.keep 23 44 = some [1, 5, 20, 21] := rfl
@[simp] theorem k26_4 : DC.keep 26 4 = some [0, 1, 5] := rfl
@[simp] theorem k29_7 : DC.keep 29 7 = some [1, 7, 9] := rfl
@[simp] theorem k29_21 : DC.keep 29 21 = some [10, 11, 12, 13] := rfl
@[simp] theorem k30_13 : DC.keep 30 13 = some [1, 7, 9, 10] := rfl
@[simp] theorem k31_3 : DC.keep 31 3 = some [5, 6] := rfl
@[simp] theorem k37_5 : DC.keep 37 5 = some [0, 1, 4, 6, 7] := rfl
@[simp] theorem k41_2 : DC.keep 41 2 = some [1, 8, 9, 10] := rfl
@[simp] theorem k42_2 : DC.keep 42 2 = some [1, 4] := rfl
@[simp] theorem k43_2 : DC.keep 43 2 = some [6, 7, 8] := rfl
@[simp] theorem k50_2 : DC.keep 50 2 = some [1, 4] := rfl
@[simp] theorem k53_10 : DC.keep 53 10 = some [0, 1, 2, 8] := rfl
@[simp] theorem k57_3 : DC.keep 57 3 = some [2, 3, 6, 15, 16, 17] := rfl
@[simp] theorem k60_3 : DC.keep 60 3 = some [2, 3, 6, 7] := rfl
@[simp] theorem k61_2 : DC.keep 61 2 = some [1, 2, 3, 6, 9] := rfl
@[simp] theorem k63_8 : DC.keep 63 8 = some [0, 5, 6, 7] := rfl
@[simp] theorem k64_2 : DC.keep 64 2 = some [1, 2, 3, 8] := rfl
@[simp] theorem k66_2 : DC.keep 66 2 = some [1, 3, 14, 15, 16] := rfl
@[simp] theorem k72_5 : DC.keep 72 5 = some [1, 2, 4, 5, 7] := rfl
@[simp] theorem k72_11 : DC.keep 72 11 = some [1, 2, 8, 9] := rfl
@[simp] theorem k74_3 : DC.keep 74 3 = some [1, 4, 5, 6] := rfl
@[simp] theorem k74_6 : DC.keep 74 6 = some [1, 4, 5, 6, 7] := rfl
@[simp] theorem k77_3 : DC.keep 77 3 = some [1, 2, 3, 4] := rfl
@[simp] theorem k77_7 : DC.keep 77 7 = some [1, 2, 3, 4, 5, 7] := rfl
@[simp] theorem k78_4 : DC.keep 78 4 = some [1, 2, 3, 4] := rfl
@[simp] theorem k78_7 : DC.keep 78 7 = some [1, 2, 3, 4, 5] := rfl
@[simp] theorem k78_11 : DC.keep 78 11 = some [1, 2, 3, 4, 5, 6, 8] := rfl
@[simp] theorem k79_3 : DC.keep 79 3 = some [1, 3, 4] := rfl
@[simp] theorem k79_7 : DC.keep 79 7 = some [1, 3, 4, 5, 6] := rfl
@[simp] theorem k79_10 : DC.keep 79 10 = some [1, 3, 4, 5, 6, 7] := rfl
@[simp] theorem k83_3 : DC.keep 83 3 = some [0, 3, 4] := rfl
@[simp] theorem k83_6 : DC.keep 83 6 = some [0, 3, 4, 5] := rfl
@[simp] theorem k84_5 : DC.keep 84 5 = some [0, 1, 5, 6] := rfl
@[simp] theorem k85_2 : DC.keep 85 2 = some [3] := rfl
@[simp] theorem k86_2 : DC.keep 86 2 = some [1, 2, 5] := rfl
@[simp] theorem k87_7 : DC.keep 87 7 = some [0, 1, 6, 9, 10, 11] := rfl
@[simp] theorem k88_3 : DC.keep 88 3 = some [2, 3, 5, 6] := rfl
@[simp] theorem k91_2 : DC.keep 91 2 = some [0, 1, 5] := rfl
@[simp] theorem k95_3 : DC.keep 95 3 = some [0, 1, 5, 6] := rfl
@[simp] theorem k106_7 : DC.keep 106 7 = some [4, 15, 16, 17] := rfl
@[simp] theorem k108_2 : DC.keep 108 2 = some [0, 1, 5] := rfl
@[simp] theorem k110_7 : DC.keep 110 7 = some [1, 3, 4] := rfl
@[simp] theorem k111_3 : DC.keep 111 3 = some [1, 3, 4] := rfl
@[simp] theorem k112_4 : DC.keep 112 4 = some [0, 3] := rfl
@[simp] theorem k113_7 : DC.keep 113 7 = some [0, 4, 5] := rfl
@[simp] theorem k113_11 : DC.keep 113 11 = some [0, 4, 5, 6] := rfl
@[simp] theorem k114_24 : DC.keep 114 24 = some [1, 2, 3, 6, 7, 9, 10, 11, 12, 13, 16] := rfl
@[simp] theorem k114_28 : DC.keep 114 28 = some [1, 2, 3, 6, 7, 10, 11, 12, 13, 17] := rfl
@[simp] theorem k117_5 : DC.keep 117 5 = some [0, 2, 4, 5] := rfl
@[simp] theorem k124_2 : DC.keep 124 2 = some [0, 1, 7, 8] := rfl
@[simp] theorem k125_5 : DC.keep 125 5 = some [0, 4, 5] := rfl
@[simp] theorem k130_2 : DC.keep 130 2 = some [1, 2, 5] := rfl
@[simp] theorem k133_3 : DC.keep 133 3 = some [2, 3, 4, 5, 9, 10] := rfl
@[simp] theorem k133_6 : DC.keep 133 6 = some [2, 3, 4, 5, 9, 10, 11] := rfl
@[simp] theorem k134_3 : DC.keep 134 3 = some [2, 3, 6, 7] := rfl
@[simp] theorem k135_5 : DC.keep 135 5 = some [0, 4, 5] := rfl
@[simp] theorem k135_11 : DC.keep 135 11 = some [0, 4, 5, 6, 7, 8] := rfl
@[simp] theorem k136_4 : DC.keep 136 4 = some [1, 3] := rfl
@[simp] theorem k136_9 : DC.keep 136 9 = some [1, 4] := rfl
@[simp] theorem k137_7 : DC.keep 137 7 = some [0, 1, 2, 9, 10] := rfl
@[simp] theorem k139_4 : DC.keep 139 4 = some [21, 22, 23] := rfl
@[simp] theorem k143_7 : DC.keep 143 7 = some [3, 46, 47] := rfl
@[simp] theorem k144_3 : DC.keep 144 3 = some [3, 18, 19] := rfl
@[simp] theorem k145_3 : DC.keep 145 3 = some [0, 3, 6, 7, 8] := rfl
@[simp] theorem k147_3 : DC.keep 147 3 = some [0, 5, 12, 13] := rfl
@[simp] theorem k150_10 : DC.keep 150 10 = some [0, 3, 5, 6, 7] := rfl
@[simp] theorem k151_2 : DC.keep 151 2 = some [0, 14, 15] := rfl
@[simp] theorem k155_2 : DC.keep 155 2 = some [0, 3] := rfl
@[simp] theorem k156_6 : DC.keep 156 6 = some [4, 5, 7, 8] := rfl
@[simp] theorem k157_2 : DC.keep 157 2 = some [2, 3, 4, 6, 7] := rfl
@[simp] theorem k160_3 : DC.keep 160 3 = some [3, 8, 9, 10] := rfl
@[simp] theorem k162_2 : DC.keep 162 2 = some [1, 2, 5] := rfl
@[simp] theorem k163_3 : DC.keep 163 3 = some [0, 3, 4] := rfl
@[simp] theorem k164_5 : DC.keep 164 5 = some [0, 4, 15, 16] := rfl
@[simp] theorem k166_7 : DC.keep 166 7 = some [0, 1, 2, 9, 10] := rfl
@[simp] theorem k168_3 : DC.keep 168 3 = some [0, 1, 2, 8, 9, 10] := rfl
@[simp] theorem k171_4 : DC.keep 171 4 = some [1, 19, 20, 21] := rfl
@[simp] theorem k171_11 : DC.keep 171 11 = some [1, 5, 30, 31, 32] := rfl
@[simp] theorem k176_4 : DC.keep 176 4 = some [1, 2, 3, 6, 9, 17, 18, 19] := rfl
@[simp] theorem k182_6 : DC.keep 182 6 = some [4, 5, 7, 8] := rfl
@[simp] theorem k183_5 : DC.keep 183 5 = some [2, 6, 8, 9, 23, 24, 25] := rfl
@[simp] theorem k185_4 : DC.keep 185 4 = some [5] := rfl
@[simp] theorem k186_5 : DC.keep 186 5 = some [1, 2, 6, 8, 9, 11] := rfl
@[simp] theorem k187_0 : DC.keep 187 0 = some [0, 1] := rfl
@[simp] theorem k189_1 : DC.keep 189 1 = some [0, 1] := rfl
@[simp] theorem k190_2 : DC.keep 190 2 = some [0, 2, 4] := rfl
@[simp] theorem k191_1 : DC.keep 191 1 = some [0, 1] := rfl
@[simp] theorem k192_1 : DC.keep 192 1 = some [0, 1] := rfl
@[simp] theorem k209_10 : DC.keep 209 10 = some [0, 4, 5, 6] := rfl
@[simp] theorem k212_1 : DC.keep 212 1 = some [0, 2, 3] := rfl
@[simp] theorem k216_15 : DC.keep 216 15 = some [0, 1, 5, 6, 7, 8, 9, 10] := rfl
@[simp] theorem k223_5 : DC.keep 223 5 = some [0, 1, 5, 6, 7, 8, 9] := rfl
@[simp] theorem k223_11 : DC.keep 223 11 = some [0, 1, 5, 6, 7, 8, 10] := rfl
@[simp] theorem k228_3 : DC.keep 228 3 = some [0, 4, 5] := rfl
@[simp] theorem k228_8 : DC.keep 228 8 = some [4, 6, 7, 8] := rfl
@[simp] theorem bldT185 : bldT Tryz.prog 185 = some 5 := by kernel_rfl
end Go.Abs
