/- Proved here: the context in which this seat is evaluated. No condition but those that each theorem states. -/
import Derived.Test.YtbnnaaadblpgiaaGreatA7
import Derived.Test.YtbnnaaadblpgiaaGreatRows
namespace Go.Abs
open Go.Proofs
set_option maxRecDepth 100000
set_option linter.unusedVariables false
set_option linter.unusedSimpArgs false

def DF8 : Nat → List Nat := fun k => if k = 16 then [73, 74, 75] else if k = 17 then [78, 79, 80, 81, 83] else []
def DF42 : Nat → List Nat := fun k => if k = 5 then [23] else []

noncomputable def DC : Ctx where
  P := Tryz.prog
  ext f := match f with
    | 36 => some (cloneX 1 8)
    | 59 => some (repeatX)
    | 78 => some (cloneX 1 16)
    | 79 => some (mulX)
    | _ => none
  extE f := match f with
    | 34 => some (strX 92 5)
    | 50 => some (sortX)
    | 66 => some (copyX 92)
    | _ => none
  keep f k := match f, k with
    | 5, 6 => some [1, 3]
    | 6, 13 => some [2, 4, 6, 8, 10, 12, 63, 64]
    | 7, 13 => some [1, 2, 4, 6, 7, 8, 10, 12, 13]
    | 8, 9 => some [2, 4, 6, 7, 9, 45, 46]
    | 9, 9 => some [1, 2, 4, 6, 7, 9, 10]
    | 12, 4 => some [0, 1, 5]
    | 12, 9 => some [0, 1, 6]
    | 13, 4 => some [1, 3]
    | 13, 9 => some [1, 4]
    | 16, 2 => some [0, 3, 5]
    | 16, 7 => some [0, 3, 5, 6]
    | 17, 3 => some [1, 3, 4]
    | 18, 3 => some [1, 3, 4]
    | 21, 5 => some [0, 2, 4, 8, 25, 26, 27]
    | 21, 12 => some [0, 2, 4, 42, 43, 44]
    | 22, 3 => some [3, 6, 7]
    | 23, 5 => some [0, 1, 8, 19, 20]
    | 24, 4 => some [1, 2, 3, 6, 9, 17, 18, 19]
    | 26, 5 => some [0, 2, 4, 8, 9]
    | 27, 5 => some [0, 1, 2, 8, 9]
    | 30, 3 => some [3, 6, 7]
    | 33, 5 => some [1, 2, 8, 21, 22]
    | 35, 5 => some [0, 1, 5, 6]
    | 39, 5 => some [1, 2, 8, 9]
    | 40, 3 => some [0, 1, 2, 7, 8]
    | 43, 4 => some [0, 1, 5]
    | 44, 6 => some [1, 50, 51]
    | 57, 3 => some [3, 8, 9, 10]
    | 60, 2 => some [0, 4, 5, 7]
    | 63, 2 => some [1, 2, 5]
    | 64, 3 => some [0, 3, 4]
    | 68, 2 => some [0, 1, 7, 8]
    | 70, 5 => some [5, 6, 7, 8]
    | 74, 2 => some [0, 3, 7, 8, 9]
    | 75, 2 => some [0, 1, 2, 3, 8, 9]
    | 77, 2 => some [0, 1, 7, 8]
    | 84, 4 => some [0, 1, 5]
    | 88, 8 => some [7, 8]
    | 90, 1 => some [0, 1, 2, 6]
    | 90, 4 => some [0, 1, 2, 6, 7]
    | 91, 4 => some [0, 6, 7, 8, 9]
    | 91, 8 => some [0, 6, 7, 10]
    | 92, 5 => some [0, 1, 6, 7, 8, 9]
    | 94, 2 => some [0, 6, 7]
    | 95, 3 => some [0, 1, 2, 7, 8]
    | 95, 5 => some [0, 1, 2, 7, 8]
    | 95, 14 => some [0, 1, 2, 7, 8, 9]
    | 95, 20 => some [0, 1, 2, 7, 8, 10]
    | 97, 3 => some [0, 1, 9, 10]
    | 97, 5 => some [0, 1, 9, 10]
    | 98, 3 => some [0, 1, 10, 11]
    | 98, 5 => some [0, 1, 10, 11]
    | 98, 13 => some [0, 1, 10, 11]
    | 98, 15 => some [0, 1, 10, 11]
    | 105, 4 => some [0, 1, 5]
    | 106, 1 => some [0, 2, 3, 8]
    | _, _ => none
  body f := match f with
    | 3 => bodyOf Tryz.f3
    | 4 => bodyOf Tryz.f4
    | 5 => bodyOf Tryz.f5
    | 6 => bodyOf Tryz.f6
    | 7 => bodyOf Tryz.f7
    | 8 => bodyOf Tryz.f8
    | 9 => bodyOf Tryz.f9
    | 10 => bodyOf Tryz.f10
    | 11 => bodyOf Tryz.f11
    | 12 => bodyOf Tryz.f12
    | 13 => bodyOf Tryz.f13
    | 14 => bodyOf Tryz.f14
    | 15 => bodyOf Tryz.f15
    | 16 => bodyOf Tryz.f16
    | 17 => bodyOf Tryz.f17
    | 18 => bodyOf Tryz.f18
    | 19 => bodyOf Tryz.f19
    | 20 => bodyOf Tryz.f20
    | 21 => bodyOf Tryz.f21
    | 22 => bodyOf Tryz.f22
    | 23 => bodyOf Tryz.f23
    | 24 => bodyOf Tryz.f24
    | 25 => bodyOf Tryz.f25
    | 26 => bodyOf Tryz.f26
    | 27 => bodyOf Tryz.f27
    | 28 => bodyOf Tryz.f28
    | 29 => bodyOf Tryz.f29
    | 30 => bodyOf Tryz.f30
    | 31 => bodyOf Tryz.f31
    | 32 => bodyOf Tryz.f32
    | 33 => bodyOf Tryz.f33
    | 35 => bodyOf Tryz.f35
    | 37 => bodyOf Tryz.f37
    | 38 => bodyOf Tryz.f38
    | 39 => bodyOf Tryz.f39
    | 40 => bodyOf Tryz.f40
    | 41 => bodyOf Tryz.f41
    | 42 => bodyOf Tryz.f42
    | 43 => bodyOf Tryz.f43
    | 44 => bodyOf Tryz.f44
    | 45 => bodyOf Tryz.f45
    | 46 => bodyOf Tryz.f46
    | 47 => bodyOf Tryz.f47
    | 48 => bodyOf Tryz.f48
    | 49 => bodyOf Tryz.f49
    | 51 => bodyOf Tryz.f51
    | 52 => bodyOf Tryz.f52
    | 53 => bodyOf Tryz.f53
    | 54 => bodyOf Tryz.f54
    | 55 => bodyOf Tryz.f55
    | 56 => bodyOf Tryz.f56
    | 57 => bodyOf Tryz.f57
    | 58 => bodyOf Tryz.f58
    | 60 => bodyOf Tryz.f60
    | 61 => bodyOf Tryz.f61
    | 62 => bodyOf Tryz.f62
    | 63 => bodyOf Tryz.f63
    | 64 => bodyOf Tryz.f64
    | 65 => bodyOf Tryz.f65
    | 67 => bodyOf Tryz.f67
    | 68 => bodyOf Tryz.f68
    | 69 => bodyOf Tryz.f69
    | 70 => bodyOf Tryz.f70
    | 71 => bodyOf Tryz.f71
    | 72 => bodyOf Tryz.f72
    | 73 => bodyOf Tryz.f73
    | 74 => bodyOf Tryz.f74
    | 75 => bodyOf Tryz.f75
    | 76 => bodyOf Tryz.f76
    | 77 => bodyOf Tryz.f77
    | 80 => bodyOf Tryz.f80
    | 81 => bodyOf Tryz.f81
    | 82 => bodyOf Tryz.f82
    | 84 => bodyOf Tryz.f84
    | 85 => bodyOf Tryz.f85
    | 86 => bodyOf Tryz.f86
    | 87 => bodyOf Tryz.f87
    | 88 => bodyOf Tryz.f88
    | 89 => bodyOf Tryz.f89
    | 90 => bodyOf Tryz.f90
    | 91 => bodyOf Tryz.f91
    | 92 => bodyOf Tryz.f92
    | 93 => bodyOf Tryz.f93
    | 94 => bodyOf Tryz.f94
    | 95 => bodyOf Tryz.f95
    | 96 => bodyOf Tryz.f96
    | 97 => bodyOf Tryz.f97
    | 98 => bodyOf Tryz.f98
    | 99 => bodyOf Tryz.f99
    | 100 => bodyOf Tryz.f100
    | 101 => bodyOf Tryz.f101
    | 102 => bodyOf Tryz.f102
    | 103 => bodyOf Tryz.f103
    | 104 => bodyOf Tryz.f104
    | 105 => bodyOf Tryz.f105
    | 106 => bodyOf Tryz.f106
    | 107 => bodyOf Tryz.f107
    | 109 => bodyOf Tryz.f109
    | 110 => bodyOf Tryz.f110
    | 111 => bodyOf Tryz.f111
    | 113 => bodyOf Tryz.f113
    | _ => none
  free f := match f with
    | 8 => DF8
    | 42 => DF42
    | _ => fun _ => []
  direct f := ([35, 69] : List Nat).contains f
  loud f := ([32, 34, 81] : List Nat).contains f

@[simp] theorem DC_loud (f : FuncId) : DC.loud f = ([32, 34, 81] : List Nat).contains f := rfl
@[simp] theorem DCP : DC.P = Tryz.prog := rfl
theorem DF8_eq : DC.free 8 = DF8 := rfl
theorem DF42_eq : DC.free 42 = DF42 := rfl
@[simp] theorem call35 (xs : List V) (H : Heap) : callW DC false (.fn 35 []) xs H = bodyW DC 35 xs H := callW_direct rfl rfl
@[simp] theorem call69 (xs : List V) (H : Heap) : callW DC false (.fn 69 []) xs H = bodyW DC 69 xs H := callW_direct rfl rfl
@[simp] theorem call3 (d : Bool) (xs : List V) (H : Heap) : callW DC d (.fn 3 []) xs H = match sealL H xs with
    | some (ys, bs) => match bodyW DC 3 ys [] with
      | some (r, H') => some (ren (shift H.length) r, (if hasRo r || H'.any hasRoB then freeze H bs else H) ++ H'.map (renB (shift H.length)))
      | none => none
    | none => if d then none else bodyW DC 3 xs H := callW_body rfl rfl rfl
@[simp] theorem call4 (d : Bool) (xs : List V) (H : Heap) : callW DC d (.fn 4 []) xs H = match sealL H xs with
    | some (ys, bs) => match bodyW DC 4 ys [] with
      | some (r, H') => some (ren (shift H.length) r, (if hasRo r || H'.any hasRoB then freeze H bs else H) ++ H'.map (renB (shift H.length)))
      | none => none
    | none => if d then none else bodyW DC 4 xs H := callW_body rfl rfl rfl
@[simp] theorem call5 (d : Bool) (xs : List V) (H : Heap) : callW DC d (.fn 5 []) xs H = match sealL H xs with
    | some (ys, bs) => match bodyW DC 5 ys [] with
      | some (r, H') => some (ren (shift H.length) r, (if hasRo r || H'.any hasRoB then freeze H bs else H) ++ H'.map (renB (shift H.length)))
      | none => none
    | none => if d then none else bodyW DC 5 xs H := callW_body rfl rfl rfl
@[simp] theorem call6 (d : Bool) (xs : List V) (H : Heap) : callW DC d (.fn 6 []) xs H = match sealL H xs with
    | some (ys, bs) => match bodyW DC 6 ys [] with
      | some (r, H') => some (ren (shift H.length) r, (if hasRo r || H'.any hasRoB then freeze H bs else H) ++ H'.map (renB (shift H.length)))
      | none => none
    | none => if d then none else bodyW DC 6 xs H := callW_body rfl rfl rfl
@[simp] theorem call7 (d : Bool) (xs : List V) (H : Heap) : callW DC d (.fn 7 []) xs H = match sealL H xs with
    | some (ys, bs) => match bodyW DC 7 ys [] with
      | some (r, H') => some (ren (shift H.length) r, (if hasRo r || H'.any hasRoB then freeze H bs else H) ++ H'.map (renB (shift H.length)))
      | none => none
    | none => if d then none else bodyW DC 7 xs H := callW_body rfl rfl rfl
@[simp] theorem call8 (d : Bool) (xs : List V) (H : Heap) : callW DC d (.fn 8 []) xs H = match sealL H xs with
    | some (ys, bs) => match bodyW DC 8 ys [] with
      | some (r, H') => some (ren (shift H.length) r, (if hasRo r || H'.any hasRoB then freeze H bs else H) ++ H'.map (renB (shift H.length)))
      | none => none
    | none => if d then none else bodyW DC 8 xs H := callW_body rfl rfl rfl
@[simp] theorem call9 (d : Bool) (xs : List V) (H : Heap) : callW DC d (.fn 9 []) xs H = match sealL H xs with
    | some (ys, bs) => match bodyW DC 9 ys [] with
      | some (r, H') => some (ren (shift H.length) r, (if hasRo r || H'.any hasRoB then freeze H bs else H) ++ H'.map (renB (shift H.length)))
      | none => none
    | none => if d then none else bodyW DC 9 xs H := callW_body rfl rfl rfl
@[simp] theorem call10 (d : Bool) (xs : List V) (H : Heap) : callW DC d (.fn 10 []) xs H = match sealL H xs with
    | some (ys, bs) => match bodyW DC 10 ys [] with
      | some (r, H') => some (ren (shift H.length) r, (if hasRo r || H'.any hasRoB then freeze H bs else H) ++ H'.map (renB (shift H.length)))
      | none => none
    | none => if d then none else bodyW DC 10 xs H := callW_body rfl rfl rfl
@[simp] theorem call11 (d : Bool) (xs : List V) (H : Heap) : callW DC d (.fn 11 []) xs H = match sealL H xs with
    | some (ys, bs) => match bodyW DC 11 ys [] with
      | some (r, H') => some (ren (shift H.length) r, (if hasRo r || H'.any hasRoB then freeze H bs else H) ++ H'.map (renB (shift H.length)))
      | none => none
    | none => if d then none else bodyW DC 11 xs H := callW_body rfl rfl rfl
@[simp] theorem call12 (d : Bool) (xs : List V) (H : Heap) : callW DC d (.fn 12 []) xs H = match sealL H xs with
    | some (ys, bs) => match bodyW DC 12 ys [] with
      | some (r, H') => some (ren (shift H.length) r, (if hasRo r || H'.any hasRoB then freeze H bs else H) ++ H'.map (renB (shift H.length)))
      | none => none
    | none => if d then none else bodyW DC 12 xs H := callW_body rfl rfl rfl
@[simp] theorem call13 (d : Bool) (xs : List V) (H : Heap) : callW DC d (.fn 13 []) xs H = match sealL H xs with
    | some (ys, bs) => match bodyW DC 13 ys [] with
      | some (r, H') => some (ren (shift H.length) r, (if hasRo r || H'.any hasRoB then freeze H bs else H) ++ H'.map (renB (shift H.length)))
      | none => none
    | none => if d then none else bodyW DC 13 xs H := callW_body rfl rfl rfl
@[simp] theorem call14 (d : Bool) (xs : List V) (H : Heap) : callW DC d (.fn 14 []) xs H = match sealL H xs with
    | some (ys, bs) => match bodyW DC 14 ys [] with
      | some (r, H') => some (ren (shift H.length) r, (if hasRo r || H'.any hasRoB then freeze H bs else H) ++ H'.map (renB (shift H.length)))
      | none => none
    | none => if d then none else bodyW DC 14 xs H := callW_body rfl rfl rfl
@[simp] theorem call15 (d : Bool) (xs : List V) (H : Heap) : callW DC d (.fn 15 []) xs H = match sealL H xs with
    | some (ys, bs) => match bodyW DC 15 ys [] with
      | some (r, H') => some (ren (shift H.length) r, (if hasRo r || H'.any hasRoB then freeze H bs else H) ++ H'.map (renB (shift H.length)))
      | none => none
    | none => if d then none else bodyW DC 15 xs H := callW_body rfl rfl rfl
@[simp] theorem call16 (d : Bool) (xs : List V) (H : Heap) : callW DC d (.fn 16 []) xs H = match sealL H xs with
    | some (ys, bs) => match bodyW DC 16 ys [] with
      | some (r, H') => some (ren (shift H.length) r, (if hasRo r || H'.any hasRoB then freeze H bs else H) ++ H'.map (renB (shift H.length)))
      | none => none
    | none => if d then none else bodyW DC 16 xs H := callW_body rfl rfl rfl
@[simp] theorem call17 (d : Bool) (xs : List V) (H : Heap) : callW DC d (.fn 17 []) xs H = match sealL H xs with
    | some (ys, bs) => match bodyW DC 17 ys [] with
      | some (r, H') => some (ren (shift H.length) r, (if hasRo r || H'.any hasRoB then freeze H bs else H) ++ H'.map (renB (shift H.length)))
      | none => none
    | none => if d then none else bodyW DC 17 xs H := callW_body rfl rfl rfl
@[simp] theorem call18 (d : Bool) (xs : List V) (H : Heap) : callW DC d (.fn 18 []) xs H = match sealL H xs with
    | some (ys, bs) => match bodyW DC 18 ys [] with
      | some (r, H') => some (ren (shift H.length) r, (if hasRo r || H'.any hasRoB then freeze H bs else H) ++ H'.map (renB (shift H.length)))
      | none => none
    | none => if d then none else bodyW DC 18 xs H := callW_body rfl rfl rfl
@[simp] theorem call19 (d : Bool) (xs : List V) (H : Heap) : callW DC d (.fn 19 []) xs H = match sealL H xs with
    | some (ys, bs) => match bodyW DC 19 ys [] with
      | some (r, H') => some (ren (shift H.length) r, (if hasRo r || H'.any hasRoB then freeze H bs else H) ++ H'.map (renB (shift H.length)))
      | none => none
    | none => if d then none else bodyW DC 19 xs H := callW_body rfl rfl rfl
@[simp] theorem call20 (d : Bool) (xs : List V) (H : Heap) : callW DC d (.fn 20 []) xs H = match sealL H xs with
    | some (ys, bs) => match bodyW DC 20 ys [] with
      | some (r, H') => some (ren (shift H.length) r, (if hasRo r || H'.any hasRoB then freeze H bs else H) ++ H'.map (renB (shift H.length)))
      | none => none
    | none => if d then none else bodyW DC 20 xs H := callW_body rfl rfl rfl
@[simp] theorem call21 (d : Bool) (xs : List V) (H : Heap) : callW DC d (.fn 21 []) xs H = match sealL H xs with
    | some (ys, bs) => match bodyW DC 21 ys [] with
      | some (r, H') => some (ren (shift H.length) r, (if hasRo r || H'.any hasRoB then freeze H bs else H) ++ H'.map (renB (shift H.length)))
      | none => none
    | none => if d then none else bodyW DC 21 xs H := callW_body rfl rfl rfl
@[simp] theorem call22 (d : Bool) (xs : List V) (H : Heap) : callW DC d (.fn 22 []) xs H = match sealL H xs with
    | some (ys, bs) => match bodyW DC 22 ys [] with
      | some (r, H') => some (ren (shift H.length) r, (if hasRo r || H'.any hasRoB then freeze H bs else H) ++ H'.map (renB (shift H.length)))
      | none => none
    | none => if d then none else bodyW DC 22 xs H := callW_body rfl rfl rfl
@[simp] theorem call23 (d : Bool) (xs : List V) (H : Heap) : callW DC d (.fn 23 []) xs H = match sealL H xs with
    | some (ys, bs) => match bodyW DC 23 ys [] with
      | some (r, H') => some (ren (shift H.length) r, (if hasRo r || H'.any hasRoB then freeze H bs else H) ++ H'.map (renB (shift H.length)))
      | none => none
    | none => if d then none else bodyW DC 23 xs H := callW_body rfl rfl rfl
@[simp] theorem call24 (d : Bool) (xs : List V) (H : Heap) : callW DC d (.fn 24 []) xs H = match sealL H xs with
    | some (ys, bs) => match bodyW DC 24 ys [] with
      | some (r, H') => some (ren (shift H.length) r, (if hasRo r || H'.any hasRoB then freeze H bs else H) ++ H'.map (renB (shift H.length)))
      | none => none
    | none => if d then none else bodyW DC 24 xs H := callW_body rfl rfl rfl
@[simp] theorem call25 (d : Bool) (xs : List V) (H : Heap) : callW DC d (.fn 25 []) xs H = match sealL H xs with
    | some (ys, bs) => match bodyW DC 25 ys [] with
      | some (r, H') => some (ren (shift H.length) r, (if hasRo r || H'.any hasRoB then freeze H bs else H) ++ H'.map (renB (shift H.length)))
      | none => none
    | none => if d then none else bodyW DC 25 xs H := callW_body rfl rfl rfl
@[simp] theorem call26 (d : Bool) (xs : List V) (H : Heap) : callW DC d (.fn 26 []) xs H = match sealL H xs with
    | some (ys, bs) => match bodyW DC 26 ys [] with
      | some (r, H') => some (ren (shift H.length) r, (if hasRo r || H'.any hasRoB then freeze H bs else H) ++ H'.map (renB (shift H.length)))
      | none => none
    | none => if d then none else bodyW DC 26 xs H := callW_body rfl rfl rfl
@[simp] theorem call27 (d : Bool) (xs : List V) (H : Heap) : callW DC d (.fn 27 []) xs H = match sealL H xs with
    | some (ys, bs) => match bodyW DC 27 ys [] with
      | some (r, H') => some (ren (shift H.length) r, (if hasRo r || H'.any hasRoB then freeze H bs else H) ++ H'.map (renB (shift H.length)))
      | none => none
    | none => if d then none else bodyW DC 27 xs H := callW_body rfl rfl rfl
@[simp] theorem call28 (d : Bool) (xs : List V) (H : Heap) : callW DC d (.fn 28 []) xs H = match sealL H xs with
    | some (ys, bs) => match bodyW DC 28 ys [] with
      | some (r, H') => some (ren (shift H.length) r, (if hasRo r || H'.any hasRoB then freeze H bs else H) ++ H'.map (renB (shift H.length)))
      | none => none
    | none => if d then none else bodyW DC 28 xs H := callW_body rfl rfl rfl
@[simp] theorem call29 (d : Bool) (xs : List V) (H : Heap) : callW DC d (.fn 29 []) xs H = match sealL H xs with
    | some (ys, bs) => match bodyW DC 29 ys [] with
      | some (r, H') => some (ren (shift H.length) r, (if hasRo r || H'.any hasRoB then freeze H bs else H) ++ H'.map (renB (shift H.length)))
      | none => none
    | none => if d then none else bodyW DC 29 xs H := callW_body rfl rfl rfl
@[simp] theorem call30 (d : Bool) (xs : List V) (H : Heap) : callW DC d (.fn 30 []) xs H = match sealL H xs with
    | some (ys, bs) => match bodyW DC 30 ys [] with
      | some (r, H') => some (ren (shift H.length) r, (if hasRo r || H'.any hasRoB then freeze H bs else H) ++ H'.map (renB (shift H.length)))
      | none => none
    | none => if d then none else bodyW DC 30 xs H := callW_body rfl rfl rfl
@[simp] theorem call31 (d : Bool) (xs : List V) (H : Heap) : callW DC d (.fn 31 []) xs H = match sealL H xs with
    | some (ys, bs) => match bodyW DC 31 ys [] with
      | some (r, H') => some (ren (shift H.length) r, (if hasRo r || H'.any hasRoB then freeze H bs else H) ++ H'.map (renB (shift H.length)))
      | none => none
    | none => if d then none else bodyW DC 31 xs H := callW_body rfl rfl rfl
@[simp] theorem call32 (d : Bool) (xs : List V) (H : Heap) : callW DC d (.fn 32 []) xs H = match sealL H xs with
    | some (ys, bs) => match bodyW DC 32 ys [] with
      | some (r, H') => some (ren (shift H.length) r, (if hasRo r || H'.any hasRoB then freeze H bs else H) ++ H'.map (renB (shift H.length)))
      | none => none
    | none => if d then none else bodyW DC 32 xs H := callW_body rfl rfl rfl
@[simp] theorem call33 (d : Bool) (xs : List V) (H : Heap) : callW DC d (.fn 33 []) xs H = match sealL H xs with
    | some (ys, bs) => match bodyW DC 33 ys [] with
      | some (r, H') => some (ren (shift H.length) r, (if hasRo r || H'.any hasRoB then freeze H bs else H) ++ H'.map (renB (shift H.length)))
      | none => none
    | none => if d then none else bodyW DC 33 xs H := callW_body rfl rfl rfl
@[simp] theorem call37 (d : Bool) (xs : List V) (H : Heap) : callW DC d (.fn 37 []) xs H = match sealL H xs with
    | some (ys, bs) => match bodyW DC 37 ys [] with
      | some (r, H') => some (ren (shift H.length) r, (if hasRo r || H'.any hasRoB then freeze H bs else H) ++ H'.map (renB (shift H.length)))
      | none => none
    | none => if d then none else bodyW DC 37 xs H := callW_body rfl rfl rfl
@[simp] theorem call38 (d : Bool) (xs : List V) (H : Heap) : callW DC d (.fn 38 []) xs H = match sealL H xs with
    | some (ys, bs) => match bodyW DC 38 ys [] with
      | some (r, H') => some (ren (shift H.length) r, (if hasRo r || H'.any hasRoB then freeze H bs else H) ++ H'.map (renB (shift H.length)))
      | none => none
    | none => if d then none else bodyW DC 38 xs H := callW_body rfl rfl rfl
@[simp] theorem call39 (d : Bool) (xs : List V) (H : Heap) : callW DC d (.fn 39 []) xs H = match sealL H xs with
    | some (ys, bs) => match bodyW DC 39 ys [] with
      | some (r, H') => some (ren (shift H.length) r, (if hasRo r || H'.any hasRoB then freeze H bs else H) ++ H'.map (renB (shift H.length)))
      | none => none
    | none => if d then none else bodyW DC 39 xs H := callW_body rfl rfl rfl
@[simp] theorem call40 (d : Bool) (xs : List V) (H : Heap) : callW DC d (.fn 40 []) xs H = match sealL H xs with
    | some (ys, bs) => match bodyW DC 40 ys [] with
      | some (r, H') => some (ren (shift H.length) r, (if hasRo r || H'.any hasRoB then freeze H bs else H) ++ H'.map (renB (shift H.length)))
      | none => none
    | none => if d then none else bodyW DC 40 xs H := callW_body rfl rfl rfl
@[simp] theorem call41 (d : Bool) (xs : List V) (H : Heap) : callW DC d (.fn 41 []) xs H = match sealL H xs with
    | some (ys, bs) => match bodyW DC 41 ys [] with
      | some (r, H') => some (ren (shift H.length) r, (if hasRo r || H'.any hasRoB then freeze H bs else H) ++ H'.map (renB (shift H.length)))
      | none => none
    | none => if d then none else bodyW DC 41 xs H := callW_body rfl rfl rfl
@[simp] theorem call42 (d : Bool) (xs : List V) (H : Heap) : callW DC d (.fn 42 []) xs H = match sealL H xs with
    | some (ys, bs) => match bodyW DC 42 ys [] with
      | some (r, H') => some (ren (shift H.length) r, (if hasRo r || H'.any hasRoB then freeze H bs else H) ++ H'.map (renB (shift H.length)))
      | none => none
    | none => if d then none else bodyW DC 42 xs H := callW_body rfl rfl rfl
@[simp] theorem call43 (d : Bool) (xs : List V) (H : Heap) : callW DC d (.fn 43 []) xs H = match sealL H xs with
    | some (ys, bs) => match bodyW DC 43 ys [] with
      | some (r, H') => some (ren (shift H.length) r, (if hasRo r || H'.any hasRoB then freeze H bs else H) ++ H'.map (renB (shift H.length)))
      | none => none
    | none => if d then none else bodyW DC 43 xs H := callW_body rfl rfl rfl
@[simp] theorem call44 (d : Bool) (xs : List V) (H : Heap) : callW DC d (.fn 44 []) xs H = match sealL H xs with
    | some (ys, bs) => match bodyW DC 44 ys [] with
      | some (r, H') => some (ren (shift H.length) r, (if hasRo r || H'.any hasRoB then freeze H bs else H) ++ H'.map (renB (shift H.length)))
      | none => none
    | none => if d then none else bodyW DC 44 xs H := callW_body rfl rfl rfl
@[simp] theorem call45 (d : Bool) (xs : List V) (H : Heap) : callW DC d (.fn 45 []) xs H = match sealL H xs with
    | some (ys, bs) => match bodyW DC 45 ys [] with
      | some (r, H') => some (ren (shift H.length) r, (if hasRo r || H'.any hasRoB then freeze H bs else H) ++ H'.map (renB (shift H.length)))
      | none => none
    | none => if d then none else bodyW DC 45 xs H := callW_body rfl rfl rfl
@[simp] theorem call46 (d : Bool) (xs : List V) (H : Heap) : callW DC d (.fn 46 []) xs H = match sealL H xs with
    | some (ys, bs) => match bodyW DC 46 ys [] with
      | some (r, H') => some (ren (shift H.length) r, (if hasRo r || H'.any hasRoB then freeze H bs else H) ++ H'.map (renB (shift H.length)))
      | none => none
    | none => if d then none else bodyW DC 46 xs H := callW_body rfl rfl rfl
@[simp] theorem call47 (d : Bool) (xs : List V) (H : Heap) : callW DC d (.fn 47 []) xs H = match sealL H xs with
    | some (ys, bs) => match bodyW DC 47 ys [] with
      | some (r, H') => some (ren (shift H.length) r, (if hasRo r || H'.any hasRoB then freeze H bs else H) ++ H'.map (renB (shift H.length)))
      | none => none
    | none => if d then none else bodyW DC 47 xs H := callW_body rfl rfl rfl
@[simp] theorem call48 (d : Bool) (xs : List V) (H : Heap) : callW DC d (.fn 48 []) xs H = match sealL H xs with
    | some (ys, bs) => match bodyW DC 48 ys [] with
      | some (r, H') => some (ren (shift H.length) r, (if hasRo r || H'.any hasRoB then freeze H bs else H) ++ H'.map (renB (shift H.length)))
      | none => none
    | none => if d then none else bodyW DC 48 xs H := callW_body rfl rfl rfl
@[simp] theorem call49 (d : Bool) (xs : List V) (H : Heap) : callW DC d (.fn 49 []) xs H = match sealL H xs with
    | some (ys, bs) => match bodyW DC 49 ys [] with
      | some (r, H') => some (ren (shift H.length) r, (if hasRo r || H'.any hasRoB then freeze H bs else H) ++ H'.map (renB (shift H.length)))
      | none => none
    | none => if d then none else bodyW DC 49 xs H := callW_body rfl rfl rfl
@[simp] theorem call51 (d : Bool) (xs : List V) (H : Heap) : callW DC d (.fn 51 []) xs H = match sealL H xs with
    | some (ys, bs) => match bodyW DC 51 ys [] with
      | some (r, H') => some (ren (shift H.length) r, (if hasRo r || H'.any hasRoB then freeze H bs else H) ++ H'.map (renB (shift H.length)))
      | none => none
    | none => if d then none else bodyW DC 51 xs H := callW_body rfl rfl rfl
@[simp] theorem call52 (d : Bool) (xs : List V) (H : Heap) : callW DC d (.fn 52 []) xs H = match sealL H xs with
    | some (ys, bs) => match bodyW DC 52 ys [] with
      | some (r, H') => some (ren (shift H.length) r, (if hasRo r || H'.any hasRoB then freeze H bs else H) ++ H'.map (renB (shift H.length)))
      | none => none
    | none => if d then none else bodyW DC 52 xs H := callW_body rfl rfl rfl
@[simp] theorem call53 (d : Bool) (xs : List V) (H : Heap) : callW DC d (.fn 53 []) xs H = match sealL H xs with
    | some (ys, bs) => match bodyW DC 53 ys [] with
      | some (r, H') => some (ren (shift H.length) r, (if hasRo r || H'.any hasRoB then freeze H bs else H) ++ H'.map (renB (shift H.length)))
      | none => none
    | none => if d then none else bodyW DC 53 xs H := callW_body rfl rfl rfl
@[simp] theorem call54 (d : Bool) (xs : List V) (H : Heap) : callW DC d (.fn 54 []) xs H = match sealL H xs with
    | some (ys, bs) => match bodyW DC 54 ys [] with
      | some (r, H') => some (ren (shift H.length) r, (if hasRo r || H'.any hasRoB then freeze H bs else H) ++ H'.map (renB (shift H.length)))
      | none => none
    | none => if d then none else bodyW DC 54 xs H := callW_body rfl rfl rfl
@[simp] theorem call55 (d : Bool) (xs : List V) (H : Heap) : callW DC d (.fn 55 []) xs H = match sealL H xs with
    | some (ys, bs) => match bodyW DC 55 ys [] with
      | some (r, H') => some (ren (shift H.length) r, (if hasRo r || H'.any hasRoB then freeze H bs else H) ++ H'.map (renB (shift H.length)))
      | none => none
    | none => if d then none else bodyW DC 55 xs H := callW_body rfl rfl rfl
@[simp] theorem call56 (d : Bool) (xs : List V) (H : Heap) : callW DC d (.fn 56 []) xs H = match sealL H xs with
    | some (ys, bs) => match bodyW DC 56 ys [] with
      | some (r, H') => some (ren (shift H.length) r, (if hasRo r || H'.any hasRoB then freeze H bs else H) ++ H'.map (renB (shift H.length)))
      | none => none
    | none => if d then none else bodyW DC 56 xs H := callW_body rfl rfl rfl
@[simp] theorem call57 (d : Bool) (xs : List V) (H : Heap) : callW DC d (.fn 57 []) xs H = match sealL H xs with
    | some (ys, bs) => match bodyW DC 57 ys [] with
      | some (r, H') => some (ren (shift H.length) r, (if hasRo r || H'.any hasRoB then freeze H bs else H) ++ H'.map (renB (shift H.length)))
      | none => none
    | none => if d then none else bodyW DC 57 xs H := callW_body rfl rfl rfl
@[simp] theorem call58 (d : Bool) (xs : List V) (H : Heap) : callW DC d (.fn 58 []) xs H = match sealL H xs with
    | some (ys, bs) => match bodyW DC 58 ys [] with
      | some (r, H') => some (ren (shift H.length) r, (if hasRo r || H'.any hasRoB then freeze H bs else H) ++ H'.map (renB (shift H.length)))
      | none => none
    | none => if d then none else bodyW DC 58 xs H := callW_body rfl rfl rfl
@[simp] theorem call60 (d : Bool) (xs : List V) (H : Heap) : callW DC d (.fn 60 []) xs H = match sealL H xs with
    | some (ys, bs) => match bodyW DC 60 ys [] with
      | some (r, H') => some (ren (shift H.length) r, (if hasRo r || H'.any hasRoB then freeze H bs else H) ++ H'.map (renB (shift H.length)))
      | none => none
    | none => if d then none else bodyW DC 60 xs H := callW_body rfl rfl rfl
@[simp] theorem call61 (d : Bool) (xs : List V) (H : Heap) : callW DC d (.fn 61 []) xs H = match sealL H xs with
    | some (ys, bs) => match bodyW DC 61 ys [] with
      | some (r, H') => some (ren (shift H.length) r, (if hasRo r || H'.any hasRoB then freeze H bs else H) ++ H'.map (renB (shift H.length)))
      | none => none
    | none => if d then none else bodyW DC 61 xs H := callW_body rfl rfl rfl
@[simp] theorem call62 (d : Bool) (xs : List V) (H : Heap) : callW DC d (.fn 62 []) xs H = match sealL H xs with
    | some (ys, bs) => match bodyW DC 62 ys [] with
      | some (r, H') => some (ren (shift H.length) r, (if hasRo r || H'.any hasRoB then freeze H bs else H) ++ H'.map (renB (shift H.length)))
      | none => none
    | none => if d then none else bodyW DC 62 xs H := callW_body rfl rfl rfl
@[simp] theorem call63 (d : Bool) (xs : List V) (H : Heap) : callW DC d (.fn 63 []) xs H = match sealL H xs with
    | some (ys, bs) => match bodyW DC 63 ys [] with
      | some (r, H') => some (ren (shift H.length) r, (if hasRo r || H'.any hasRoB then freeze H bs else H) ++ H'.map (renB (shift H.length)))
      | none => none
    | none => if d then none else bodyW DC 63 xs H := callW_body rfl rfl rfl
@[simp] theorem call64 (d : Bool) (xs : List V) (H : Heap) : callW DC d (.fn 64 []) xs H = match sealL H xs with
    | some (ys, bs) => match bodyW DC 64 ys [] with
      | some (r, H') => some (ren (shift H.length) r, (if hasRo r || H'.any hasRoB then freeze H bs else H) ++ H'.map (renB (shift H.length)))
      | none => none
    | none => if d then none else bodyW DC 64 xs H := callW_body rfl rfl rfl
@[simp] theorem call65 (d : Bool) (xs : List V) (H : Heap) : callW DC d (.fn 65 []) xs H = match sealL H xs with
    | some (ys, bs) => match bodyW DC 65 ys [] with
      | some (r, H') => some (ren (shift H.length) r, (if hasRo r || H'.any hasRoB then freeze H bs else H) ++ H'.map (renB (shift H.length)))
      | none => none
    | none => if d then none else bodyW DC 65 xs H := callW_body rfl rfl rfl
@[simp] theorem call67 (d : Bool) (xs : List V) (H : Heap) : callW DC d (.fn 67 []) xs H = match sealL H xs with
    | some (ys, bs) => match bodyW DC 67 ys [] with
      | some (r, H') => some (ren (shift H.length) r, (if hasRo r || H'.any hasRoB then freeze H bs else H) ++ H'.map (renB (shift H.length)))
      | none => none
    | none => if d then none else bodyW DC 67 xs H := callW_body rfl rfl rfl
@[simp] theorem call68 (d : Bool) (xs : List V) (H : Heap) : callW DC d (.fn 68 []) xs H = match sealL H xs with
    | some (ys, bs) => match bodyW DC 68 ys [] with
      | some (r, H') => some (ren (shift H.length) r, (if hasRo r || H'.any hasRoB then freeze H bs else H) ++ H'.map (renB (shift H.length)))
      | none => none
    | none => if d then none else bodyW DC 68 xs H := callW_body rfl rfl rfl
@[simp] theorem call70 (d : Bool) (xs : List V) (H : Heap) : callW DC d (.fn 70 []) xs H = match sealL H xs with
    | some (ys, bs) => match bodyW DC 70 ys [] with
      | some (r, H') => some (ren (shift H.length) r, (if hasRo r || H'.any hasRoB then freeze H bs else H) ++ H'.map (renB (shift H.length)))
      | none => none
    | none => if d then none else bodyW DC 70 xs H := callW_body rfl rfl rfl
@[simp] theorem call71 (d : Bool) (xs : List V) (H : Heap) : callW DC d (.fn 71 []) xs H = match sealL H xs with
    | some (ys, bs) => match bodyW DC 71 ys [] with
      | some (r, H') => some (ren (shift H.length) r, (if hasRo r || H'.any hasRoB then freeze H bs else H) ++ H'.map (renB (shift H.length)))
      | none => none
    | none => if d then none else bodyW DC 71 xs H := callW_body rfl rfl rfl
@[simp] theorem call72 (d : Bool) (xs : List V) (H : Heap) : callW DC d (.fn 72 []) xs H = match sealL H xs with
    | some (ys, bs) => match bodyW DC 72 ys [] with
      | some (r, H') => some (ren (shift H.length) r, (if hasRo r || H'.any hasRoB then freeze H bs else H) ++ H'.map (renB (shift H.length)))
      | none => none
    | none => if d then none else bodyW DC 72 xs H := callW_body rfl rfl rfl
@[simp] theorem call73 (d : Bool) (xs : List V) (H : Heap) : callW DC d (.fn 73 []) xs H = match sealL H xs with
    | some (ys, bs) => match bodyW DC 73 ys [] with
      | some (r, H') => some (ren (shift H.length) r, (if hasRo r || H'.any hasRoB then freeze H bs else H) ++ H'.map (renB (shift H.length)))
      | none => none
    | none => if d then none else bodyW DC 73 xs H := callW_body rfl rfl rfl
@[simp] theorem call74 (d : Bool) (xs : List V) (H : Heap) : callW DC d (.fn 74 []) xs H = match sealL H xs with
    | some (ys, bs) => match bodyW DC 74 ys [] with
      | some (r, H') => some (ren (shift H.length) r, (if hasRo r || H'.any hasRoB then freeze H bs else H) ++ H'.map (renB (shift H.length)))
      | none => none
    | none => if d then none else bodyW DC 74 xs H := callW_body rfl rfl rfl
@[simp] theorem call75 (d : Bool) (xs : List V) (H : Heap) : callW DC d (.fn 75 []) xs H = match sealL H xs with
    | some (ys, bs) => match bodyW DC 75 ys [] with
      | some (r, H') => some (ren (shift H.length) r, (if hasRo r || H'.any hasRoB then freeze H bs else H) ++ H'.map (renB (shift H.length)))
      | none => none
    | none => if d then none else bodyW DC 75 xs H := callW_body rfl rfl rfl
@[simp] theorem call76 (d : Bool) (xs : List V) (H : Heap) : callW DC d (.fn 76 []) xs H = match sealL H xs with
    | some (ys, bs) => match bodyW DC 76 ys [] with
      | some (r, H') => some (ren (shift H.length) r, (if hasRo r || H'.any hasRoB then freeze H bs else H) ++ H'.map (renB (shift H.length)))
      | none => none
    | none => if d then none else bodyW DC 76 xs H := callW_body rfl rfl rfl
@[simp] theorem call77 (d : Bool) (xs : List V) (H : Heap) : callW DC d (.fn 77 []) xs H = match sealL H xs with
    | some (ys, bs) => match bodyW DC 77 ys [] with
      | some (r, H') => some (ren (shift H.length) r, (if hasRo r || H'.any hasRoB then freeze H bs else H) ++ H'.map (renB (shift H.length)))
      | none => none
    | none => if d then none else bodyW DC 77 xs H := callW_body rfl rfl rfl
@[simp] theorem call80 (d : Bool) (xs : List V) (H : Heap) : callW DC d (.fn 80 []) xs H = match sealL H xs with
    | some (ys, bs) => match bodyW DC 80 ys [] with
      | some (r, H') => some (ren (shift H.length) r, (if hasRo r || H'.any hasRoB then freeze H bs else H) ++ H'.map (renB (shift H.length)))
      | none => none
    | none => if d then none else bodyW DC 80 xs H := callW_body rfl rfl rfl
@[simp] theorem call81 (d : Bool) (xs : List V) (H : Heap) : callW DC d (.fn 81 []) xs H = match sealL H xs with
    | some (ys, bs) => match bodyW DC 81 ys [] with
      | some (r, H') => some (ren (shift H.length) r, (if hasRo r || H'.any hasRoB then freeze H bs else H) ++ H'.map (renB (shift H.length)))
      | none => none
    | none => if d then none else bodyW DC 81 xs H := callW_body rfl rfl rfl
@[simp] theorem call82 (d : Bool) (xs : List V) (H : Heap) : callW DC d (.fn 82 []) xs H = match sealL H xs with
    | some (ys, bs) => match bodyW DC 82 ys [] with
      | some (r, H') => some (ren (shift H.length) r, (if hasRo r || H'.any hasRoB then freeze H bs else H) ++ H'.map (renB (shift H.length)))
      | none => none
    | none => if d then none else bodyW DC 82 xs H := callW_body rfl rfl rfl
@[simp] theorem call84 (d : Bool) (xs : List V) (H : Heap) : callW DC d (.fn 84 []) xs H = match sealL H xs with
    | some (ys, bs) => match bodyW DC 84 ys [] with
      | some (r, H') => some (ren (shift H.length) r, (if hasRo r || H'.any hasRoB then freeze H bs else H) ++ H'.map (renB (shift H.length)))
      | none => none
    | none => if d then none else bodyW DC 84 xs H := callW_body rfl rfl rfl
@[simp] theorem call85 (d : Bool) (xs : List V) (H : Heap) : callW DC d (.fn 85 []) xs H = match sealL H xs with
    | some (ys, bs) => match bodyW DC 85 ys [] with
      | some (r, H') => some (ren (shift H.length) r, (if hasRo r || H'.any hasRoB then freeze H bs else H) ++ H'.map (renB (shift H.length)))
      | none => none
    | none => if d then none else bodyW DC 85 xs H := callW_body rfl rfl rfl
@[simp] theorem call86 (d : Bool) (xs : List V) (H : Heap) : callW DC d (.fn 86 []) xs H = match sealL H xs with
    | some (ys, bs) => match bodyW DC 86 ys [] with
      | some (r, H') => some (ren (shift H.length) r, (if hasRo r || H'.any hasRoB then freeze H bs else H) ++ H'.map (renB (shift H.length)))
      | none => none
    | none => if d then none else bodyW DC 86 xs H := callW_body rfl rfl rfl
@[simp] theorem call87 (d : Bool) (xs : List V) (H : Heap) : callW DC d (.fn 87 []) xs H = match sealL H xs with
    | some (ys, bs) => match bodyW DC 87 ys [] with
      | some (r, H') => some (ren (shift H.length) r, (if hasRo r || H'.any hasRoB then freeze H bs else H) ++ H'.map (renB (shift H.length)))
      | none => none
    | none => if d then none else bodyW DC 87 xs H := callW_body rfl rfl rfl
@[simp] theorem call88 (d : Bool) (xs : List V) (H : Heap) : callW DC d (.fn 88 []) xs H = match sealL H xs with
    | some (ys, bs) => match bodyW DC 88 ys [] with
      | some (r, H') => some (ren (shift H.length) r, (if hasRo r || H'.any hasRoB then freeze H bs else H) ++ H'.map (renB (shift H.length)))
      | none => none
    | none => if d then none else bodyW DC 88 xs H := callW_body rfl rfl rfl
@[simp] theorem call89 (d : Bool) (xs : List V) (H : Heap) : callW DC d (.fn 89 []) xs H = match sealL H xs with
    | some (ys, bs) => match bodyW DC 89 ys [] with
      | some (r, H') => some (ren (shift H.length) r, (if hasRo r || H'.any hasRoB then freeze H bs else H) ++ H'.map (renB (shift H.length)))
      | none => none
    | none => if d then none else bodyW DC 89 xs H := callW_body rfl rfl rfl
@[simp] theorem call90 (d : Bool) (xs : List V) (H : Heap) : callW DC d (.fn 90 []) xs H = match sealL H xs with
    | some (ys, bs) => match bodyW DC 90 ys [] with
      | some (r, H') => some (ren (shift H.length) r, (if hasRo r || H'.any hasRoB then freeze H bs else H) ++ H'.map (renB (shift H.length)))
      | none => none
    | none => if d then none else bodyW DC 90 xs H := callW_body rfl rfl rfl
@[simp] theorem call91 (d : Bool) (xs : List V) (H : Heap) : callW DC d (.fn 91 []) xs H = match sealL H xs with
    | some (ys, bs) => match bodyW DC 91 ys [] with
      | some (r, H') => some (ren (shift H.length) r, (if hasRo r || H'.any hasRoB then freeze H bs else H) ++ H'.map (renB (shift H.length)))
      | none => none
    | none => if d then none else bodyW DC 91 xs H := callW_body rfl rfl rfl
@[simp] theorem call92 (d : Bool) (xs : List V) (H : Heap) : callW DC d (.fn 92 []) xs H = match sealL H xs with
    | some (ys, bs) => match bodyW DC 92 ys [] with
      | some (r, H') => some (ren (shift H.length) r, (if hasRo r || H'.any hasRoB then freeze H bs else H) ++ H'.map (renB (shift H.length)))
      | none => none
    | none => if d then none else bodyW DC 92 xs H := callW_body rfl rfl rfl
@[simp] theorem call93 (d : Bool) (xs : List V) (H : Heap) : callW DC d (.fn 93 []) xs H = match sealL H xs with
    | some (ys, bs) => match bodyW DC 93 ys [] with
      | some (r, H') => some (ren (shift H.length) r, (if hasRo r || H'.any hasRoB then freeze H bs else H) ++ H'.map (renB (shift H.length)))
      | none => none
    | none => if d then none else bodyW DC 93 xs H := callW_body rfl rfl rfl
@[simp] theorem call94 (d : Bool) (xs : List V) (H : Heap) : callW DC d (.fn 94 []) xs H = match sealL H xs with
    | some (ys, bs) => match bodyW DC 94 ys [] with
      | some (r, H') => some (ren (shift H.length) r, (if hasRo r || H'.any hasRoB then freeze H bs else H) ++ H'.map (renB (shift H.length)))
      | none => none
    | none => if d then none else bodyW DC 94 xs H := callW_body rfl rfl rfl
@[simp] theorem call95 (d : Bool) (xs : List V) (H : Heap) : callW DC d (.fn 95 []) xs H = match sealL H xs with
    | some (ys, bs) => match bodyW DC 95 ys [] with
      | some (r, H') => some (ren (shift H.length) r, (if hasRo r || H'.any hasRoB then freeze H bs else H) ++ H'.map (renB (shift H.length)))
      | none => none
    | none => if d then none else bodyW DC 95 xs H := callW_body rfl rfl rfl
@[simp] theorem call96 (d : Bool) (xs : List V) (H : Heap) : callW DC d (.fn 96 []) xs H = match sealL H xs with
    | some (ys, bs) => match bodyW DC 96 ys [] with
      | some (r, H') => some (ren (shift H.length) r, (if hasRo r || H'.any hasRoB then freeze H bs else H) ++ H'.map (renB (shift H.length)))
      | none => none
    | none => if d then none else bodyW DC 96 xs H := callW_body rfl rfl rfl
@[simp] theorem call97 (d : Bool) (xs : List V) (H : Heap) : callW DC d (.fn 97 []) xs H = match sealL H xs with
    | some (ys, bs) => match bodyW DC 97 ys [] with
      | some (r, H') => some (ren (shift H.length) r, (if hasRo r || H'.any hasRoB then freeze H bs else H) ++ H'.map (renB (shift H.length)))
      | none => none
    | none => if d then none else bodyW DC 97 xs H := callW_body rfl rfl rfl
@[simp] theorem call98 (d : Bool) (xs : List V) (H : Heap) : callW DC d (.fn 98 []) xs H = match sealL H xs with
    | some (ys, bs) => match bodyW DC 98 ys [] with
      | some (r, H') => some (ren (shift H.length) r, (if hasRo r || H'.any hasRoB then freeze H bs else H) ++ H'.map (renB (shift H.length)))
      | none => none
    | none => if d then none else bodyW DC 98 xs H := callW_body rfl rfl rfl
@[simp] theorem call99 (d : Bool) (xs : List V) (H : Heap) : callW DC d (.fn 99 []) xs H = match sealL H xs with
    | some (ys, bs) => match bodyW DC 99 ys [] with
      | some (r, H') => some (ren (shift H.length) r, (if hasRo r || H'.any hasRoB then freeze H bs else H) ++ H'.map (renB (shift H.length)))
      | none => none
    | none => if d then none else bodyW DC 99 xs H := callW_body rfl rfl rfl
@[simp] theorem call100 (d : Bool) (xs : List V) (H : Heap) : callW DC d (.fn 100 []) xs H = match sealL H xs with
    | some (ys, bs) => match bodyW DC 100 ys [] with
      | some (r, H') => some (ren (shift H.length) r, (if hasRo r || H'.any hasRoB then freeze H bs else H) ++ H'.map (renB (shift H.length)))
      | none => none
    | none => if d then none else bodyW DC 100 xs H := callW_body rfl rfl rfl
@[simp] theorem call101 (d : Bool) (xs : List V) (H : Heap) : callW DC d (.fn 101 []) xs H = match sealL H xs with
    | some (ys, bs) => match bodyW DC 101 ys [] with
      | some (r, H') => some (ren (shift H.length) r, (if hasRo r || H'.any hasRoB then freeze H bs else H) ++ H'.map (renB (shift H.length)))
      | none => none
    | none => if d then none else bodyW DC 101 xs H := callW_body rfl rfl rfl
@[simp] theorem call102 (d : Bool) (xs : List V) (H : Heap) : callW DC d (.fn 102 []) xs H = match sealL H xs with
    | some (ys, bs) => match bodyW DC 102 ys [] with
      | some (r, H') => some (ren (shift H.length) r, (if hasRo r || H'.any hasRoB then freeze H bs else H) ++ H'.map (renB (shift H.length)))
      | none => none
    | none => if d then none else bodyW DC 102 xs H := callW_body rfl rfl rfl
@[simp] theorem call103 (d : Bool) (xs : List V) (H : Heap) : callW DC d (.fn 103 []) xs H = match sealL H xs with
    | some (ys, bs) => match bodyW DC 103 ys [] with
      | some (r, H') => some (ren (shift H.length) r, (if hasRo r || H'.any hasRoB then freeze H bs else H) ++ H'.map (renB (shift H.length)))
      | none => none
    | none => if d then none else bodyW DC 103 xs H := callW_body rfl rfl rfl
@[simp] theorem call104 (d : Bool) (xs : List V) (H : Heap) : callW DC d (.fn 104 []) xs H = match sealL H xs with
    | some (ys, bs) => match bodyW DC 104 ys [] with
      | some (r, H') => some (ren (shift H.length) r, (if hasRo r || H'.any hasRoB then freeze H bs else H) ++ H'.map (renB (shift H.length)))
      | none => none
    | none => if d then none else bodyW DC 104 xs H := callW_body rfl rfl rfl
@[simp] theorem call105 (d : Bool) (xs : List V) (H : Heap) : callW DC d (.fn 105 []) xs H = match sealL H xs with
    | some (ys, bs) => match bodyW DC 105 ys [] with
      | some (r, H') => some (ren (shift H.length) r, (if hasRo r || H'.any hasRoB then freeze H bs else H) ++ H'.map (renB (shift H.length)))
      | none => none
    | none => if d then none else bodyW DC 105 xs H := callW_body rfl rfl rfl
@[simp] theorem call106 (d : Bool) (xs : List V) (H : Heap) : callW DC d (.fn 106 []) xs H = match sealL H xs with
    | some (ys, bs) => match bodyW DC 106 ys [] with
      | some (r, H') => some (ren (shift H.length) r, (if hasRo r || H'.any hasRoB then freeze H bs else H) ++ H'.map (renB (shift H.length)))
      | none => none
    | none => if d then none else bodyW DC 106 xs H := callW_body rfl rfl rfl
@[simp] theorem call107 (d : Bool) (xs : List V) (H : Heap) : callW DC d (.fn 107 []) xs H = match sealL H xs with
    | some (ys, bs) => match bodyW DC 107 ys [] with
      | some (r, H') => some (ren (shift H.length) r, (if hasRo r || H'.any hasRoB then freeze H bs else H) ++ H'.map (renB (shift H.length)))
      | none => none
    | none => if d then none else bodyW DC 107 xs H := callW_body rfl rfl rfl
@[simp] theorem call109 (d : Bool) (xs : List V) (H : Heap) : callW DC d (.fn 109 []) xs H = match sealL H xs with
    | some (ys, bs) => match bodyW DC 109 ys [] with
      | some (r, H') => some (ren (shift H.length) r, (if hasRo r || H'.any hasRoB then freeze H bs else H) ++ H'.map (renB (shift H.length)))
      | none => none
    | none => if d then none else bodyW DC 109 xs H := callW_body rfl rfl rfl
@[simp] theorem call110 (d : Bool) (xs : List V) (H : Heap) : callW DC d (.fn 110 []) xs H = match sealL H xs with
    | some (ys, bs) => match bodyW DC 110 ys [] with
      | some (r, H') => some (ren (shift H.length) r, (if hasRo r || H'.any hasRoB then freeze H bs else H) ++ H'.map (renB (shift H.length)))
      | none => none
    | none => if d then none else bodyW DC 110 xs H := callW_body rfl rfl rfl
@[simp] theorem call111 (d : Bool) (xs : List V) (H : Heap) : callW DC d (.fn 111 []) xs H = match sealL H xs with
    | some (ys, bs) => match bodyW DC 111 ys [] with
      | some (r, H') => some (ren (shift H.length) r, (if hasRo r || H'.any hasRoB then freeze H bs else H) ++ H'.map (renB (shift H.length)))
      | none => none
    | none => if d then none else bodyW DC 111 xs H := callW_body rfl rfl rfl
@[simp] theorem call113 (d : Bool) (xs : List V) (H : Heap) : callW DC d (.fn 113 []) xs H = match sealL H xs with
    | some (ys, bs) => match bodyW DC 113 ys [] with
      | some (r, H') => some (ren (shift H.length) r, (if hasRo r || H'.any hasRoB then freeze H bs else H) ++ H'.map (renB (shift H.length)))
      | none => none
    | none => if d then none else bodyW DC 113 xs H := callW_body rfl rfl rfl
@[simp] theorem call36 (d : Bool) (xs : List V) (H : Heap) : callW DC d (.fn 36 []) xs H = match sealL H xs with
    | some (ys, bs) => match cloneX 1 8 ys with
      | some (r, H') => some (ren (shift H.length) r, (if hasRo r || H'.any hasRoB then freeze H bs else H) ++ H'.map (renB (shift H.length)))
      | none => none
    | none => if d then none else bodyW DC 36 xs H := callW_ext rfl rfl rfl
@[simp] theorem call59 (d : Bool) (xs : List V) (H : Heap) : callW DC d (.fn 59 []) xs H = match sealL H xs with
    | some (ys, bs) => match repeatX ys with
      | some (r, H') => some (ren (shift H.length) r, (if hasRo r || H'.any hasRoB then freeze H bs else H) ++ H'.map (renB (shift H.length)))
      | none => none
    | none => if d then none else bodyW DC 59 xs H := callW_ext rfl rfl rfl
@[simp] theorem call78 (d : Bool) (xs : List V) (H : Heap) : callW DC d (.fn 78 []) xs H = match sealL H xs with
    | some (ys, bs) => match cloneX 1 16 ys with
      | some (r, H') => some (ren (shift H.length) r, (if hasRo r || H'.any hasRoB then freeze H bs else H) ++ H'.map (renB (shift H.length)))
      | none => none
    | none => if d then none else bodyW DC 78 xs H := callW_ext rfl rfl rfl
@[simp] theorem call79 (d : Bool) (xs : List V) (H : Heap) : callW DC d (.fn 79 []) xs H = match sealL H xs with
    | some (ys, bs) => match mulX ys with
      | some (r, H') => some (ren (shift H.length) r, (if hasRo r || H'.any hasRoB then freeze H bs else H) ++ H'.map (renB (shift H.length)))
      | none => none
    | none => if d then none else bodyW DC 79 xs H := callW_ext rfl rfl rfl
@[simp] theorem call34 (xs : List V) (H : Heap) : callW DC false (.fn 34 []) xs H = strX 92 5 xs H := callW_extE rfl
@[simp] theorem call50 (xs : List V) (H : Heap) : callW DC false (.fn 50 []) xs H = sortX xs H := callW_extE rfl
@[simp] theorem call66 (xs : List V) (H : Heap) : callW DC false (.fn 66 []) xs H = copyX 92 xs H := callW_extE rfl
theorem DC_body (f : FuncId) (b : Body) (h : DC.body f = some b) : ∃ fn, DC.P.funcs[f]? = some fn ∧ fn.name ≠ "runtime.NumGoroutine" ∧ fn.body = some b.code ∧ fn.results.toList = b.results ∧ fn.ntmps = b.ntmps ∧ codeOk DC.P DC.loud (DC.free f) b.ntmps b.code = true := by
  unfold DC at h ⊢
  simp only at h ⊢
  split at h
  · exact good_body Tryz.func3 (by decide) (by kernel_rfl) h
  · exact good_body Tryz.func4 (by decide) (by kernel_rfl) h
  · exact good_body Tryz.func5 (by decide) (by kernel_rfl) h
  · exact good_body Tryz.func6 (by decide) (by kernel_rfl) h
  · exact good_body Tryz.func7 (by decide) (by kernel_rfl) h
  · exact good_body Tryz.func8 (by decide) (by kernel_rfl) h
  · exact good_body Tryz.func9 (by decide) (by kernel_rfl) h
  · exact good_body Tryz.func10 (by decide) (by kernel_rfl) h
  · exact good_body Tryz.func11 (by decide) (by kernel_rfl) h
  · exact good_body Tryz.func12 (by decide) (by kernel_rfl) h
  · exact good_body Tryz.func13 (by decide) (by kernel_rfl) h
  · exact good_body Tryz.func14 (by decide) (by kernel_rfl) h
  · exact good_body Tryz.func15 (by decide) (by kernel_rfl) h
  · exact good_body Tryz.func16 (by decide) (by kernel_rfl) h
  · exact good_body Tryz.func17 (by decide) (by kernel_rfl) h
  · exact good_body Tryz.func18 (by decide) (by kernel_rfl) h
  · exact good_body Tryz.func19 (by decide) (by kernel_rfl) h
  · exact good_body Tryz.func20 (by decide) (by kernel_rfl) h
  · exact good_body Tryz.func21 (by decide) (by kernel_rfl) h
  · exact good_body Tryz.func22 (by decide) (by kernel_rfl) h
  · exact good_body Tryz.func23 (by decide) (by kernel_rfl) h
  · exact good_body Tryz.func24 (by decide) (by kernel_rfl) h
  · exact good_body Tryz.func25 (by decide) (by kernel_rfl) h
  · exact good_body Tryz.func26 (by decide) (by kernel_rfl) h
  · exact good_body Tryz.func27 (by decide) (by kernel_rfl) h
  · exact good_body Tryz.func28 (by decide) (by kernel_rfl) h
  · exact good_body Tryz.func29 (by decide) (by kernel_rfl) h
  · exact good_body Tryz.func30 (by decide) (by kernel_rfl) h
  · exact good_body Tryz.func31 (by decide) (by kernel_rfl) h
  · exact good_body Tryz.func32 (by decide) (by kernel_rfl) h
  · exact good_body Tryz.func33 (by decide) (by kernel_rfl) h
  · exact good_body Tryz.func35 (by decide) (by kernel_rfl) h
  · exact good_body Tryz.func37 (by decide) (by kernel_rfl) h
  · exact good_body Tryz.func38 (by decide) (by kernel_rfl) h
  · exact good_body Tryz.func39 (by decide) (by kernel_rfl) h
  · exact good_body Tryz.func40 (by decide) (by kernel_rfl) h
  · exact good_body Tryz.func41 (by decide) (by kernel_rfl) h
  · exact good_body Tryz.func42 (by decide) (by kernel_rfl) h
  · exact good_body Tryz.func43 (by decide) (by kernel_rfl) h
  · exact good_body Tryz.func44 (by decide) (by kernel_rfl) h
  · exact good_body Tryz.func45 (by decide) (by kernel_rfl) h
  · exact good_body Tryz.func46 (by decide) (by kernel_rfl) h
  · exact good_body Tryz.func47 (by decide) (by kernel_rfl) h
  · exact good_body Tryz.func48 (by decide) (by kernel_rfl) h
  · exact good_body Tryz.func49 (by decide) (by kernel_rfl) h
  · exact good_body Tryz.func51 (by decide) (by kernel_rfl) h
  · exact good_body Tryz.func52 (by decide) (by kernel_rfl) h
  · exact good_body Tryz.func53 (by decide) (by kernel_rfl) h
  · exact good_body Tryz.func54 (by decide) (by kernel_rfl) h
  · exact good_body Tryz.func55 (by decide) (by kernel_rfl) h
  · exact good_body Tryz.func56 (by decide) (by kernel_rfl) h
  · exact good_body Tryz.func57 (by decide) (by kernel_rfl) h
  · exact good_body Tryz.func58 (by decide) (by kernel_rfl) h
  · exact good_body Tryz.func60 (by decide) (by kernel_rfl) h
  · exact good_body Tryz.func61 (by decide) (by kernel_rfl) h
  · exact good_body Tryz.func62 (by decide) (by kernel_rfl) h
  · exact good_body Tryz.func63 (by decide) (by kernel_rfl) h
  · exact good_body Tryz.func64 (by decide) (by kernel_rfl) h
  · exact good_body Tryz.func65 (by decide) (by kernel_rfl) h
  · exact good_body Tryz.func67 (by decide) (by kernel_rfl) h
  · exact good_body Tryz.func68 (by decide) (by kernel_rfl) h
  · exact good_body Tryz.func69 (by decide) (by kernel_rfl) h
  · exact good_body Tryz.func70 (by decide) (by kernel_rfl) h
  · exact good_body Tryz.func71 (by decide) (by kernel_rfl) h
  · exact good_body Tryz.func72 (by decide) (by kernel_rfl) h
  · exact good_body Tryz.func73 (by decide) (by kernel_rfl) h
  · exact good_body Tryz.func74 (by decide) (by kernel_rfl) h
  · exact good_body Tryz.func75 (by decide) (by kernel_rfl) h
  · exact good_body Tryz.func76 (by decide) (by kernel_rfl) h
  · exact good_body Tryz.func77 (by decide) (by kernel_rfl) h
  · exact good_body Tryz.func80 (by decide) (by kernel_rfl) h
  · exact good_body Tryz.func81 (by decide) (by kernel_rfl) h
  · exact good_body Tryz.func82 (by decide) (by kernel_rfl) h
  · exact good_body Tryz.func84 (by decide) (by kernel_rfl) h
  · exact good_body Tryz.func85 (by decide) (by kernel_rfl) h
  · exact good_body Tryz.func86 (by decide) (by kernel_rfl) h
  · exact good_body Tryz.func87 (by decide) (by kernel_rfl) h
  · exact good_body Tryz.func88 (by decide) (by kernel_rfl) h
  · exact good_body Tryz.func89 (by decide) (by kernel_rfl) h
  · exact good_body Tryz.func90 (by decide) (by kernel_rfl) h
  · exact good_body Tryz.func91 (by decide) (by kernel_rfl) h
  · exact good_body Tryz.func92 (by decide) (by kernel_rfl) h
  · exact good_body Tryz.func93 (by decide) (by kernel_rfl) h
  · exact good_body Tryz.func94 (by decide) (by kernel_rfl) h
  · exact good_body Tryz.func95 (by decide) (by kernel_rfl) h
  · exact good_body Tryz.func96 (by decide) (by kernel_rfl) h
  · exact good_body Tryz.func97 (by decide) (by kernel_rfl) h
  · exact good_body Tryz.func98 (by decide) (by kernel_rfl) h
  · exact good_body Tryz.func99 (by decide) (by kernel_rfl) h
  · exact good_body Tryz.func100 (by decide) (by kernel_rfl) h
  · exact good_body Tryz.func101 (by decide) (by kernel_rfl) h
  · exact good_body Tryz.func102 (by decide) (by kernel_rfl) h
  · exact good_body Tryz.func103 (by decide) (by kernel_rfl) h
  · exact good_body Tryz.func104 (by decide) (by kernel_rfl) h
  · exact good_body Tryz.func105 (by decide) (by kernel_rfl) h
  · exact good_body Tryz.func106 (by decide) (by kernel_rfl) h
  · exact good_body Tryz.func107 (by decide) (by kernel_rfl) h
  · exact good_body Tryz.func109 (by decide) (by kernel_rfl) h
  · exact good_body Tryz.func110 (by decide) (by kernel_rfl) h
  · exact good_body Tryz.func111 (by decide) (by kernel_rfl) h
  · exact good_body Tryz.func113 (by decide) (by kernel_rfl) h
  · cases h
theorem DC_fn34 : FnOk DC.P 34 := ⟨_, Tryz.func34, by decide, by simp [Tryz.f34]⟩
theorem DC_fn36 : FnOk DC.P 36 := ⟨_, Tryz.func36, by decide, by simp [Tryz.f36]⟩
theorem DC_fn50 : FnOk DC.P 50 := ⟨_, Tryz.func50, by decide, by simp [Tryz.f50]⟩
theorem DC_fn59 : FnOk DC.P 59 := ⟨_, Tryz.func59, by decide, by simp [Tryz.f59]⟩
theorem DC_fn66 : FnOk DC.P 66 := ⟨_, Tryz.func66, by decide, by simp [Tryz.f66]⟩
theorem DC_fn78 : FnOk DC.P 78 := ⟨_, Tryz.func78, by decide, by simp [Tryz.f78]⟩
theorem DC_fn79 : FnOk DC.P 79 := ⟨_, Tryz.func79, by decide, by simp [Tryz.f79]⟩
end Go.Abs
