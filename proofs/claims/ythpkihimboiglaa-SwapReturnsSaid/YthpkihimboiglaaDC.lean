/- Proved here: the context in which this seat is evaluated. No condition but those that each theorem states. -/
import Derived.Test.YthpkihimboiglaaA7
import Derived.Test.YthpkihimboiglaaRows
namespace Go.Abs
open Go.Proofs
set_option maxRecDepth 100000
set_option linter.unusedVariables false
set_option linter.unusedSimpArgs false

def DF24 : Nat → List Nat := fun k => if k = 16 then [73, 74, 75] else if k = 17 then [78, 79, 80, 81, 83] else []
def DF37 : Nat → List Nat := fun k => if k = 5 then [23] else []

noncomputable def DC : Ctx where
  P := Try.prog
  ext f := match f with
    | 53 => some (cloneX 1 8)
    | 70 => some (repeatX)
    | 86 => some (cloneX 1 16)
    | 87 => some (mulX)
    | _ => none
  extE f := match f with
    | 31 => some (sortX)
    | 51 => some (strX 100 5)
    | 71 => some (copyX 100)
    | _ => none
  keep f k := match f, k with
    | 5, 5 => some [0, 2, 4, 7, 8, 9]
    | 5, 9 => some [0, 2, 4, 7, 8, 9, 10, 11]
    | 6, 10 => some [1, 2, 5, 7, 8, 9, 10]
    | 6, 22 => some [2, 7, 11, 12, 13]
    | 7, 14 => some [1, 2, 7, 9]
    | 8, 2 => some [0, 3]
    | 10, 5 => some [0, 2, 4, 8, 25, 26, 27]
    | 10, 12 => some [0, 2, 4, 42, 43, 44]
    | 11, 5 => some [0, 2, 4, 8, 9]
    | 15, 4 => some [0, 1, 5]
    | 16, 3 => some [3, 6, 7]
    | 17, 3 => some [1, 3, 4]
    | 18, 3 => some [3, 6, 7]
    | 19, 3 => some [1, 3, 4]
    | 20, 6 => some [1, 50, 51]
    | 21, 6 => some [1, 3]
    | 23, 13 => some [2, 4, 6, 8, 10, 12, 63, 64]
    | 24, 9 => some [2, 4, 6, 7, 9, 45, 46]
    | 25, 3 => some [2, 3, 5, 13, 14]
    | 26, 4 => some [0, 1, 5]
    | 27, 4 => some [0, 1, 15, 16, 17]
    | 27, 11 => some [0, 7, 26, 27, 28]
    | 28, 4 => some [1, 19, 20, 21]
    | 28, 11 => some [1, 5, 30, 31, 32]
    | 36, 2 => some [0, 4, 5, 7]
    | 42, 2 => some [0, 3, 7, 8, 9]
    | 43, 2 => some [0, 3, 5]
    | 43, 7 => some [0, 3, 5, 6]
    | 44, 4 => some [0, 1, 5]
    | 44, 9 => some [0, 1, 6]
    | 45, 4 => some [1, 3]
    | 45, 9 => some [1, 4]
    | 47, 5 => some [0, 1, 8, 19, 20]
    | 48, 4 => some [1, 2, 3, 6, 9, 17, 18, 19]
    | 50, 5 => some [1, 2, 8, 21, 22]
    | 52, 5 => some [0, 1, 5, 6]
    | 57, 2 => some [0, 1, 2, 3, 8, 9]
    | 59, 2 => some [0, 1, 7, 8]
    | 64, 3 => some [3, 8, 9, 10]
    | 73, 2 => some [0, 1, 7, 8]
    | 74, 1 => some [0, 1, 2, 6]
    | 74, 4 => some [0, 1, 2, 6, 7]
    | 75, 4 => some [0, 6, 7, 8, 9]
    | 75, 8 => some [0, 6, 7, 10]
    | 76, 5 => some [0, 1, 6, 7, 8, 9]
    | 78, 2 => some [0, 6, 7]
    | 79, 3 => some [0, 1, 2, 7, 8]
    | 79, 5 => some [0, 1, 2, 7, 8]
    | 79, 14 => some [0, 1, 2, 7, 8, 9]
    | 79, 20 => some [0, 1, 2, 7, 8, 10]
    | 81, 3 => some [0, 1, 9, 10]
    | 81, 5 => some [0, 1, 9, 10]
    | 82, 3 => some [0, 1, 10, 11]
    | 82, 5 => some [0, 1, 10, 11]
    | 82, 13 => some [0, 1, 10, 11]
    | 82, 15 => some [0, 1, 10, 11]
    | 85, 8 => some [7, 8]
    | 92, 1 => some [0, 2, 3, 8]
    | _, _ => none
  body f := match f with
    | 3 => bodyOf Try.f3
    | 4 => bodyOf Try.f4
    | 5 => bodyOf Try.f5
    | 6 => bodyOf Try.f6
    | 7 => bodyOf Try.f7
    | 8 => bodyOf Try.f8
    | 9 => bodyOf Try.f9
    | 10 => bodyOf Try.f10
    | 11 => bodyOf Try.f11
    | 12 => bodyOf Try.f12
    | 13 => bodyOf Try.f13
    | 14 => bodyOf Try.f14
    | 15 => bodyOf Try.f15
    | 16 => bodyOf Try.f16
    | 17 => bodyOf Try.f17
    | 18 => bodyOf Try.f18
    | 19 => bodyOf Try.f19
    | 20 => bodyOf Try.f20
    | 21 => bodyOf Try.f21
    | 22 => bodyOf Try.f22
    | 23 => bodyOf Try.f23
    | 24 => bodyOf Try.f24
    | 25 => bodyOf Try.f25
    | 26 => bodyOf Try.f26
    | 27 => bodyOf Try.f27
    | 28 => bodyOf Try.f28
    | 29 => bodyOf Try.f29
    | 30 => bodyOf Try.f30
    | 32 => bodyOf Try.f32
    | 33 => bodyOf Try.f33
    | 34 => bodyOf Try.f34
    | 35 => bodyOf Try.f35
    | 36 => bodyOf Try.f36
    | 37 => bodyOf Try.f37
    | 38 => bodyOf Try.f38
    | 39 => bodyOf Try.f39
    | 40 => bodyOf Try.f40
    | 41 => bodyOf Try.f41
    | 42 => bodyOf Try.f42
    | 43 => bodyOf Try.f43
    | 44 => bodyOf Try.f44
    | 45 => bodyOf Try.f45
    | 46 => bodyOf Try.f46
    | 47 => bodyOf Try.f47
    | 48 => bodyOf Try.f48
    | 49 => bodyOf Try.f49
    | 50 => bodyOf Try.f50
    | 52 => bodyOf Try.f52
    | 54 => bodyOf Try.f54
    | 55 => bodyOf Try.f55
    | 56 => bodyOf Try.f56
    | 57 => bodyOf Try.f57
    | 58 => bodyOf Try.f58
    | 59 => bodyOf Try.f59
    | 60 => bodyOf Try.f60
    | 61 => bodyOf Try.f61
    | 62 => bodyOf Try.f62
    | 63 => bodyOf Try.f63
    | 64 => bodyOf Try.f64
    | 65 => bodyOf Try.f65
    | 66 => bodyOf Try.f66
    | 67 => bodyOf Try.f67
    | 68 => bodyOf Try.f68
    | 69 => bodyOf Try.f69
    | 72 => bodyOf Try.f72
    | 73 => bodyOf Try.f73
    | 74 => bodyOf Try.f74
    | 75 => bodyOf Try.f75
    | 76 => bodyOf Try.f76
    | 77 => bodyOf Try.f77
    | 78 => bodyOf Try.f78
    | 79 => bodyOf Try.f79
    | 80 => bodyOf Try.f80
    | 81 => bodyOf Try.f81
    | 82 => bodyOf Try.f82
    | 83 => bodyOf Try.f83
    | 84 => bodyOf Try.f84
    | 85 => bodyOf Try.f85
    | 88 => bodyOf Try.f88
    | 89 => bodyOf Try.f89
    | 90 => bodyOf Try.f90
    | 92 => bodyOf Try.f92
    | 93 => bodyOf Try.f93
    | 95 => bodyOf Try.f95
    | 96 => bodyOf Try.f96
    | 97 => bodyOf Try.f97
    | 98 => bodyOf Try.f98
    | 99 => bodyOf Try.f99
    | 100 => bodyOf Try.f100
    | 101 => bodyOf Try.f101
    | 102 => bodyOf Try.f102
    | _ => none
  free f := match f with
    | 24 => DF24
    | 37 => DF37
    | _ => fun _ => []
  direct f := ([52] : List Nat).contains f
  loud f := ([49, 51, 89] : List Nat).contains f

@[simp] theorem DC_loud (f : FuncId) : DC.loud f = ([49, 51, 89] : List Nat).contains f := rfl
@[simp] theorem DCP : DC.P = Try.prog := rfl
theorem DF24_eq : DC.free 24 = DF24 := rfl
theorem DF37_eq : DC.free 37 = DF37 := rfl
@[simp] theorem call52 (xs : List V) (H : Heap) : callW DC false (.fn 52 []) xs H = bodyW DC 52 xs H := callW_direct rfl rfl
@[simp] theorem call3 (d : Bool) (xs : List V) (H : Heap) : callW DC d (.fn 3 []) xs H = match sealL H xs with
    | some (ys, bs) => match bodyW DC 3 ys [] with
      | some (r, H') => some (ren (shift H.length) r, (if hasRo r || H'.any hasRoB then freeze H bs else H) ++ H'.map (renB (shift H.length)))
      | none => none
    | none => if d then none else bodyW DC 3 xs H := callW_body rfl rfl rfl
@[simp] theorem call4 (d : Bool) (xs : List V) (H : Heap) : callW DC d (.fn 4 []) xs H = match sealL H xs with
    | some (ys, bs) => match bodyW DC 4 ys [] with
      | some (r, H') => some (ren (shift H.length) r, (if hasRo r || H'.any hasRoB then freeze H bs else H) ++ H'.map (renB (shift H.length)))
      | none => none
    | none => if d then none else bodyW DC 4 xs H := callW_body rfl rfl rfl
@[simp] theorem call5 (d : Bool) (xs : List V) (H : Heap) : callW DC d (.fn 5 []) xs H = match sealL H xs with
    | some (ys, bs) => match bodyW DC 5 ys [] with
      | some (r, H') => some (ren (shift H.length) r, (if hasRo r || H'.any hasRoB then freeze H bs else H) ++ H'.map (renB (shift H.length)))
      | none => none
    | none => if d then none else bodyW DC 5 xs H := callW_body rfl rfl rfl
@[simp] theorem call6 (d : Bool) (xs : List V) (H : Heap) : callW DC d (.fn 6 []) xs H = match sealL H xs with
    | some (ys, bs) => match bodyW DC 6 ys [] with
      | some (r, H') => some (ren (shift H.length) r, (if hasRo r || H'.any hasRoB then freeze H bs else H) ++ H'.map (renB (shift H.length)))
      | none => none
    | none => if d then none else bodyW DC 6 xs H := callW_body rfl rfl rfl
@[simp] theorem call7 (d : Bool) (xs : List V) (H : Heap) : callW DC d (.fn 7 []) xs H = match sealL H xs with
    | some (ys, bs) => match bodyW DC 7 ys [] with
      | some (r, H') => some (ren (shift H.length) r, (if hasRo r || H'.any hasRoB then freeze H bs else H) ++ H'.map (renB (shift H.length)))
      | none => none
    | none => if d then none else bodyW DC 7 xs H := callW_body rfl rfl rfl
@[simp] theorem call8 (d : Bool) (xs : List V) (H : Heap) : callW DC d (.fn 8 []) xs H = match sealL H xs with
    | some (ys, bs) => match bodyW DC 8 ys [] with
      | some (r, H') => some (ren (shift H.length) r, (if hasRo r || H'.any hasRoB then freeze H bs else H) ++ H'.map (renB (shift H.length)))
      | none => none
    | none => if d then none else bodyW DC 8 xs H := callW_body rfl rfl rfl
@[simp] theorem call9 (d : Bool) (xs : List V) (H : Heap) : callW DC d (.fn 9 []) xs H = match sealL H xs with
    | some (ys, bs) => match bodyW DC 9 ys [] with
      | some (r, H') => some (ren (shift H.length) r, (if hasRo r || H'.any hasRoB then freeze H bs else H) ++ H'.map (renB (shift H.length)))
      | none => none
    | none => if d then none else bodyW DC 9 xs H := callW_body rfl rfl rfl
@[simp] theorem call10 (d : Bool) (xs : List V) (H : Heap) : callW DC d (.fn 10 []) xs H = match sealL H xs with
    | some (ys, bs) => match bodyW DC 10 ys [] with
      | some (r, H') => some (ren (shift H.length) r, (if hasRo r || H'.any hasRoB then freeze H bs else H) ++ H'.map (renB (shift H.length)))
      | none => none
    | none => if d then none else bodyW DC 10 xs H := callW_body rfl rfl rfl
@[simp] theorem call11 (d : Bool) (xs : List V) (H : Heap) : callW DC d (.fn 11 []) xs H = match sealL H xs with
    | some (ys, bs) => match bodyW DC 11 ys [] with
      | some (r, H') => some (ren (shift H.length) r, (if hasRo r || H'.any hasRoB then freeze H bs else H) ++ H'.map (renB (shift H.length)))
      | none => none
    | none => if d then none else bodyW DC 11 xs H := callW_body rfl rfl rfl
@[simp] theorem call12 (d : Bool) (xs : List V) (H : Heap) : callW DC d (.fn 12 []) xs H = match sealL H xs with
    | some (ys, bs) => match bodyW DC 12 ys [] with
      | some (r, H') => some (ren (shift H.length) r, (if hasRo r || H'.any hasRoB then freeze H bs else H) ++ H'.map (renB (shift H.length)))
      | none => none
    | none => if d then none else bodyW DC 12 xs H := callW_body rfl rfl rfl
@[simp] theorem call13 (d : Bool) (xs : List V) (H : Heap) : callW DC d (.fn 13 []) xs H = match sealL H xs with
    | some (ys, bs) => match bodyW DC 13 ys [] with
      | some (r, H') => some (ren (shift H.length) r, (if hasRo r || H'.any hasRoB then freeze H bs else H) ++ H'.map (renB (shift H.length)))
      | none => none
    | none => if d then none else bodyW DC 13 xs H := callW_body rfl rfl rfl
@[simp] theorem call14 (d : Bool) (xs : List V) (H : Heap) : callW DC d (.fn 14 []) xs H = match sealL H xs with
    | some (ys, bs) => match bodyW DC 14 ys [] with
      | some (r, H') => some (ren (shift H.length) r, (if hasRo r || H'.any hasRoB then freeze H bs else H) ++ H'.map (renB (shift H.length)))
      | none => none
    | none => if d then none else bodyW DC 14 xs H := callW_body rfl rfl rfl
@[simp] theorem call15 (d : Bool) (xs : List V) (H : Heap) : callW DC d (.fn 15 []) xs H = match sealL H xs with
    | some (ys, bs) => match bodyW DC 15 ys [] with
      | some (r, H') => some (ren (shift H.length) r, (if hasRo r || H'.any hasRoB then freeze H bs else H) ++ H'.map (renB (shift H.length)))
      | none => none
    | none => if d then none else bodyW DC 15 xs H := callW_body rfl rfl rfl
@[simp] theorem call16 (d : Bool) (xs : List V) (H : Heap) : callW DC d (.fn 16 []) xs H = match sealL H xs with
    | some (ys, bs) => match bodyW DC 16 ys [] with
      | some (r, H') => some (ren (shift H.length) r, (if hasRo r || H'.any hasRoB then freeze H bs else H) ++ H'.map (renB (shift H.length)))
      | none => none
    | none => if d then none else bodyW DC 16 xs H := callW_body rfl rfl rfl
@[simp] theorem call17 (d : Bool) (xs : List V) (H : Heap) : callW DC d (.fn 17 []) xs H = match sealL H xs with
    | some (ys, bs) => match bodyW DC 17 ys [] with
      | some (r, H') => some (ren (shift H.length) r, (if hasRo r || H'.any hasRoB then freeze H bs else H) ++ H'.map (renB (shift H.length)))
      | none => none
    | none => if d then none else bodyW DC 17 xs H := callW_body rfl rfl rfl
@[simp] theorem call18 (d : Bool) (xs : List V) (H : Heap) : callW DC d (.fn 18 []) xs H = match sealL H xs with
    | some (ys, bs) => match bodyW DC 18 ys [] with
      | some (r, H') => some (ren (shift H.length) r, (if hasRo r || H'.any hasRoB then freeze H bs else H) ++ H'.map (renB (shift H.length)))
      | none => none
    | none => if d then none else bodyW DC 18 xs H := callW_body rfl rfl rfl
@[simp] theorem call19 (d : Bool) (xs : List V) (H : Heap) : callW DC d (.fn 19 []) xs H = match sealL H xs with
    | some (ys, bs) => match bodyW DC 19 ys [] with
      | some (r, H') => some (ren (shift H.length) r, (if hasRo r || H'.any hasRoB then freeze H bs else H) ++ H'.map (renB (shift H.length)))
      | none => none
    | none => if d then none else bodyW DC 19 xs H := callW_body rfl rfl rfl
@[simp] theorem call20 (d : Bool) (xs : List V) (H : Heap) : callW DC d (.fn 20 []) xs H = match sealL H xs with
    | some (ys, bs) => match bodyW DC 20 ys [] with
      | some (r, H') => some (ren (shift H.length) r, (if hasRo r || H'.any hasRoB then freeze H bs else H) ++ H'.map (renB (shift H.length)))
      | none => none
    | none => if d then none else bodyW DC 20 xs H := callW_body rfl rfl rfl
@[simp] theorem call21 (d : Bool) (xs : List V) (H : Heap) : callW DC d (.fn 21 []) xs H = match sealL H xs with
    | some (ys, bs) => match bodyW DC 21 ys [] with
      | some (r, H') => some (ren (shift H.length) r, (if hasRo r || H'.any hasRoB then freeze H bs else H) ++ H'.map (renB (shift H.length)))
      | none => none
    | none => if d then none else bodyW DC 21 xs H := callW_body rfl rfl rfl
@[simp] theorem call22 (d : Bool) (xs : List V) (H : Heap) : callW DC d (.fn 22 []) xs H = match sealL H xs with
    | some (ys, bs) => match bodyW DC 22 ys [] with
      | some (r, H') => some (ren (shift H.length) r, (if hasRo r || H'.any hasRoB then freeze H bs else H) ++ H'.map (renB (shift H.length)))
      | none => none
    | none => if d then none else bodyW DC 22 xs H := callW_body rfl rfl rfl
@[simp] theorem call23 (d : Bool) (xs : List V) (H : Heap) : callW DC d (.fn 23 []) xs H = match sealL H xs with
    | some (ys, bs) => match bodyW DC 23 ys [] with
      | some (r, H') => some (ren (shift H.length) r, (if hasRo r || H'.any hasRoB then freeze H bs else H) ++ H'.map (renB (shift H.length)))
      | none => none
    | none => if d then none else bodyW DC 23 xs H := callW_body rfl rfl rfl
@[simp] theorem call24 (d : Bool) (xs : List V) (H : Heap) : callW DC d (.fn 24 []) xs H = match sealL H xs with
    | some (ys, bs) => match bodyW DC 24 ys [] with
      | some (r, H') => some (ren (shift H.length) r, (if hasRo r || H'.any hasRoB then freeze H bs else H) ++ H'.map (renB (shift H.length)))
      | none => none
    | none => if d then none else bodyW DC 24 xs H := callW_body rfl rfl rfl
@[simp] theorem call25 (d : Bool) (xs : List V) (H : Heap) : callW DC d (.fn 25 []) xs H = match sealL H xs with
    | some (ys, bs) => match bodyW DC 25 ys [] with
      | some (r, H') => some (ren (shift H.length) r, (if hasRo r || H'.any hasRoB then freeze H bs else H) ++ H'.map (renB (shift H.length)))
      | none => none
    | none => if d then none else bodyW DC 25 xs H := callW_body rfl rfl rfl
@[simp] theorem call26 (d : Bool) (xs : List V) (H : Heap) : callW DC d (.fn 26 []) xs H = match sealL H xs with
    | some (ys, bs) => match bodyW DC 26 ys [] with
      | some (r, H') => some (ren (shift H.length) r, (if hasRo r || H'.any hasRoB then freeze H bs else H) ++ H'.map (renB (shift H.length)))
      | none => none
    | none => if d then none else bodyW DC 26 xs H := callW_body rfl rfl rfl
@[simp] theorem call27 (d : Bool) (xs : List V) (H : Heap) : callW DC d (.fn 27 []) xs H = match sealL H xs with
    | some (ys, bs) => match bodyW DC 27 ys [] with
      | some (r, H') => some (ren (shift H.length) r, (if hasRo r || H'.any hasRoB then freeze H bs else H) ++ H'.map (renB (shift H.length)))
      | none => none
    | none => if d then none else bodyW DC 27 xs H := callW_body rfl rfl rfl
@[simp] theorem call28 (d : Bool) (xs : List V) (H : Heap) : callW DC d (.fn 28 []) xs H = match sealL H xs with
    | some (ys, bs) => match bodyW DC 28 ys [] with
      | some (r, H') => some (ren (shift H.length) r, (if hasRo r || H'.any hasRoB then freeze H bs else H) ++ H'.map (renB (shift H.length)))
      | none => none
    | none => if d then none else bodyW DC 28 xs H := callW_body rfl rfl rfl
@[simp] theorem call29 (d : Bool) (xs : List V) (H : Heap) : callW DC d (.fn 29 []) xs H = match sealL H xs with
    | some (ys, bs) => match bodyW DC 29 ys [] with
      | some (r, H') => some (ren (shift H.length) r, (if hasRo r || H'.any hasRoB then freeze H bs else H) ++ H'.map (renB (shift H.length)))
      | none => none
    | none => if d then none else bodyW DC 29 xs H := callW_body rfl rfl rfl
@[simp] theorem call30 (d : Bool) (xs : List V) (H : Heap) : callW DC d (.fn 30 []) xs H = match sealL H xs with
    | some (ys, bs) => match bodyW DC 30 ys [] with
      | some (r, H') => some (ren (shift H.length) r, (if hasRo r || H'.any hasRoB then freeze H bs else H) ++ H'.map (renB (shift H.length)))
      | none => none
    | none => if d then none else bodyW DC 30 xs H := callW_body rfl rfl rfl
@[simp] theorem call32 (d : Bool) (xs : List V) (H : Heap) : callW DC d (.fn 32 []) xs H = match sealL H xs with
    | some (ys, bs) => match bodyW DC 32 ys [] with
      | some (r, H') => some (ren (shift H.length) r, (if hasRo r || H'.any hasRoB then freeze H bs else H) ++ H'.map (renB (shift H.length)))
      | none => none
    | none => if d then none else bodyW DC 32 xs H := callW_body rfl rfl rfl
@[simp] theorem call33 (d : Bool) (xs : List V) (H : Heap) : callW DC d (.fn 33 []) xs H = match sealL H xs with
    | some (ys, bs) => match bodyW DC 33 ys [] with
      | some (r, H') => some (ren (shift H.length) r, (if hasRo r || H'.any hasRoB then freeze H bs else H) ++ H'.map (renB (shift H.length)))
      | none => none
    | none => if d then none else bodyW DC 33 xs H := callW_body rfl rfl rfl
@[simp] theorem call34 (d : Bool) (xs : List V) (H : Heap) : callW DC d (.fn 34 []) xs H = match sealL H xs with
    | some (ys, bs) => match bodyW DC 34 ys [] with
      | some (r, H') => some (ren (shift H.length) r, (if hasRo r || H'.any hasRoB then freeze H bs else H) ++ H'.map (renB (shift H.length)))
      | none => none
    | none => if d then none else bodyW DC 34 xs H := callW_body rfl rfl rfl
@[simp] theorem call35 (d : Bool) (xs : List V) (H : Heap) : callW DC d (.fn 35 []) xs H = match sealL H xs with
    | some (ys, bs) => match bodyW DC 35 ys [] with
      | some (r, H') => some (ren (shift H.length) r, (if hasRo r || H'.any hasRoB then freeze H bs else H) ++ H'.map (renB (shift H.length)))
      | none => none
    | none => if d then none else bodyW DC 35 xs H := callW_body rfl rfl rfl
@[simp] theorem call36 (d : Bool) (xs : List V) (H : Heap) : callW DC d (.fn 36 []) xs H = match sealL H xs with
    | some (ys, bs) => match bodyW DC 36 ys [] with
      | some (r, H') => some (ren (shift H.length) r, (if hasRo r || H'.any hasRoB then freeze H bs else H) ++ H'.map (renB (shift H.length)))
      | none => none
    | none => if d then none else bodyW DC 36 xs H := callW_body rfl rfl rfl
@[simp] theorem call37 (d : Bool) (xs : List V) (H : Heap) : callW DC d (.fn 37 []) xs H = match sealL H xs with
    | some (ys, bs) => match bodyW DC 37 ys [] with
      | some (r, H') => some (ren (shift H.length) r, (if hasRo r || H'.any hasRoB then freeze H bs else H) ++ H'.map (renB (shift H.length)))
      | none => none
    | none => if d then none else bodyW DC 37 xs H := callW_body rfl rfl rfl
@[simp] theorem call38 (d : Bool) (xs : List V) (H : Heap) : callW DC d (.fn 38 []) xs H = match sealL H xs with
    | some (ys, bs) => match bodyW DC 38 ys [] with
      | some (r, H') => some (ren (shift H.length) r, (if hasRo r || H'.any hasRoB then freeze H bs else H) ++ H'.map (renB (shift H.length)))
      | none => none
    | none => if d then none else bodyW DC 38 xs H := callW_body rfl rfl rfl
@[simp] theorem call39 (d : Bool) (xs : List V) (H : Heap) : callW DC d (.fn 39 []) xs H = match sealL H xs with
    | some (ys, bs) => match bodyW DC 39 ys [] with
      | some (r, H') => some (ren (shift H.length) r, (if hasRo r || H'.any hasRoB then freeze H bs else H) ++ H'.map (renB (shift H.length)))
      | none => none
    | none => if d then none else bodyW DC 39 xs H := callW_body rfl rfl rfl
@[simp] theorem call40 (d : Bool) (xs : List V) (H : Heap) : callW DC d (.fn 40 []) xs H = match sealL H xs with
    | some (ys, bs) => match bodyW DC 40 ys [] with
      | some (r, H') => some (ren (shift H.length) r, (if hasRo r || H'.any hasRoB then freeze H bs else H) ++ H'.map (renB (shift H.length)))
      | none => none
    | none => if d then none else bodyW DC 40 xs H := callW_body rfl rfl rfl
@[simp] theorem call41 (d : Bool) (xs : List V) (H : Heap) : callW DC d (.fn 41 []) xs H = match sealL H xs with
    | some (ys, bs) => match bodyW DC 41 ys [] with
      | some (r, H') => some (ren (shift H.length) r, (if hasRo r || H'.any hasRoB then freeze H bs else H) ++ H'.map (renB (shift H.length)))
      | none => none
    | none => if d then none else bodyW DC 41 xs H := callW_body rfl rfl rfl
@[simp] theorem call42 (d : Bool) (xs : List V) (H : Heap) : callW DC d (.fn 42 []) xs H = match sealL H xs with
    | some (ys, bs) => match bodyW DC 42 ys [] with
      | some (r, H') => some (ren (shift H.length) r, (if hasRo r || H'.any hasRoB then freeze H bs else H) ++ H'.map (renB (shift H.length)))
      | none => none
    | none => if d then none else bodyW DC 42 xs H := callW_body rfl rfl rfl
@[simp] theorem call43 (d : Bool) (xs : List V) (H : Heap) : callW DC d (.fn 43 []) xs H = match sealL H xs with
    | some (ys, bs) => match bodyW DC 43 ys [] with
      | some (r, H') => some (ren (shift H.length) r, (if hasRo r || H'.any hasRoB then freeze H bs else H) ++ H'.map (renB (shift H.length)))
      | none => none
    | none => if d then none else bodyW DC 43 xs H := callW_body rfl rfl rfl
@[simp] theorem call44 (d : Bool) (xs : List V) (H : Heap) : callW DC d (.fn 44 []) xs H = match sealL H xs with
    | some (ys, bs) => match bodyW DC 44 ys [] with
      | some (r, H') => some (ren (shift H.length) r, (if hasRo r || H'.any hasRoB then freeze H bs else H) ++ H'.map (renB (shift H.length)))
      | none => none
    | none => if d then none else bodyW DC 44 xs H := callW_body rfl rfl rfl
@[simp] theorem call45 (d : Bool) (xs : List V) (H : Heap) : callW DC d (.fn 45 []) xs H = match sealL H xs with
    | some (ys, bs) => match bodyW DC 45 ys [] with
      | some (r, H') => some (ren (shift H.length) r, (if hasRo r || H'.any hasRoB then freeze H bs else H) ++ H'.map (renB (shift H.length)))
      | none => none
    | none => if d then none else bodyW DC 45 xs H := callW_body rfl rfl rfl
@[simp] theorem call46 (d : Bool) (xs : List V) (H : Heap) : callW DC d (.fn 46 []) xs H = match sealL H xs with
    | some (ys, bs) => match bodyW DC 46 ys [] with
      | some (r, H') => some (ren (shift H.length) r, (if hasRo r || H'.any hasRoB then freeze H bs else H) ++ H'.map (renB (shift H.length)))
      | none => none
    | none => if d then none else bodyW DC 46 xs H := callW_body rfl rfl rfl
@[simp] theorem call47 (d : Bool) (xs : List V) (H : Heap) : callW DC d (.fn 47 []) xs H = match sealL H xs with
    | some (ys, bs) => match bodyW DC 47 ys [] with
      | some (r, H') => some (ren (shift H.length) r, (if hasRo r || H'.any hasRoB then freeze H bs else H) ++ H'.map (renB (shift H.length)))
      | none => none
    | none => if d then none else bodyW DC 47 xs H := callW_body rfl rfl rfl
@[simp] theorem call48 (d : Bool) (xs : List V) (H : Heap) : callW DC d (.fn 48 []) xs H = match sealL H xs with
    | some (ys, bs) => match bodyW DC 48 ys [] with
      | some (r, H') => some (ren (shift H.length) r, (if hasRo r || H'.any hasRoB then freeze H bs else H) ++ H'.map (renB (shift H.length)))
      | none => none
    | none => if d then none else bodyW DC 48 xs H := callW_body rfl rfl rfl
@[simp] theorem call49 (d : Bool) (xs : List V) (H : Heap) : callW DC d (.fn 49 []) xs H = match sealL H xs with
    | some (ys, bs) => match bodyW DC 49 ys [] with
      | some (r, H') => some (ren (shift H.length) r, (if hasRo r || H'.any hasRoB then freeze H bs else H) ++ H'.map (renB (shift H.length)))
      | none => none
    | none => if d then none else bodyW DC 49 xs H := callW_body rfl rfl rfl
@[simp] theorem call50 (d : Bool) (xs : List V) (H : Heap) : callW DC d (.fn 50 []) xs H = match sealL H xs with
    | some (ys, bs) => match bodyW DC 50 ys [] with
      | some (r, H') => some (ren (shift H.length) r, (if hasRo r || H'.any hasRoB then freeze H bs else H) ++ H'.map (renB (shift H.length)))
      | none => none
    | none => if d then none else bodyW DC 50 xs H := callW_body rfl rfl rfl
@[simp] theorem call54 (d : Bool) (xs : List V) (H : Heap) : callW DC d (.fn 54 []) xs H = match sealL H xs with
    | some (ys, bs) => match bodyW DC 54 ys [] with
      | some (r, H') => some (ren (shift H.length) r, (if hasRo r || H'.any hasRoB then freeze H bs else H) ++ H'.map (renB (shift H.length)))
      | none => none
    | none => if d then none else bodyW DC 54 xs H := callW_body rfl rfl rfl
@[simp] theorem call55 (d : Bool) (xs : List V) (H : Heap) : callW DC d (.fn 55 []) xs H = match sealL H xs with
    | some (ys, bs) => match bodyW DC 55 ys [] with
      | some (r, H') => some (ren (shift H.length) r, (if hasRo r || H'.any hasRoB then freeze H bs else H) ++ H'.map (renB (shift H.length)))
      | none => none
    | none => if d then none else bodyW DC 55 xs H := callW_body rfl rfl rfl
@[simp] theorem call56 (d : Bool) (xs : List V) (H : Heap) : callW DC d (.fn 56 []) xs H = match sealL H xs with
    | some (ys, bs) => match bodyW DC 56 ys [] with
      | some (r, H') => some (ren (shift H.length) r, (if hasRo r || H'.any hasRoB then freeze H bs else H) ++ H'.map (renB (shift H.length)))
      | none => none
    | none => if d then none else bodyW DC 56 xs H := callW_body rfl rfl rfl
@[simp] theorem call57 (d : Bool) (xs : List V) (H : Heap) : callW DC d (.fn 57 []) xs H = match sealL H xs with
    | some (ys, bs) => match bodyW DC 57 ys [] with
      | some (r, H') => some (ren (shift H.length) r, (if hasRo r || H'.any hasRoB then freeze H bs else H) ++ H'.map (renB (shift H.length)))
      | none => none
    | none => if d then none else bodyW DC 57 xs H := callW_body rfl rfl rfl
@[simp] theorem call58 (d : Bool) (xs : List V) (H : Heap) : callW DC d (.fn 58 []) xs H = match sealL H xs with
    | some (ys, bs) => match bodyW DC 58 ys [] with
      | some (r, H') => some (ren (shift H.length) r, (if hasRo r || H'.any hasRoB then freeze H bs else H) ++ H'.map (renB (shift H.length)))
      | none => none
    | none => if d then none else bodyW DC 58 xs H := callW_body rfl rfl rfl
@[simp] theorem call59 (d : Bool) (xs : List V) (H : Heap) : callW DC d (.fn 59 []) xs H = match sealL H xs with
    | some (ys, bs) => match bodyW DC 59 ys [] with
      | some (r, H') => some (ren (shift H.length) r, (if hasRo r || H'.any hasRoB then freeze H bs else H) ++ H'.map (renB (shift H.length)))
      | none => none
    | none => if d then none else bodyW DC 59 xs H := callW_body rfl rfl rfl
@[simp] theorem call60 (d : Bool) (xs : List V) (H : Heap) : callW DC d (.fn 60 []) xs H = match sealL H xs with
    | some (ys, bs) => match bodyW DC 60 ys [] with
      | some (r, H') => some (ren (shift H.length) r, (if hasRo r || H'.any hasRoB then freeze H bs else H) ++ H'.map (renB (shift H.length)))
      | none => none
    | none => if d then none else bodyW DC 60 xs H := callW_body rfl rfl rfl
@[simp] theorem call61 (d : Bool) (xs : List V) (H : Heap) : callW DC d (.fn 61 []) xs H = match sealL H xs with
    | some (ys, bs) => match bodyW DC 61 ys [] with
      | some (r, H') => some (ren (shift H.length) r, (if hasRo r || H'.any hasRoB then freeze H bs else H) ++ H'.map (renB (shift H.length)))
      | none => none
    | none => if d then none else bodyW DC 61 xs H := callW_body rfl rfl rfl
@[simp] theorem call62 (d : Bool) (xs : List V) (H : Heap) : callW DC d (.fn 62 []) xs H = match sealL H xs with
    | some (ys, bs) => match bodyW DC 62 ys [] with
      | some (r, H') => some (ren (shift H.length) r, (if hasRo r || H'.any hasRoB then freeze H bs else H) ++ H'.map (renB (shift H.length)))
      | none => none
    | none => if d then none else bodyW DC 62 xs H := callW_body rfl rfl rfl
@[simp] theorem call63 (d : Bool) (xs : List V) (H : Heap) : callW DC d (.fn 63 []) xs H = match sealL H xs with
    | some (ys, bs) => match bodyW DC 63 ys [] with
      | some (r, H') => some (ren (shift H.length) r, (if hasRo r || H'.any hasRoB then freeze H bs else H) ++ H'.map (renB (shift H.length)))
      | none => none
    | none => if d then none else bodyW DC 63 xs H := callW_body rfl rfl rfl
@[simp] theorem call64 (d : Bool) (xs : List V) (H : Heap) : callW DC d (.fn 64 []) xs H = match sealL H xs with
    | some (ys, bs) => match bodyW DC 64 ys [] with
      | some (r, H') => some (ren (shift H.length) r, (if hasRo r || H'.any hasRoB then freeze H bs else H) ++ H'.map (renB (shift H.length)))
      | none => none
    | none => if d then none else bodyW DC 64 xs H := callW_body rfl rfl rfl
@[simp] theorem call65 (d : Bool) (xs : List V) (H : Heap) : callW DC d (.fn 65 []) xs H = match sealL H xs with
    | some (ys, bs) => match bodyW DC 65 ys [] with
      | some (r, H') => some (ren (shift H.length) r, (if hasRo r || H'.any hasRoB then freeze H bs else H) ++ H'.map (renB (shift H.length)))
      | none => none
    | none => if d then none else bodyW DC 65 xs H := callW_body rfl rfl rfl
@[simp] theorem call66 (d : Bool) (xs : List V) (H : Heap) : callW DC d (.fn 66 []) xs H = match sealL H xs with
    | some (ys, bs) => match bodyW DC 66 ys [] with
      | some (r, H') => some (ren (shift H.length) r, (if hasRo r || H'.any hasRoB then freeze H bs else H) ++ H'.map (renB (shift H.length)))
      | none => none
    | none => if d then none else bodyW DC 66 xs H := callW_body rfl rfl rfl
@[simp] theorem call67 (d : Bool) (xs : List V) (H : Heap) : callW DC d (.fn 67 []) xs H = match sealL H xs with
    | some (ys, bs) => match bodyW DC 67 ys [] with
      | some (r, H') => some (ren (shift H.length) r, (if hasRo r || H'.any hasRoB then freeze H bs else H) ++ H'.map (renB (shift H.length)))
      | none => none
    | none => if d then none else bodyW DC 67 xs H := callW_body rfl rfl rfl
@[simp] theorem call68 (d : Bool) (xs : List V) (H : Heap) : callW DC d (.fn 68 []) xs H = match sealL H xs with
    | some (ys, bs) => match bodyW DC 68 ys [] with
      | some (r, H') => some (ren (shift H.length) r, (if hasRo r || H'.any hasRoB then freeze H bs else H) ++ H'.map (renB (shift H.length)))
      | none => none
    | none => if d then none else bodyW DC 68 xs H := callW_body rfl rfl rfl
@[simp] theorem call69 (d : Bool) (xs : List V) (H : Heap) : callW DC d (.fn 69 []) xs H = match sealL H xs with
    | some (ys, bs) => match bodyW DC 69 ys [] with
      | some (r, H') => some (ren (shift H.length) r, (if hasRo r || H'.any hasRoB then freeze H bs else H) ++ H'.map (renB (shift H.length)))
      | none => none
    | none => if d then none else bodyW DC 69 xs H := callW_body rfl rfl rfl
@[simp] theorem call72 (d : Bool) (xs : List V) (H : Heap) : callW DC d (.fn 72 []) xs H = match sealL H xs with
    | some (ys, bs) => match bodyW DC 72 ys [] with
      | some (r, H') => some (ren (shift H.length) r, (if hasRo r || H'.any hasRoB then freeze H bs else H) ++ H'.map (renB (shift H.length)))
      | none => none
    | none => if d then none else bodyW DC 72 xs H := callW_body rfl rfl rfl
@[simp] theorem call73 (d : Bool) (xs : List V) (H : Heap) : callW DC d (.fn 73 []) xs H = match sealL H xs with
    | some (ys, bs) => match bodyW DC 73 ys [] with
      | some (r, H') => some (ren (shift H.length) r, (if hasRo r || H'.any hasRoB then freeze H bs else H) ++ H'.map (renB (shift H.length)))
      | none => none
    | none => if d then none else bodyW DC 73 xs H := callW_body rfl rfl rfl
@[simp] theorem call74 (d : Bool) (xs : List V) (H : Heap) : callW DC d (.fn 74 []) xs H = match sealL H xs with
    | some (ys, bs) => match bodyW DC 74 ys [] with
      | some (r, H') => some (ren (shift H.length) r, (if hasRo r || H'.any hasRoB then freeze H bs else H) ++ H'.map (renB (shift H.length)))
      | none => none
    | none => if d then none else bodyW DC 74 xs H := callW_body rfl rfl rfl
@[simp] theorem call75 (d : Bool) (xs : List V) (H : Heap) : callW DC d (.fn 75 []) xs H = match sealL H xs with
    | some (ys, bs) => match bodyW DC 75 ys [] with
      | some (r, H') => some (ren (shift H.length) r, (if hasRo r || H'.any hasRoB then freeze H bs else H) ++ H'.map (renB (shift H.length)))
      | none => none
    | none => if d then none else bodyW DC 75 xs H := callW_body rfl rfl rfl
@[simp] theorem call76 (d : Bool) (xs : List V) (H : Heap) : callW DC d (.fn 76 []) xs H = match sealL H xs with
    | some (ys, bs) => match bodyW DC 76 ys [] with
      | some (r, H') => some (ren (shift H.length) r, (if hasRo r || H'.any hasRoB then freeze H bs else H) ++ H'.map (renB (shift H.length)))
      | none => none
    | none => if d then none else bodyW DC 76 xs H := callW_body rfl rfl rfl
@[simp] theorem call77 (d : Bool) (xs : List V) (H : Heap) : callW DC d (.fn 77 []) xs H = match sealL H xs with
    | some (ys, bs) => match bodyW DC 77 ys [] with
      | some (r, H') => some (ren (shift H.length) r, (if hasRo r || H'.any hasRoB then freeze H bs else H) ++ H'.map (renB (shift H.length)))
      | none => none
    | none => if d then none else bodyW DC 77 xs H := callW_body rfl rfl rfl
@[simp] theorem call78 (d : Bool) (xs : List V) (H : Heap) : callW DC d (.fn 78 []) xs H = match sealL H xs with
    | some (ys, bs) => match bodyW DC 78 ys [] with
      | some (r, H') => some (ren (shift H.length) r, (if hasRo r || H'.any hasRoB then freeze H bs else H) ++ H'.map (renB (shift H.length)))
      | none => none
    | none => if d then none else bodyW DC 78 xs H := callW_body rfl rfl rfl
@[simp] theorem call79 (d : Bool) (xs : List V) (H : Heap) : callW DC d (.fn 79 []) xs H = match sealL H xs with
    | some (ys, bs) => match bodyW DC 79 ys [] with
      | some (r, H') => some (ren (shift H.length) r, (if hasRo r || H'.any hasRoB then freeze H bs else H) ++ H'.map (renB (shift H.length)))
      | none => none
    | none => if d then none else bodyW DC 79 xs H := callW_body rfl rfl rfl
@[simp] theorem call80 (d : Bool) (xs : List V) (H : Heap) : callW DC d (.fn 80 []) xs H = match sealL H xs with
    | some (ys, bs) => match bodyW DC 80 ys [] with
      | some (r, H') => some (ren (shift H.length) r, (if hasRo r || H'.any hasRoB then freeze H bs else H) ++ H'.map (renB (shift H.length)))
      | none => none
    | none => if d then none else bodyW DC 80 xs H := callW_body rfl rfl rfl
@[simp] theorem call81 (d : Bool) (xs : List V) (H : Heap) : callW DC d (.fn 81 []) xs H = match sealL H xs with
    | some (ys, bs) => match bodyW DC 81 ys [] with
      | some (r, H') => some (ren (shift H.length) r, (if hasRo r || H'.any hasRoB then freeze H bs else H) ++ H'.map (renB (shift H.length)))
      | none => none
    | none => if d then none else bodyW DC 81 xs H := callW_body rfl rfl rfl
@[simp] theorem call82 (d : Bool) (xs : List V) (H : Heap) : callW DC d (.fn 82 []) xs H = match sealL H xs with
    | some (ys, bs) => match bodyW DC 82 ys [] with
      | some (r, H') => some (ren (shift H.length) r, (if hasRo r || H'.any hasRoB then freeze H bs else H) ++ H'.map (renB (shift H.length)))
      | none => none
    | none => if d then none else bodyW DC 82 xs H := callW_body rfl rfl rfl
@[simp] theorem call83 (d : Bool) (xs : List V) (H : Heap) : callW DC d (.fn 83 []) xs H = match sealL H xs with
    | some (ys, bs) => match bodyW DC 83 ys [] with
      | some (r, H') => some (ren (shift H.length) r, (if hasRo r || H'.any hasRoB then freeze H bs else H) ++ H'.map (renB (shift H.length)))
      | none => none
    | none => if d then none else bodyW DC 83 xs H := callW_body rfl rfl rfl
@[simp] theorem call84 (d : Bool) (xs : List V) (H : Heap) : callW DC d (.fn 84 []) xs H = match sealL H xs with
    | some (ys, bs) => match bodyW DC 84 ys [] with
      | some (r, H') => some (ren (shift H.length) r, (if hasRo r || H'.any hasRoB then freeze H bs else H) ++ H'.map (renB (shift H.length)))
      | none => none
    | none => if d then none else bodyW DC 84 xs H := callW_body rfl rfl rfl
@[simp] theorem call85 (d : Bool) (xs : List V) (H : Heap) : callW DC d (.fn 85 []) xs H = match sealL H xs with
    | some (ys, bs) => match bodyW DC 85 ys [] with
      | some (r, H') => some (ren (shift H.length) r, (if hasRo r || H'.any hasRoB then freeze H bs else H) ++ H'.map (renB (shift H.length)))
      | none => none
    | none => if d then none else bodyW DC 85 xs H := callW_body rfl rfl rfl
@[simp] theorem call88 (d : Bool) (xs : List V) (H : Heap) : callW DC d (.fn 88 []) xs H = match sealL H xs with
    | some (ys, bs) => match bodyW DC 88 ys [] with
      | some (r, H') => some (ren (shift H.length) r, (if hasRo r || H'.any hasRoB then freeze H bs else H) ++ H'.map (renB (shift H.length)))
      | none => none
    | none => if d then none else bodyW DC 88 xs H := callW_body rfl rfl rfl
@[simp] theorem call89 (d : Bool) (xs : List V) (H : Heap) : callW DC d (.fn 89 []) xs H = match sealL H xs with
    | some (ys, bs) => match bodyW DC 89 ys [] with
      | some (r, H') => some (ren (shift H.length) r, (if hasRo r || H'.any hasRoB then freeze H bs else H) ++ H'.map (renB (shift H.length)))
      | none => none
    | none => if d then none else bodyW DC 89 xs H := callW_body rfl rfl rfl
@[simp] theorem call90 (d : Bool) (xs : List V) (H : Heap) : callW DC d (.fn 90 []) xs H = match sealL H xs with
    | some (ys, bs) => match bodyW DC 90 ys [] with
      | some (r, H') => some (ren (shift H.length) r, (if hasRo r || H'.any hasRoB then freeze H bs else H) ++ H'.map (renB (shift H.length)))
      | none => none
    | none => if d then none else bodyW DC 90 xs H := callW_body rfl rfl rfl
@[simp] theorem call92 (d : Bool) (xs : List V) (H : Heap) : callW DC d (.fn 92 []) xs H = match sealL H xs with
    | some (ys, bs) => match bodyW DC 92 ys [] with
      | some (r, H') => some (ren (shift H.length) r, (if hasRo r || H'.any hasRoB then freeze H bs else H) ++ H'.map (renB (shift H.length)))
      | none => none
    | none => if d then none else bodyW DC 92 xs H := callW_body rfl rfl rfl
@[simp] theorem call93 (d : Bool) (xs : List V) (H : Heap) : callW DC d (.fn 93 []) xs H = match sealL H xs with
    | some (ys, bs) => match bodyW DC 93 ys [] with
      | some (r, H') => some (ren (shift H.length) r, (if hasRo r || H'.any hasRoB then freeze H bs else H) ++ H'.map (renB (shift H.length)))
      | none => none
    | none => if d then none else bodyW DC 93 xs H := callW_body rfl rfl rfl
@[simp] theorem call95 (d : Bool) (xs : List V) (H : Heap) : callW DC d (.fn 95 []) xs H = match sealL H xs with
    | some (ys, bs) => match bodyW DC 95 ys [] with
      | some (r, H') => some (ren (shift H.length) r, (if hasRo r || H'.any hasRoB then freeze H bs else H) ++ H'.map (renB (shift H.length)))
      | none => none
    | none => if d then none else bodyW DC 95 xs H := callW_body rfl rfl rfl
@[simp] theorem call96 (d : Bool) (xs : List V) (H : Heap) : callW DC d (.fn 96 []) xs H = match sealL H xs with
    | some (ys, bs) => match bodyW DC 96 ys [] with
      | some (r, H') => some (ren (shift H.length) r, (if hasRo r || H'.any hasRoB then freeze H bs else H) ++ H'.map (renB (shift H.length)))
      | none => none
    | none => if d then none else bodyW DC 96 xs H := callW_body rfl rfl rfl
@[simp] theorem call97 (d : Bool) (xs : List V) (H : Heap) : callW DC d (.fn 97 []) xs H = match sealL H xs with
    | some (ys, bs) => match bodyW DC 97 ys [] with
      | some (r, H') => some (ren (shift H.length) r, (if hasRo r || H'.any hasRoB then freeze H bs else H) ++ H'.map (renB (shift H.length)))
      | none => none
    | none => if d then none else bodyW DC 97 xs H := callW_body rfl rfl rfl
@[simp] theorem call98 (d : Bool) (xs : List V) (H : Heap) : callW DC d (.fn 98 []) xs H = match sealL H xs with
    | some (ys, bs) => match bodyW DC 98 ys [] with
      | some (r, H') => some (ren (shift H.length) r, (if hasRo r || H'.any hasRoB then freeze H bs else H) ++ H'.map (renB (shift H.length)))
      | none => none
    | none => if d then none else bodyW DC 98 xs H := callW_body rfl rfl rfl
@[simp] theorem call99 (d : Bool) (xs : List V) (H : Heap) : callW DC d (.fn 99 []) xs H = match sealL H xs with
    | some (ys, bs) => match bodyW DC 99 ys [] with
      | some (r, H') => some (ren (shift H.length) r, (if hasRo r || H'.any hasRoB then freeze H bs else H) ++ H'.map (renB (shift H.length)))
      | none => none
    | none => if d then none else bodyW DC 99 xs H := callW_body rfl rfl rfl
@[simp] theorem call100 (d : Bool) (xs : List V) (H : Heap) : callW DC d (.fn 100 []) xs H = match sealL H xs with
    | some (ys, bs) => match bodyW DC 100 ys [] with
      | some (r, H') => some (ren (shift H.length) r, (if hasRo r || H'.any hasRoB then freeze H bs else H) ++ H'.map (renB (shift H.length)))
      | none => none
    | none => if d then none else bodyW DC 100 xs H := callW_body rfl rfl rfl
@[simp] theorem call101 (d : Bool) (xs : List V) (H : Heap) : callW DC d (.fn 101 []) xs H = match sealL H xs with
    | some (ys, bs) => match bodyW DC 101 ys [] with
      | some (r, H') => some (ren (shift H.length) r, (if hasRo r || H'.any hasRoB then freeze H bs else H) ++ H'.map (renB (shift H.length)))
      | none => none
    | none => if d then none else bodyW DC 101 xs H := callW_body rfl rfl rfl
@[simp] theorem call102 (d : Bool) (xs : List V) (H : Heap) : callW DC d (.fn 102 []) xs H = match sealL H xs with
    | some (ys, bs) => match bodyW DC 102 ys [] with
      | some (r, H') => some (ren (shift H.length) r, (if hasRo r || H'.any hasRoB then freeze H bs else H) ++ H'.map (renB (shift H.length)))
      | none => none
    | none => if d then none else bodyW DC 102 xs H := callW_body rfl rfl rfl
@[simp] theorem call53 (d : Bool) (xs : List V) (H : Heap) : callW DC d (.fn 53 []) xs H = match sealL H xs with
    | some (ys, bs) => match cloneX 1 8 ys with
      | some (r, H') => some (ren (shift H.length) r, (if hasRo r || H'.any hasRoB then freeze H bs else H) ++ H'.map (renB (shift H.length)))
      | none => none
    | none => if d then none else bodyW DC 53 xs H := callW_ext rfl rfl rfl
@[simp] theorem call70 (d : Bool) (xs : List V) (H : Heap) : callW DC d (.fn 70 []) xs H = match sealL H xs with
    | some (ys, bs) => match repeatX ys with
      | some (r, H') => some (ren (shift H.length) r, (if hasRo r || H'.any hasRoB then freeze H bs else H) ++ H'.map (renB (shift H.length)))
      | none => none
    | none => if d then none else bodyW DC 70 xs H := callW_ext rfl rfl rfl
@[simp] theorem call86 (d : Bool) (xs : List V) (H : Heap) : callW DC d (.fn 86 []) xs H = match sealL H xs with
    | some (ys, bs) => match cloneX 1 16 ys with
      | some (r, H') => some (ren (shift H.length) r, (if hasRo r || H'.any hasRoB then freeze H bs else H) ++ H'.map (renB (shift H.length)))
      | none => none
    | none => if d then none else bodyW DC 86 xs H := callW_ext rfl rfl rfl
@[simp] theorem call87 (d : Bool) (xs : List V) (H : Heap) : callW DC d (.fn 87 []) xs H = match sealL H xs with
    | some (ys, bs) => match mulX ys with
      | some (r, H') => some (ren (shift H.length) r, (if hasRo r || H'.any hasRoB then freeze H bs else H) ++ H'.map (renB (shift H.length)))
      | none => none
    | none => if d then none else bodyW DC 87 xs H := callW_ext rfl rfl rfl
@[simp] theorem call31 (xs : List V) (H : Heap) : callW DC false (.fn 31 []) xs H = sortX xs H := callW_extE rfl
@[simp] theorem call51 (xs : List V) (H : Heap) : callW DC false (.fn 51 []) xs H = strX 100 5 xs H := callW_extE rfl
@[simp] theorem call71 (xs : List V) (H : Heap) : callW DC false (.fn 71 []) xs H = copyX 100 xs H := callW_extE rfl
theorem DC_body (f : FuncId) (b : Body) (h : DC.body f = some b) : ∃ fn, DC.P.funcs[f]? = some fn ∧ fn.name ≠ "runtime.NumGoroutine" ∧ fn.body = some b.code ∧ fn.results.toList = b.results ∧ fn.ntmps = b.ntmps ∧ codeOk DC.P DC.loud (DC.free f) b.ntmps b.code = true := by
  unfold DC at h ⊢
  simp only at h ⊢
  split at h
  · exact good_body Try.func3 (by decide) (by kernel_rfl) h
  · exact good_body Try.func4 (by decide) (by kernel_rfl) h
  · exact good_body Try.func5 (by decide) (by kernel_rfl) h
  · exact good_body Try.func6 (by decide) (by kernel_rfl) h
  · exact good_body Try.func7 (by decide) (by kernel_rfl) h
  · exact good_body Try.func8 (by decide) (by kernel_rfl) h
  · exact good_body Try.func9 (by decide) (by kernel_rfl) h
  · exact good_body Try.func10 (by decide) (by kernel_rfl) h
  · exact good_body Try.func11 (by decide) (by kernel_rfl) h
  · exact good_body Try.func12 (by decide) (by kernel_rfl) h
  · exact good_body Try.func13 (by decide) (by kernel_rfl) h
  · exact good_body Try.func14 (by decide) (by kernel_rfl) h
  · exact good_body Try.func15 (by decide) (by kernel_rfl) h
  · exact good_body Try.func16 (by decide) (by kernel_rfl) h
  · exact good_body Try.func17 (by decide) (by kernel_rfl) h
  · exact good_body Try.func18 (by decide) (by kernel_rfl) h
  · exact good_body Try.func19 (by decide) (by kernel_rfl) h
  · exact good_body Try.func20 (by decide) (by kernel_rfl) h
  · exact good_body Try.func21 (by decide) (by kernel_rfl) h
  · exact good_body Try.func22 (by decide) (by kernel_rfl) h
  · exact good_body Try.func23 (by decide) (by kernel_rfl) h
  · exact good_body Try.func24 (by decide) (by kernel_rfl) h
  · exact good_body Try.func25 (by decide) (by kernel_rfl) h
  · exact good_body Try.func26 (by decide) (by kernel_rfl) h
  · exact good_body Try.func27 (by decide) (by kernel_rfl) h
  · exact good_body Try.func28 (by decide) (by kernel_rfl) h
  · exact good_body Try.func29 (by decide) (by kernel_rfl) h
  · exact good_body Try.func30 (by decide) (by kernel_rfl) h
  · exact good_body Try.func32 (by decide) (by kernel_rfl) h
  · exact good_body Try.func33 (by decide) (by kernel_rfl) h
  · exact good_body Try.func34 (by decide) (by kernel_rfl) h
  · exact good_body Try.func35 (by decide) (by kernel_rfl) h
  · exact good_body Try.func36 (by decide) (by kernel_rfl) h
  · exact good_body Try.func37 (by decide) (by kernel_rfl) h
  · exact good_body Try.func38 (by decide) (by kernel_rfl) h
  · exact good_body Try.func39 (by decide) (by kernel_rfl) h
  · exact good_body Try.func40 (by decide) (by kernel_rfl) h
  · exact good_body Try.func41 (by decide) (by kernel_rfl) h
  · exact good_body Try.func42 (by decide) (by kernel_rfl) h
  · exact good_body Try.func43 (by decide) (by kernel_rfl) h
  · exact good_body Try.func44 (by decide) (by kernel_rfl) h
  · exact good_body Try.func45 (by decide) (by kernel_rfl) h
  · exact good_body Try.func46 (by decide) (by kernel_rfl) h
  · exact good_body Try.func47 (by decide) (by kernel_rfl) h
  · exact good_body Try.func48 (by decide) (by kernel_rfl) h
  · exact good_body Try.func49 (by decide) (by kernel_rfl) h
  · exact good_body Try.func50 (by decide) (by kernel_rfl) h
  · exact good_body Try.func52 (by decide) (by kernel_rfl) h
  · exact good_body Try.func54 (by decide) (by kernel_rfl) h
  · exact good_body Try.func55 (by decide) (by kernel_rfl) h
  · exact good_body Try.func56 (by decide) (by kernel_rfl) h
  · exact good_body Try.func57 (by decide) (by kernel_rfl) h
  · exact good_body Try.func58 (by decide) (by kernel_rfl) h
  · exact good_body Try.func59 (by decide) (by kernel_rfl) h
  · exact good_body Try.func60 (by decide) (by kernel_rfl) h
  · exact good_body Try.func61 (by decide) (by kernel_rfl) h
  · exact good_body Try.func62 (by decide) (by kernel_rfl) h
  · exact good_body Try.func63 (by decide) (by kernel_rfl) h
  · exact good_body Try.func64 (by decide) (by kernel_rfl) h
  · exact good_body Try.func65 (by decide) (by kernel_rfl) h
  · exact good_body Try.func66 (by decide) (by kernel_rfl) h
  · exact good_body Try.func67 (by decide) (by kernel_rfl) h
  · exact good_body Try.func68 (by decide) (by kernel_rfl) h
  · exact good_body Try.func69 (by decide) (by kernel_rfl) h
  · exact good_body Try.func72 (by decide) (by kernel_rfl) h
  · exact good_body Try.func73 (by decide) (by kernel_rfl) h
  · exact good_body Try.func74 (by decide) (by kernel_rfl) h
  · exact good_body Try.func75 (by decide) (by kernel_rfl) h
  · exact good_body Try.func76 (by decide) (by kernel_rfl) h
  · exact good_body Try.func77 (by decide) (by kernel_rfl) h
  · exact good_body Try.func78 (by decide) (by kernel_rfl) h
  · exact good_body Try.func79 (by decide) (by kernel_rfl) h
  · exact good_body Try.func80 (by decide) (by kernel_rfl) h
  · exact good_body Try.func81 (by decide) (by kernel_rfl) h
  · exact good_body Try.func82 (by decide) (by kernel_rfl) h
  · exact good_body Try.func83 (by decide) (by kernel_rfl) h
  · exact good_body Try.func84 (by decide) (by kernel_rfl) h
  · exact good_body Try.func85 (by decide) (by kernel_rfl) h
  · exact good_body Try.func88 (by decide) (by kernel_rfl) h
  · exact good_body Try.func89 (by decide) (by kernel_rfl) h
  · exact good_body Try.func90 (by decide) (by kernel_rfl) h
  · exact good_body Try.func92 (by decide) (by kernel_rfl) h
  · exact good_body Try.func93 (by decide) (by kernel_rfl) h
  · exact good_body Try.func95 (by decide) (by kernel_rfl) h
  · exact good_body Try.func96 (by decide) (by kernel_rfl) h
  · exact good_body Try.func97 (by decide) (by kernel_rfl) h
  · exact good_body Try.func98 (by decide) (by kernel_rfl) h
  · exact good_body Try.func99 (by decide) (by kernel_rfl) h
  · exact good_body Try.func100 (by decide) (by kernel_rfl) h
  · exact good_body Try.func101 (by decide) (by kernel_rfl) h
  · exact good_body Try.func102 (by decide) (by kernel_rfl) h
  · cases h
theorem DC_fn31 : FnOk DC.P 31 := ⟨_, Try.func31, by decide, by simp [Try.f31]⟩
theorem DC_fn51 : FnOk DC.P 51 := ⟨_, Try.func51, by decide, by simp [Try.f51]⟩
theorem DC_fn53 : FnOk DC.P 53 := ⟨_, Try.func53, by decide, by simp [Try.f53]⟩
theorem DC_fn70 : FnOk DC.P 70 := ⟨_, Try.func70, by decide, by simp [Try.f70]⟩
theorem DC_fn71 : FnOk DC.P 71 := ⟨_, Try.func71, by decide, by simp [Try.f71]⟩
theorem DC_fn86 : FnOk DC.P 86 := ⟨_, Try.func86, by decide, by simp [Try.f86]⟩
theorem DC_fn87 : FnOk DC.P 87 := ⟨_, Try.func87, by decide, by simp [Try.f87]⟩
end Go.Abs
