/- Proved here: the context in which this seat is evaluated. No condition but those that each theorem states. -/
import Derived.Test.YtpffmpllnpmkbaaDoorA6
import Derived.Test.YtpffmpllnpmkbaaDoorRows
namespace Go.Abs
open Go.Proofs
set_option maxRecDepth 100000
set_option linter.unusedVariables false
set_option linter.unusedSimpArgs false

noncomputable def DC : Ctx where
  P := Tryd.prog
  ext f := match f with
    | 37 => some (repeatX)
    | 55 => some (mulX)
    | 78 => some (cloneX 1 16)
    | 79 => some (cloneX 1 8)
    | _ => none
  extE f := match f with
    | 32 => some (sortX)
    | _ => none
  keep f k := match f, k with
    | 4, 26 => some [16, 21, 148, 149]
    | 5, 5 => some [1, 2, 5, 32, 33, 34]
    | 5, 12 => some [1, 2, 5, 7, 8, 9, 32, 33, 34, 52, 53, 54]
    | 5, 21 => some [1, 2, 5, 75, 76, 77]
    | 5, 25 => some [1, 2, 5, 13, 14, 75, 76, 77, 81, 82, 83]
    | 6, 12 => some [0, 5, 8, 110]
    | 7, 4 => some [16, 17, 18]
    | 9, 14 => some [1, 10, 41, 42, 43]
    | 10, 13 => some [1, 7, 9, 10]
    | 11, 4 => some [0, 1, 5]
    | 12, 2 => some [0, 5, 6, 7]
    | 13, 7 => some [1, 2, 24, 25, 26]
    | 13, 22 => some [10, 11, 12, 54, 55]
    | 14, 2 => some [1, 2, 3, 6, 9]
    | 16, 4 => some [3, 4, 13, 14, 15]
    | 16, 14 => some [3, 9, 41, 42, 43]
    | 17, 8 => some [0, 1, 4, 6, 8, 26, 27]
    | 22, 7 => some [1, 2, 7, 9, 10, 22, 23]
    | 25, 2 => some [1, 2, 5]
    | 26, 7 => some [0, 1, 6, 9, 10, 11]
    | 27, 2 => some [3]
    | 29, 3 => some [0, 5, 12, 13]
    | 35, 4 => some [1, 2, 3, 6, 9, 17, 18, 19]
    | 39, 4 => some [1, 19, 20, 21]
    | 39, 11 => some [1, 5, 30, 31, 32]
    | 40, 7 => some [0, 1, 2, 9, 10]
    | 42, 3 => some [3, 8, 9, 10]
    | 44, 4 => some [1, 3]
    | 44, 9 => some [1, 4]
    | 45, 7 => some [0, 1, 2, 9, 10]
    | 47, 5 => some [0, 1, 5, 6]
    | 48, 2 => some [1, 2, 5]
    | 49, 3 => some [0, 3, 4]
    | 50, 2 => some [0, 1, 2, 3, 8, 9]
    | 52, 8 => some [7, 8]
    | 60, 1 => some [0, 1]
    | 61, 1 => some [0, 1]
    | 62, 2 => some [0, 2, 4]
    | 63, 1 => some [0, 1]
    | 64, 1 => some [0, 1]
    | 65, 1 => some [0, 1]
    | 66, 1 => some [0, 1]
    | 67, 1 => some [0, 1, 2, 6]
    | 67, 4 => some [0, 1, 2, 6, 7]
    | 68, 4 => some [0, 6, 7, 8, 9]
    | 68, 8 => some [0, 6, 7, 10]
    | 69, 5 => some [0, 1, 6, 7, 8, 9]
    | 71, 2 => some [0, 6, 7]
    | 72, 3 => some [0, 1, 2, 7, 8]
    | 72, 5 => some [0, 1, 2, 7, 8]
    | 72, 14 => some [0, 1, 2, 7, 8, 9]
    | 72, 20 => some [0, 1, 2, 7, 8, 10]
    | 74, 3 => some [0, 1, 9, 10]
    | 74, 5 => some [0, 1, 9, 10]
    | 75, 3 => some [0, 1, 10, 11]
    | 75, 5 => some [0, 1, 10, 11]
    | 75, 13 => some [0, 1, 10, 11]
    | 75, 15 => some [0, 1, 10, 11]
    | 87, 10 => some [0, 4, 5, 6]
    | 88, 1 => some [0, 2, 3, 8]
    | _, _ => none
  body f := match f with
    | 3 => bodyOf Tryd.f3
    | 4 => bodyOf Tryd.f4
    | 5 => bodyOf Tryd.f5
    | 6 => bodyOf Tryd.f6
    | 7 => bodyOf Tryd.f7
    | 8 => bodyOf Tryd.f8
    | 9 => bodyOf Tryd.f9
    | 10 => bodyOf Tryd.f10
    | 11 => bodyOf Tryd.f11
    | 12 => bodyOf Tryd.f12
    | 13 => bodyOf Tryd.f13
    | 14 => bodyOf Tryd.f14
    | 15 => bodyOf Tryd.f15
    | 16 => bodyOf Tryd.f16
    | 17 => bodyOf Tryd.f17
    | 18 => bodyOf Tryd.f18
    | 19 => bodyOf Tryd.f19
    | 20 => bodyOf Tryd.f20
    | 21 => bodyOf Tryd.f21
    | 22 => bodyOf Tryd.f22
    | 23 => bodyOf Tryd.f23
    | 24 => bodyOf Tryd.f24
    | 25 => bodyOf Tryd.f25
    | 26 => bodyOf Tryd.f26
    | 27 => bodyOf Tryd.f27
    | 28 => bodyOf Tryd.f28
    | 29 => bodyOf Tryd.f29
    | 30 => bodyOf Tryd.f30
    | 31 => bodyOf Tryd.f31
    | 33 => bodyOf Tryd.f33
    | 34 => bodyOf Tryd.f34
    | 35 => bodyOf Tryd.f35
    | 36 => bodyOf Tryd.f36
    | 38 => bodyOf Tryd.f38
    | 39 => bodyOf Tryd.f39
    | 40 => bodyOf Tryd.f40
    | 41 => bodyOf Tryd.f41
    | 42 => bodyOf Tryd.f42
    | 43 => bodyOf Tryd.f43
    | 44 => bodyOf Tryd.f44
    | 45 => bodyOf Tryd.f45
    | 46 => bodyOf Tryd.f46
    | 47 => bodyOf Tryd.f47
    | 48 => bodyOf Tryd.f48
    | 49 => bodyOf Tryd.f49
    | 50 => bodyOf Tryd.f50
    | 51 => bodyOf Tryd.f51
    | 52 => bodyOf Tryd.f52
    | 53 => bodyOf Tryd.f53
    | 54 => bodyOf Tryd.f54
    | 56 => bodyOf Tryd.f56
    | 57 => bodyOf Tryd.f57
    | 58 => bodyOf Tryd.f58
    | 59 => bodyOf Tryd.f59
    | 60 => bodyOf Tryd.f60
    | 61 => bodyOf Tryd.f61
    | 62 => bodyOf Tryd.f62
    | 63 => bodyOf Tryd.f63
    | 64 => bodyOf Tryd.f64
    | 65 => bodyOf Tryd.f65
    | 66 => bodyOf Tryd.f66
    | 67 => bodyOf Tryd.f67
    | 68 => bodyOf Tryd.f68
    | 69 => bodyOf Tryd.f69
    | 70 => bodyOf Tryd.f70
    | 71 => bodyOf Tryd.f71
    | 72 => bodyOf Tryd.f72
    | 73 => bodyOf Tryd.f73
    | 74 => bodyOf Tryd.f74
    | 75 => bodyOf Tryd.f75
    | 76 => bodyOf Tryd.f76
    | 77 => bodyOf Tryd.f77
    | 80 => bodyOf Tryd.f80
    | 81 => bodyOf Tryd.f81
    | 82 => bodyOf Tryd.f82
    | 83 => bodyOf Tryd.f83
    | 84 => bodyOf Tryd.f84
    | 85 => bodyOf Tryd.f85
    | 86 => bodyOf Tryd.f86
    | 87 => bodyOf Tryd.f87
    | 88 => bodyOf Tryd.f88
    | 89 => bodyOf Tryd.f89
    | 91 => bodyOf Tryd.f91
    | 92 => bodyOf Tryd.f92
    | 93 => bodyOf Tryd.f93
    | 96 => bodyOf Tryd.f96
    | 98 => bodyOf Tryd.f98
    | 99 => bodyOf Tryd.f99
    | 100 => bodyOf Tryd.f100
    | 101 => bodyOf Tryd.f101
    | 104 => bodyOf Tryd.f104
    | _ => none

@[simp] theorem DCP : DC.P = Tryd.prog := rfl
@[simp] theorem call3 (d : Bool) (xs : List V) (H : Heap) : callW DC d (.fn 3 []) xs H = match sealL H xs with
    | some (ys, bs) => match bodyW DC 3 ys [] with
      | some (r, H') => some (ren (shift H.length) r, (if hasRo r || H'.any hasRoB then freeze H bs else H) ++ H'.map (renB (shift H.length)))
      | none => none
    | none => if d then none else bodyW DC 3 xs H := callW_body rfl rfl
@[simp] theorem call4 (d : Bool) (xs : List V) (H : Heap) : callW DC d (.fn 4 []) xs H = match sealL H xs with
    | some (ys, bs) => match bodyW DC 4 ys [] with
      | some (r, H') => some (ren (shift H.length) r, (if hasRo r || H'.any hasRoB then freeze H bs else H) ++ H'.map (renB (shift H.length)))
      | none => none
    | none => if d then none else bodyW DC 4 xs H := callW_body rfl rfl
@[simp] theorem call5 (d : Bool) (xs : List V) (H : Heap) : callW DC d (.fn 5 []) xs H = match sealL H xs with
    | some (ys, bs) => match bodyW DC 5 ys [] with
      | some (r, H') => some (ren (shift H.length) r, (if hasRo r || H'.any hasRoB then freeze H bs else H) ++ H'.map (renB (shift H.length)))
      | none => none
    | none => if d then none else bodyW DC 5 xs H := callW_body rfl rfl
@[simp] theorem call6 (d : Bool) (xs : List V) (H : Heap) : callW DC d (.fn 6 []) xs H = match sealL H xs with
    | some (ys, bs) => match bodyW DC 6 ys [] with
      | some (r, H') => some (ren (shift H.length) r, (if hasRo r || H'.any hasRoB then freeze H bs else H) ++ H'.map (renB (shift H.length)))
      | none => none
    | none => if d then none else bodyW DC 6 xs H := callW_body rfl rfl
@[simp] theorem call7 (d : Bool) (xs : List V) (H : Heap) : callW DC d (.fn 7 []) xs H = match sealL H xs with
    | some (ys, bs) => match bodyW DC 7 ys [] with
      | some (r, H') => some (ren (shift H.length) r, (if hasRo r || H'.any hasRoB then freeze H bs else H) ++ H'.map (renB (shift H.length)))
      | none => none
    | none => if d then none else bodyW DC 7 xs H := callW_body rfl rfl
@[simp] theorem call8 (d : Bool) (xs : List V) (H : Heap) : callW DC d (.fn 8 []) xs H = match sealL H xs with
    | some (ys, bs) => match bodyW DC 8 ys [] with
      | some (r, H') => some (ren (shift H.length) r, (if hasRo r || H'.any hasRoB then freeze H bs else H) ++ H'.map (renB (shift H.length)))
      | none => none
    | none => if d then none else bodyW DC 8 xs H := callW_body rfl rfl
@[simp] theorem call9 (d : Bool) (xs : List V) (H : Heap) : callW DC d (.fn 9 []) xs H = match sealL H xs with
    | some (ys, bs) => match bodyW DC 9 ys [] with
      | some (r, H') => some (ren (shift H.length) r, (if hasRo r || H'.any hasRoB then freeze H bs else H) ++ H'.map (renB (shift H.length)))
      | none => none
    | none => if d then none else bodyW DC 9 xs H := callW_body rfl rfl
@[simp] theorem call10 (d : Bool) (xs : List V) (H : Heap) : callW DC d (.fn 10 []) xs H = match sealL H xs with
    | some (ys, bs) => match bodyW DC 10 ys [] with
      | some (r, H') => some (ren (shift H.length) r, (if hasRo r || H'.any hasRoB then freeze H bs else H) ++ H'.map (renB (shift H.length)))
      | none => none
    | none => if d then none else bodyW DC 10 xs H := callW_body rfl rfl
@[simp] theorem call11 (d : Bool) (xs : List V) (H : Heap) : callW DC d (.fn 11 []) xs H = match sealL H xs with
    | some (ys, bs) => match bodyW DC 11 ys [] with
      | some (r, H') => some (ren (shift H.length) r, (if hasRo r || H'.any hasRoB then freeze H bs else H) ++ H'.map (renB (shift H.length)))
      | none => none
    | none => if d then none else bodyW DC 11 xs H := callW_body rfl rfl
@[simp] theorem call12 (d : Bool) (xs : List V) (H : Heap) : callW DC d (.fn 12 []) xs H = match sealL H xs with
    | some (ys, bs) => match bodyW DC 12 ys [] with
      | some (r, H') => some (ren (shift H.length) r, (if hasRo r || H'.any hasRoB then freeze H bs else H) ++ H'.map (renB (shift H.length)))
      | none => none
    | none => if d then none else bodyW DC 12 xs H := callW_body rfl rfl
@[simp] theorem call13 (d : Bool) (xs : List V) (H : Heap) : callW DC d (.fn 13 []) xs H = match sealL H xs with
    | some (ys, bs) => match bodyW DC 13 ys [] with
      | some (r, H') => some (ren (shift H.length) r, (if hasRo r || H'.any hasRoB then freeze H bs else H) ++ H'.map (renB (shift H.length)))
      | none => none
    | none => if d then none else bodyW DC 13 xs H := callW_body rfl rfl
@[simp] theorem call14 (d : Bool) (xs : List V) (H : Heap) : callW DC d (.fn 14 []) xs H = match sealL H xs with
    | some (ys, bs) => match bodyW DC 14 ys [] with
      | some (r, H') => some (ren (shift H.length) r, (if hasRo r || H'.any hasRoB then freeze H bs else H) ++ H'.map (renB (shift H.length)))
      | none => none
    | none => if d then none else bodyW DC 14 xs H := callW_body rfl rfl
@[simp] theorem call15 (d : Bool) (xs : List V) (H : Heap) : callW DC d (.fn 15 []) xs H = match sealL H xs with
    | some (ys, bs) => match bodyW DC 15 ys [] with
      | some (r, H') => some (ren (shift H.length) r, (if hasRo r || H'.any hasRoB then freeze H bs else H) ++ H'.map (renB (shift H.length)))
      | none => none
    | none => if d then none else bodyW DC 15 xs H := callW_body rfl rfl
@[simp] theorem call16 (d : Bool) (xs : List V) (H : Heap) : callW DC d (.fn 16 []) xs H = match sealL H xs with
    | some (ys, bs) => match bodyW DC 16 ys [] with
      | some (r, H') => some (ren (shift H.length) r, (if hasRo r || H'.any hasRoB then freeze H bs else H) ++ H'.map (renB (shift H.length)))
      | none => none
    | none => if d then none else bodyW DC 16 xs H := callW_body rfl rfl
@[simp] theorem call17 (d : Bool) (xs : List V) (H : Heap) : callW DC d (.fn 17 []) xs H = match sealL H xs with
    | some (ys, bs) => match bodyW DC 17 ys [] with
      | some (r, H') => some (ren (shift H.length) r, (if hasRo r || H'.any hasRoB then freeze H bs else H) ++ H'.map (renB (shift H.length)))
      | none => none
    | none => if d then none else bodyW DC 17 xs H := callW_body rfl rfl
@[simp] theorem call18 (d : Bool) (xs : List V) (H : Heap) : callW DC d (.fn 18 []) xs H = match sealL H xs with
    | some (ys, bs) => match bodyW DC 18 ys [] with
      | some (r, H') => some (ren (shift H.length) r, (if hasRo r || H'.any hasRoB then freeze H bs else H) ++ H'.map (renB (shift H.length)))
      | none => none
    | none => if d then none else bodyW DC 18 xs H := callW_body rfl rfl
@[simp] theorem call19 (d : Bool) (xs : List V) (H : Heap) : callW DC d (.fn 19 []) xs H = match sealL H xs with
    | some (ys, bs) => match bodyW DC 19 ys [] with
      | some (r, H') => some (ren (shift H.length) r, (if hasRo r || H'.any hasRoB then freeze H bs else H) ++ H'.map (renB (shift H.length)))
      | none => none
    | none => if d then none else bodyW DC 19 xs H := callW_body rfl rfl
@[simp] theorem call20 (d : Bool) (xs : List V) (H : Heap) : callW DC d (.fn 20 []) xs H = match sealL H xs with
    | some (ys, bs) => match bodyW DC 20 ys [] with
      | some (r, H') => some (ren (shift H.length) r, (if hasRo r || H'.any hasRoB then freeze H bs else H) ++ H'.map (renB (shift H.length)))
      | none => none
    | none => if d then none else bodyW DC 20 xs H := callW_body rfl rfl
@[simp] theorem call21 (d : Bool) (xs : List V) (H : Heap) : callW DC d (.fn 21 []) xs H = match sealL H xs with
    | some (ys, bs) => match bodyW DC 21 ys [] with
      | some (r, H') => some (ren (shift H.length) r, (if hasRo r || H'.any hasRoB then freeze H bs else H) ++ H'.map (renB (shift H.length)))
      | none => none
    | none => if d then none else bodyW DC 21 xs H := callW_body rfl rfl
@[simp] theorem call22 (d : Bool) (xs : List V) (H : Heap) : callW DC d (.fn 22 []) xs H = match sealL H xs with
    | some (ys, bs) => match bodyW DC 22 ys [] with
      | some (r, H') => some (ren (shift H.length) r, (if hasRo r || H'.any hasRoB then freeze H bs else H) ++ H'.map (renB (shift H.length)))
      | none => none
    | none => if d then none else bodyW DC 22 xs H := callW_body rfl rfl
@[simp] theorem call23 (d : Bool) (xs : List V) (H : Heap) : callW DC d (.fn 23 []) xs H = match sealL H xs with
    | some (ys, bs) => match bodyW DC 23 ys [] with
      | some (r, H') => some (ren (shift H.length) r, (if hasRo r || H'.any hasRoB then freeze H bs else H) ++ H'.map (renB (shift H.length)))
      | none => none
    | none => if d then none else bodyW DC 23 xs H := callW_body rfl rfl
@[simp] theorem call24 (d : Bool) (xs : List V) (H : Heap) : callW DC d (.fn 24 []) xs H = match sealL H xs with
    | some (ys, bs) => match bodyW DC 24 ys [] with
      | some (r, H') => some (ren (shift H.length) r, (if hasRo r || H'.any hasRoB then freeze H bs else H) ++ H'.map (renB (shift H.length)))
      | none => none
    | none => if d then none else bodyW DC 24 xs H := callW_body rfl rfl
@[simp] theorem call25 (d : Bool) (xs : List V) (H : Heap) : callW DC d (.fn 25 []) xs H = match sealL H xs with
    | some (ys, bs) => match bodyW DC 25 ys [] with
      | some (r, H') => some (ren (shift H.length) r, (if hasRo r || H'.any hasRoB then freeze H bs else H) ++ H'.map (renB (shift H.length)))
      | none => none
    | none => if d then none else bodyW DC 25 xs H := callW_body rfl rfl
@[simp] theorem call26 (d : Bool) (xs : List V) (H : Heap) : callW DC d (.fn 26 []) xs H = match sealL H xs with
    | some (ys, bs) => match bodyW DC 26 ys [] with
      | some (r, H') => some (ren (shift H.length) r, (if hasRo r || H'.any hasRoB then freeze H bs else H) ++ H'.map (renB (shift H.length)))
      | none => none
    | none => if d then none else bodyW DC 26 xs H := callW_body rfl rfl
@[simp] theorem call27 (d : Bool) (xs : List V) (H : Heap) : callW DC d (.fn 27 []) xs H = match sealL H xs with
    | some (ys, bs) => match bodyW DC 27 ys [] with
      | some (r, H') => some (ren (shift H.length) r, (if hasRo r || H'.any hasRoB then freeze H bs else H) ++ H'.map (renB (shift H.length)))
      | none => none
    | none => if d then none else bodyW DC 27 xs H := callW_body rfl rfl
@[simp] theorem call28 (d : Bool) (xs : List V) (H : Heap) : callW DC d (.fn 28 []) xs H = match sealL H xs with
    | some (ys, bs) => match bodyW DC 28 ys [] with
      | some (r, H') => some (ren (shift H.length) r, (if hasRo r || H'.any hasRoB then freeze H bs else H) ++ H'.map (renB (shift H.length)))
      | none => none
    | none => if d then none else bodyW DC 28 xs H := callW_body rfl rfl
@[simp] theorem call29 (d : Bool) (xs : List V) (H : Heap) : callW DC d (.fn 29 []) xs H = match sealL H xs with
    | some (ys, bs) => match bodyW DC 29 ys [] with
      | some (r, H') => some (ren (shift H.length) r, (if hasRo r || H'.any hasRoB then freeze H bs else H) ++ H'.map (renB (shift H.length)))
      | none => none
    | none => if d then none else bodyW DC 29 xs H := callW_body rfl rfl
@[simp] theorem call30 (d : Bool) (xs : List V) (H : Heap) : callW DC d (.fn 30 []) xs H = match sealL H xs with
    | some (ys, bs) => match bodyW DC 30 ys [] with
      | some (r, H') => some (ren (shift H.length) r, (if hasRo r || H'.any hasRoB then freeze H bs else H) ++ H'.map (renB (shift H.length)))
      | none => none
    | none => if d then none else bodyW DC 30 xs H := callW_body rfl rfl
@[simp] theorem call31 (d : Bool) (xs : List V) (H : Heap) : callW DC d (.fn 31 []) xs H = match sealL H xs with
    | some (ys, bs) => match bodyW DC 31 ys [] with
      | some (r, H') => some (ren (shift H.length) r, (if hasRo r || H'.any hasRoB then freeze H bs else H) ++ H'.map (renB (shift H.length)))
      | none => none
    | none => if d then none else bodyW DC 31 xs H := callW_body rfl rfl
@[simp] theorem call33 (d : Bool) (xs : List V) (H : Heap) : callW DC d (.fn 33 []) xs H = match sealL H xs with
    | some (ys, bs) => match bodyW DC 33 ys [] with
      | some (r, H') => some (ren (shift H.length) r, (if hasRo r || H'.any hasRoB then freeze H bs else H) ++ H'.map (renB (shift H.length)))
      | none => none
    | none => if d then none else bodyW DC 33 xs H := callW_body rfl rfl
@[simp] theorem call34 (d : Bool) (xs : List V) (H : Heap) : callW DC d (.fn 34 []) xs H = match sealL H xs with
    | some (ys, bs) => match bodyW DC 34 ys [] with
      | some (r, H') => some (ren (shift H.length) r, (if hasRo r || H'.any hasRoB then freeze H bs else H) ++ H'.map (renB (shift H.length)))
      | none => none
    | none => if d then none else bodyW DC 34 xs H := callW_body rfl rfl
@[simp] theorem call35 (d : Bool) (xs : List V) (H : Heap) : callW DC d (.fn 35 []) xs H = match sealL H xs with
    | some (ys, bs) => match bodyW DC 35 ys [] with
      | some (r, H') => some (ren (shift H.length) r, (if hasRo r || H'.any hasRoB then freeze H bs else H) ++ H'.map (renB (shift H.length)))
      | none => none
    | none => if d then none else bodyW DC 35 xs H := callW_body rfl rfl
@[simp] theorem call36 (d : Bool) (xs : List V) (H : Heap) : callW DC d (.fn 36 []) xs H = match sealL H xs with
    | some (ys, bs) => match bodyW DC 36 ys [] with
      | some (r, H') => some (ren (shift H.length) r, (if hasRo r || H'.any hasRoB then freeze H bs else H) ++ H'.map (renB (shift H.length)))
      | none => none
    | none => if d then none else bodyW DC 36 xs H := callW_body rfl rfl
@[simp] theorem call38 (d : Bool) (xs : List V) (H : Heap) : callW DC d (.fn 38 []) xs H = match sealL H xs with
    | some (ys, bs) => match bodyW DC 38 ys [] with
      | some (r, H') => some (ren (shift H.length) r, (if hasRo r || H'.any hasRoB then freeze H bs else H) ++ H'.map (renB (shift H.length)))
      | none => none
    | none => if d then none else bodyW DC 38 xs H := callW_body rfl rfl
@[simp] theorem call39 (d : Bool) (xs : List V) (H : Heap) : callW DC d (.fn 39 []) xs H = match sealL H xs with
    | some (ys, bs) => match bodyW DC 39 ys [] with
      | some (r, H') => some (ren (shift H.length) r, (if hasRo r || H'.any hasRoB then freeze H bs else H) ++ H'.map (renB (shift H.length)))
      | none => none
    | none => if d then none else bodyW DC 39 xs H := callW_body rfl rfl
@[simp] theorem call40 (d : Bool) (xs : List V) (H : Heap) : callW DC d (.fn 40 []) xs H = match sealL H xs with
    | some (ys, bs) => match bodyW DC 40 ys [] with
      | some (r, H') => some (ren (shift H.length) r, (if hasRo r || H'.any hasRoB then freeze H bs else H) ++ H'.map (renB (shift H.length)))
      | none => none
    | none => if d then none else bodyW DC 40 xs H := callW_body rfl rfl
@[simp] theorem call41 (d : Bool) (xs : List V) (H : Heap) : callW DC d (.fn 41 []) xs H = match sealL H xs with
    | some (ys, bs) => match bodyW DC 41 ys [] with
      | some (r, H') => some (ren (shift H.length) r, (if hasRo r || H'.any hasRoB then freeze H bs else H) ++ H'.map (renB (shift H.length)))
      | none => none
    | none => if d then none else bodyW DC 41 xs H := callW_body rfl rfl
@[simp] theorem call42 (d : Bool) (xs : List V) (H : Heap) : callW DC d (.fn 42 []) xs H = match sealL H xs with
    | some (ys, bs) => match bodyW DC 42 ys [] with
      | some (r, H') => some (ren (shift H.length) r, (if hasRo r || H'.any hasRoB then freeze H bs else H) ++ H'.map (renB (shift H.length)))
      | none => none
    | none => if d then none else bodyW DC 42 xs H := callW_body rfl rfl
@[simp] theorem call43 (d : Bool) (xs : List V) (H : Heap) : callW DC d (.fn 43 []) xs H = match sealL H xs with
    | some (ys, bs) => match bodyW DC 43 ys [] with
      | some (r, H') => some (ren (shift H.length) r, (if hasRo r || H'.any hasRoB then freeze H bs else H) ++ H'.map (renB (shift H.length)))
      | none => none
    | none => if d then none else bodyW DC 43 xs H := callW_body rfl rfl
@[simp] theorem call44 (d : Bool) (xs : List V) (H : Heap) : callW DC d (.fn 44 []) xs H = match sealL H xs with
    | some (ys, bs) => match bodyW DC 44 ys [] with
      | some (r, H') => some (ren (shift H.length) r, (if hasRo r || H'.any hasRoB then freeze H bs else H) ++ H'.map (renB (shift H.length)))
      | none => none
    | none => if d then none else bodyW DC 44 xs H := callW_body rfl rfl
@[simp] theorem call45 (d : Bool) (xs : List V) (H : Heap) : callW DC d (.fn 45 []) xs H = match sealL H xs with
    | some (ys, bs) => match bodyW DC 45 ys [] with
      | some (r, H') => some (ren (shift H.length) r, (if hasRo r || H'.any hasRoB then freeze H bs else H) ++ H'.map (renB (shift H.length)))
      | none => none
    | none => if d then none else bodyW DC 45 xs H := callW_body rfl rfl
@[simp] theorem call46 (d : Bool) (xs : List V) (H : Heap) : callW DC d (.fn 46 []) xs H = match sealL H xs with
    | some (ys, bs) => match bodyW DC 46 ys [] with
      | some (r, H') => some (ren (shift H.length) r, (if hasRo r || H'.any hasRoB then freeze H bs else H) ++ H'.map (renB (shift H.length)))
      | none => none
    | none => if d then none else bodyW DC 46 xs H := callW_body rfl rfl
@[simp] theorem call47 (d : Bool) (xs : List V) (H : Heap) : callW DC d (.fn 47 []) xs H = match sealL H xs with
    | some (ys, bs) => match bodyW DC 47 ys [] with
      | some (r, H') => some (ren (shift H.length) r, (if hasRo r || H'.any hasRoB then freeze H bs else H) ++ H'.map (renB (shift H.length)))
      | none => none
    | none => if d then none else bodyW DC 47 xs H := callW_body rfl rfl
@[simp] theorem call48 (d : Bool) (xs : List V) (H : Heap) : callW DC d (.fn 48 []) xs H = match sealL H xs with
    | some (ys, bs) => match bodyW DC 48 ys [] with
      | some (r, H') => some (ren (shift H.length) r, (if hasRo r || H'.any hasRoB then freeze H bs else H) ++ H'.map (renB (shift H.length)))
      | none => none
    | none => if d then none else bodyW DC 48 xs H := callW_body rfl rfl
@[simp] theorem call49 (d : Bool) (xs : List V) (H : Heap) : callW DC d (.fn 49 []) xs H = match sealL H xs with
    | some (ys, bs) => match bodyW DC 49 ys [] with
      | some (r, H') => some (ren (shift H.length) r, (if hasRo r || H'.any hasRoB then freeze H bs else H) ++ H'.map (renB (shift H.length)))
      | none => none
    | none => if d then none else bodyW DC 49 xs H := callW_body rfl rfl
@[simp] theorem call50 (d : Bool) (xs : List V) (H : Heap) : callW DC d (.fn 50 []) xs H = match sealL H xs with
    | some (ys, bs) => match bodyW DC 50 ys [] with
      | some (r, H') => some (ren (shift H.length) r, (if hasRo r || H'.any hasRoB then freeze H bs else H) ++ H'.map (renB (shift H.length)))
      | none => none
    | none => if d then none else bodyW DC 50 xs H := callW_body rfl rfl
@[simp] theorem call51 (d : Bool) (xs : List V) (H : Heap) : callW DC d (.fn 51 []) xs H = match sealL H xs with
    | some (ys, bs) => match bodyW DC 51 ys [] with
      | some (r, H') => some (ren (shift H.length) r, (if hasRo r || H'.any hasRoB then freeze H bs else H) ++ H'.map (renB (shift H.length)))
      | none => none
    | none => if d then none else bodyW DC 51 xs H := callW_body rfl rfl
@[simp] theorem call52 (d : Bool) (xs : List V) (H : Heap) : callW DC d (.fn 52 []) xs H = match sealL H xs with
    | some (ys, bs) => match bodyW DC 52 ys [] with
      | some (r, H') => some (ren (shift H.length) r, (if hasRo r || H'.any hasRoB then freeze H bs else H) ++ H'.map (renB (shift H.length)))
      | none => none
    | none => if d then none else bodyW DC 52 xs H := callW_body rfl rfl
@[simp] theorem call53 (d : Bool) (xs : List V) (H : Heap) : callW DC d (.fn 53 []) xs H = match sealL H xs with
    | some (ys, bs) => match bodyW DC 53 ys [] with
      | some (r, H') => some (ren (shift H.length) r, (if hasRo r || H'.any hasRoB then freeze H bs else H) ++ H'.map (renB (shift H.length)))
      | none => none
    | none => if d then none else bodyW DC 53 xs H := callW_body rfl rfl
@[simp] theorem call54 (d : Bool) (xs : List V) (H : Heap) : callW DC d (.fn 54 []) xs H = match sealL H xs with
    | some (ys, bs) => match bodyW DC 54 ys [] with
      | some (r, H') => some (ren (shift H.length) r, (if hasRo r || H'.any hasRoB then freeze H bs else H) ++ H'.map (renB (shift H.length)))
      | none => none
    | none => if d then none else bodyW DC 54 xs H := callW_body rfl rfl
@[simp] theorem call56 (d : Bool) (xs : List V) (H : Heap) : callW DC d (.fn 56 []) xs H = match sealL H xs with
    | some (ys, bs) => match bodyW DC 56 ys [] with
      | some (r, H') => some (ren (shift H.length) r, (if hasRo r || H'.any hasRoB then freeze H bs else H) ++ H'.map (renB (shift H.length)))
      | none => none
    | none => if d then none else bodyW DC 56 xs H := callW_body rfl rfl
@[simp] theorem call57 (d : Bool) (xs : List V) (H : Heap) : callW DC d (.fn 57 []) xs H = match sealL H xs with
    | some (ys, bs) => match bodyW DC 57 ys [] with
      | some (r, H') => some (ren (shift H.length) r, (if hasRo r || H'.any hasRoB then freeze H bs else H) ++ H'.map (renB (shift H.length)))
      | none => none
    | none => if d then none else bodyW DC 57 xs H := callW_body rfl rfl
@[simp] theorem call58 (d : Bool) (xs : List V) (H : Heap) : callW DC d (.fn 58 []) xs H = match sealL H xs with
    | some (ys, bs) => match bodyW DC 58 ys [] with
      | some (r, H') => some (ren (shift H.length) r, (if hasRo r || H'.any hasRoB then freeze H bs else H) ++ H'.map (renB (shift H.length)))
      | none => none
    | none => if d then none else bodyW DC 58 xs H := callW_body rfl rfl
@[simp] theorem call59 (d : Bool) (xs : List V) (H : Heap) : callW DC d (.fn 59 []) xs H = match sealL H xs with
    | some (ys, bs) => match bodyW DC 59 ys [] with
      | some (r, H') => some (ren (shift H.length) r, (if hasRo r || H'.any hasRoB then freeze H bs else H) ++ H'.map (renB (shift H.length)))
      | none => none
    | none => if d then none else bodyW DC 59 xs H := callW_body rfl rfl
@[simp] theorem call60 (d : Bool) (xs : List V) (H : Heap) : callW DC d (.fn 60 []) xs H = match sealL H xs with
    | some (ys, bs) => match bodyW DC 60 ys [] with
      | some (r, H') => some (ren (shift H.length) r, (if hasRo r || H'.any hasRoB then freeze H bs else H) ++ H'.map (renB (shift H.length)))
      | none => none
    | none => if d then none else bodyW DC 60 xs H := callW_body rfl rfl
@[simp] theorem call61 (d : Bool) (xs : List V) (H : Heap) : callW DC d (.fn 61 []) xs H = match sealL H xs with
    | some (ys, bs) => match bodyW DC 61 ys [] with
      | some (r, H') => some (ren (shift H.length) r, (if hasRo r || H'.any hasRoB then freeze H bs else H) ++ H'.map (renB (shift H.length)))
      | none => none
    | none => if d then none else bodyW DC 61 xs H := callW_body rfl rfl
@[simp] theorem call62 (d : Bool) (xs : List V) (H : Heap) : callW DC d (.fn 62 []) xs H = match sealL H xs with
    | some (ys, bs) => match bodyW DC 62 ys [] with
      | some (r, H') => some (ren (shift H.length) r, (if hasRo r || H'.any hasRoB then freeze H bs else H) ++ H'.map (renB (shift H.length)))
      | none => none
    | none => if d then none else bodyW DC 62 xs H := callW_body rfl rfl
@[simp] theorem call63 (d : Bool) (xs : List V) (H : Heap) : callW DC d (.fn 63 []) xs H = match sealL H xs with
    | some (ys, bs) => match bodyW DC 63 ys [] with
      | some (r, H') => some (ren (shift H.length) r, (if hasRo r || H'.any hasRoB then freeze H bs else H) ++ H'.map (renB (shift H.length)))
      | none => none
    | none => if d then none else bodyW DC 63 xs H := callW_body rfl rfl
@[simp] theorem call64 (d : Bool) (xs : List V) (H : Heap) : callW DC d (.fn 64 []) xs H = match sealL H xs with
    | some (ys, bs) => match bodyW DC 64 ys [] with
      | some (r, H') => some (ren (shift H.length) r, (if hasRo r || H'.any hasRoB then freeze H bs else H) ++ H'.map (renB (shift H.length)))
      | none => none
    | none => if d then none else bodyW DC 64 xs H := callW_body rfl rfl
@[simp] theorem call65 (d : Bool) (xs : List V) (H : Heap) : callW DC d (.fn 65 []) xs H = match sealL H xs with
    | some (ys, bs) => match bodyW DC 65 ys [] with
      | some (r, H') => some (ren (shift H.length) r, (if hasRo r || H'.any hasRoB then freeze H bs else H) ++ H'.map (renB (shift H.length)))
      | none => none
    | none => if d then none else bodyW DC 65 xs H := callW_body rfl rfl
@[simp] theorem call66 (d : Bool) (xs : List V) (H : Heap) : callW DC d (.fn 66 []) xs H = match sealL H xs with
    | some (ys, bs) => match bodyW DC 66 ys [] with
      | some (r, H') => some (ren (shift H.length) r, (if hasRo r || H'.any hasRoB then freeze H bs else H) ++ H'.map (renB (shift H.length)))
      | none => none
    | none => if d then none else bodyW DC 66 xs H := callW_body rfl rfl
@[simp] theorem call67 (d : Bool) (xs : List V) (H : Heap) : callW DC d (.fn 67 []) xs H = match sealL H xs with
    | some (ys, bs) => match bodyW DC 67 ys [] with
      | some (r, H') => some (ren (shift H.length) r, (if hasRo r || H'.any hasRoB then freeze H bs else H) ++ H'.map (renB (shift H.length)))
      | none => none
    | none => if d then none else bodyW DC 67 xs H := callW_body rfl rfl
@[simp] theorem call68 (d : Bool) (xs : List V) (H : Heap) : callW DC d (.fn 68 []) xs H = match sealL H xs with
    | some (ys, bs) => match bodyW DC 68 ys [] with
      | some (r, H') => some (ren (shift H.length) r, (if hasRo r || H'.any hasRoB then freeze H bs else H) ++ H'.map (renB (shift H.length)))
      | none => none
    | none => if d then none else bodyW DC 68 xs H := callW_body rfl rfl
@[simp] theorem call69 (d : Bool) (xs : List V) (H : Heap) : callW DC d (.fn 69 []) xs H = match sealL H xs with
    | some (ys, bs) => match bodyW DC 69 ys [] with
      | some (r, H') => some (ren (shift H.length) r, (if hasRo r || H'.any hasRoB then freeze H bs else H) ++ H'.map (renB (shift H.length)))
      | none => none
    | none => if d then none else bodyW DC 69 xs H := callW_body rfl rfl
@[simp] theorem call70 (d : Bool) (xs : List V) (H : Heap) : callW DC d (.fn 70 []) xs H = match sealL H xs with
    | some (ys, bs) => match bodyW DC 70 ys [] with
      | some (r, H') => some (ren (shift H.length) r, (if hasRo r || H'.any hasRoB then freeze H bs else H) ++ H'.map (renB (shift H.length)))
      | none => none
    | none => if d then none else bodyW DC 70 xs H := callW_body rfl rfl
@[simp] theorem call71 (d : Bool) (xs : List V) (H : Heap) : callW DC d (.fn 71 []) xs H = match sealL H xs with
    | some (ys, bs) => match bodyW DC 71 ys [] with
      | some (r, H') => some (ren (shift H.length) r, (if hasRo r || H'.any hasRoB then freeze H bs else H) ++ H'.map (renB (shift H.length)))
      | none => none
    | none => if d then none else bodyW DC 71 xs H := callW_body rfl rfl
@[simp] theorem call72 (d : Bool) (xs : List V) (H : Heap) : callW DC d (.fn 72 []) xs H = match sealL H xs with
    | some (ys, bs) => match bodyW DC 72 ys [] with
      | some (r, H') => some (ren (shift H.length) r, (if hasRo r || H'.any hasRoB then freeze H bs else H) ++ H'.map (renB (shift H.length)))
      | none => none
    | none => if d then none else bodyW DC 72 xs H := callW_body rfl rfl
@[simp] theorem call73 (d : Bool) (xs : List V) (H : Heap) : callW DC d (.fn 73 []) xs H = match sealL H xs with
    | some (ys, bs) => match bodyW DC 73 ys [] with
      | some (r, H') => some (ren (shift H.length) r, (if hasRo r || H'.any hasRoB then freeze H bs else H) ++ H'.map (renB (shift H.length)))
      | none => none
    | none => if d then none else bodyW DC 73 xs H := callW_body rfl rfl
@[simp] theorem call74 (d : Bool) (xs : List V) (H : Heap) : callW DC d (.fn 74 []) xs H = match sealL H xs with
    | some (ys, bs) => match bodyW DC 74 ys [] with
      | some (r, H') => some (ren (shift H.length) r, (if hasRo r || H'.any hasRoB then freeze H bs else H) ++ H'.map (renB (shift H.length)))
      | none => none
    | none => if d then none else bodyW DC 74 xs H := callW_body rfl rfl
@[simp] theorem call75 (d : Bool) (xs : List V) (H : Heap) : callW DC d (.fn 75 []) xs H = match sealL H xs with
    | some (ys, bs) => match bodyW DC 75 ys [] with
      | some (r, H') => some (ren (shift H.length) r, (if hasRo r || H'.any hasRoB then freeze H bs else H) ++ H'.map (renB (shift H.length)))
      | none => none
    | none => if d then none else bodyW DC 75 xs H := callW_body rfl rfl
@[simp] theorem call76 (d : Bool) (xs : List V) (H : Heap) : callW DC d (.fn 76 []) xs H = match sealL H xs with
    | some (ys, bs) => match bodyW DC 76 ys [] with
      | some (r, H') => some (ren (shift H.length) r, (if hasRo r || H'.any hasRoB then freeze H bs else H) ++ H'.map (renB (shift H.length)))
      | none => none
    | none => if d then none else bodyW DC 76 xs H := callW_body rfl rfl
@[simp] theorem call77 (d : Bool) (xs : List V) (H : Heap) : callW DC d (.fn 77 []) xs H = match sealL H xs with
    | some (ys, bs) => match bodyW DC 77 ys [] with
      | some (r, H') => some (ren (shift H.length) r, (if hasRo r || H'.any hasRoB then freeze H bs else H) ++ H'.map (renB (shift H.length)))
      | none => none
    | none => if d then none else bodyW DC 77 xs H := callW_body rfl rfl
@[simp] theorem call80 (d : Bool) (xs : List V) (H : Heap) : callW DC d (.fn 80 []) xs H = match sealL H xs with
    | some (ys, bs) => match bodyW DC 80 ys [] with
      | some (r, H') => some (ren (shift H.length) r, (if hasRo r || H'.any hasRoB then freeze H bs else H) ++ H'.map (renB (shift H.length)))
      | none => none
    | none => if d then none else bodyW DC 80 xs H := callW_body rfl rfl
@[simp] theorem call81 (d : Bool) (xs : List V) (H : Heap) : callW DC d (.fn 81 []) xs H = match sealL H xs with
    | some (ys, bs) => match bodyW DC 81 ys [] with
      | some (r, H') => some (ren (shift H.length) r, (if hasRo r || H'.any hasRoB then freeze H bs else H) ++ H'.map (renB (shift H.length)))
      | none => none
    | none => if d then none else bodyW DC 81 xs H := callW_body rfl rfl
@[simp] theorem call82 (d : Bool) (xs : List V) (H : Heap) : callW DC d (.fn 82 []) xs H = match sealL H xs with
    | some (ys, bs) => match bodyW DC 82 ys [] with
      | some (r, H') => some (ren (shift H.length) r, (if hasRo r || H'.any hasRoB then freeze H bs else H) ++ H'.map (renB (shift H.length)))
      | none => none
    | none => if d then none else bodyW DC 82 xs H := callW_body rfl rfl
@[simp] theorem call83 (d : Bool) (xs : List V) (H : Heap) : callW DC d (.fn 83 []) xs H = match sealL H xs with
    | some (ys, bs) => match bodyW DC 83 ys [] with
      | some (r, H') => some (ren (shift H.length) r, (if hasRo r || H'.any hasRoB then freeze H bs else H) ++ H'.map (renB (shift H.length)))
      | none => none
    | none => if d then none else bodyW DC 83 xs H := callW_body rfl rfl
@[simp] theorem call84 (d : Bool) (xs : List V) (H : Heap) : callW DC d (.fn 84 []) xs H = match sealL H xs with
    | some (ys, bs) => match bodyW DC 84 ys [] with
      | some (r, H') => some (ren (shift H.length) r, (if hasRo r || H'.any hasRoB then freeze H bs else H) ++ H'.map (renB (shift H.length)))
      | none => none
    | none => if d then none else bodyW DC 84 xs H := callW_body rfl rfl
@[simp] theorem call85 (d : Bool) (xs : List V) (H : Heap) : callW DC d (.fn 85 []) xs H = match sealL H xs with
    | some (ys, bs) => match bodyW DC 85 ys [] with
      | some (r, H') => some (ren (shift H.length) r, (if hasRo r || H'.any hasRoB then freeze H bs else H) ++ H'.map (renB (shift H.length)))
      | none => none
    | none => if d then none else bodyW DC 85 xs H := callW_body rfl rfl
@[simp] theorem call86 (d : Bool) (xs : List V) (H : Heap) : callW DC d (.fn 86 []) xs H = match sealL H xs with
    | some (ys, bs) => match bodyW DC 86 ys [] with
      | some (r, H') => some (ren (shift H.length) r, (if hasRo r || H'.any hasRoB then freeze H bs else H) ++ H'.map (renB (shift H.length)))
      | none => none
    | none => if d then none else bodyW DC 86 xs H := callW_body rfl rfl
@[simp] theorem call87 (d : Bool) (xs : List V) (H : Heap) : callW DC d (.fn 87 []) xs H = match sealL H xs with
    | some (ys, bs) => match bodyW DC 87 ys [] with
      | some (r, H') => some (ren (shift H.length) r, (if hasRo r || H'.any hasRoB then freeze H bs else H) ++ H'.map (renB (shift H.length)))
      | none => none
    | none => if d then none else bodyW DC 87 xs H := callW_body rfl rfl
@[simp] theorem call88 (d : Bool) (xs : List V) (H : Heap) : callW DC d (.fn 88 []) xs H = match sealL H xs with
    | some (ys, bs) => match bodyW DC 88 ys [] with
      | some (r, H') => some (ren (shift H.length) r, (if hasRo r || H'.any hasRoB then freeze H bs else H) ++ H'.map (renB (shift H.length)))
      | none => none
    | none => if d then none else bodyW DC 88 xs H := callW_body rfl rfl
@[simp] theorem call89 (d : Bool) (xs : List V) (H : Heap) : callW DC d (.fn 89 []) xs H = match sealL H xs with
    | some (ys, bs) => match bodyW DC 89 ys [] with
      | some (r, H') => some (ren (shift H.length) r, (if hasRo r || H'.any hasRoB then freeze H bs else H) ++ H'.map (renB (shift H.length)))
      | none => none
    | none => if d then none else bodyW DC 89 xs H := callW_body rfl rfl
@[simp] theorem call91 (d : Bool) (xs : List V) (H : Heap) : callW DC d (.fn 91 []) xs H = match sealL H xs with
    | some (ys, bs) => match bodyW DC 91 ys [] with
      | some (r, H') => some (ren (shift H.length) r, (if hasRo r || H'.any hasRoB then freeze H bs else H) ++ H'.map (renB (shift H.length)))
      | none => none
    | none => if d then none else bodyW DC 91 xs H := callW_body rfl rfl
@[simp] theorem call92 (d : Bool) (xs : List V) (H : Heap) : callW DC d (.fn 92 []) xs H = match sealL H xs with
    | some (ys, bs) => match bodyW DC 92 ys [] with
      | some (r, H') => some (ren (shift H.length) r, (if hasRo r || H'.any hasRoB then freeze H bs else H) ++ H'.map (renB (shift H.length)))
      | none => none
    | none => if d then none else bodyW DC 92 xs H := callW_body rfl rfl
@[simp] theorem call93 (d : Bool) (xs : List V) (H : Heap) : callW DC d (.fn 93 []) xs H = match sealL H xs with
    | some (ys, bs) => match bodyW DC 93 ys [] with
      | some (r, H') => some (ren (shift H.length) r, (if hasRo r || H'.any hasRoB then freeze H bs else H) ++ H'.map (renB (shift H.length)))
      | none => none
    | none => if d then none else bodyW DC 93 xs H := callW_body rfl rfl
@[simp] theorem call96 (d : Bool) (xs : List V) (H : Heap) : callW DC d (.fn 96 []) xs H = match sealL H xs with
    | some (ys, bs) => match bodyW DC 96 ys [] with
      | some (r, H') => some (ren (shift H.length) r, (if hasRo r || H'.any hasRoB then freeze H bs else H) ++ H'.map (renB (shift H.length)))
      | none => none
    | none => if d then none else bodyW DC 96 xs H := callW_body rfl rfl
@[simp] theorem call98 (d : Bool) (xs : List V) (H : Heap) : callW DC d (.fn 98 []) xs H = match sealL H xs with
    | some (ys, bs) => match bodyW DC 98 ys [] with
      | some (r, H') => some (ren (shift H.length) r, (if hasRo r || H'.any hasRoB then freeze H bs else H) ++ H'.map (renB (shift H.length)))
      | none => none
    | none => if d then none else bodyW DC 98 xs H := callW_body rfl rfl
@[simp] theorem call99 (d : Bool) (xs : List V) (H : Heap) : callW DC d (.fn 99 []) xs H = match sealL H xs with
    | some (ys, bs) => match bodyW DC 99 ys [] with
      | some (r, H') => some (ren (shift H.length) r, (if hasRo r || H'.any hasRoB then freeze H bs else H) ++ H'.map (renB (shift H.length)))
      | none => none
    | none => if d then none else bodyW DC 99 xs H := callW_body rfl rfl
@[simp] theorem call100 (d : Bool) (xs : List V) (H : Heap) : callW DC d (.fn 100 []) xs H = match sealL H xs with
    | some (ys, bs) => match bodyW DC 100 ys [] with
      | some (r, H') => some (ren (shift H.length) r, (if hasRo r || H'.any hasRoB then freeze H bs else H) ++ H'.map (renB (shift H.length)))
      | none => none
    | none => if d then none else bodyW DC 100 xs H := callW_body rfl rfl
@[simp] theorem call101 (d : Bool) (xs : List V) (H : Heap) : callW DC d (.fn 101 []) xs H = match sealL H xs with
    | some (ys, bs) => match bodyW DC 101 ys [] with
      | some (r, H') => some (ren (shift H.length) r, (if hasRo r || H'.any hasRoB then freeze H bs else H) ++ H'.map (renB (shift H.length)))
      | none => none
    | none => if d then none else bodyW DC 101 xs H := callW_body rfl rfl
@[simp] theorem call104 (d : Bool) (xs : List V) (H : Heap) : callW DC d (.fn 104 []) xs H = match sealL H xs with
    | some (ys, bs) => match bodyW DC 104 ys [] with
      | some (r, H') => some (ren (shift H.length) r, (if hasRo r || H'.any hasRoB then freeze H bs else H) ++ H'.map (renB (shift H.length)))
      | none => none
    | none => if d then none else bodyW DC 104 xs H := callW_body rfl rfl
@[simp] theorem call37 (d : Bool) (xs : List V) (H : Heap) : callW DC d (.fn 37 []) xs H = match sealL H xs with
    | some (ys, bs) => match repeatX ys with
      | some (r, H') => some (ren (shift H.length) r, (if hasRo r || H'.any hasRoB then freeze H bs else H) ++ H'.map (renB (shift H.length)))
      | none => none
    | none => if d then none else bodyW DC 37 xs H := callW_ext rfl rfl
@[simp] theorem call55 (d : Bool) (xs : List V) (H : Heap) : callW DC d (.fn 55 []) xs H = match sealL H xs with
    | some (ys, bs) => match mulX ys with
      | some (r, H') => some (ren (shift H.length) r, (if hasRo r || H'.any hasRoB then freeze H bs else H) ++ H'.map (renB (shift H.length)))
      | none => none
    | none => if d then none else bodyW DC 55 xs H := callW_ext rfl rfl
@[simp] theorem call78 (d : Bool) (xs : List V) (H : Heap) : callW DC d (.fn 78 []) xs H = match sealL H xs with
    | some (ys, bs) => match cloneX 1 16 ys with
      | some (r, H') => some (ren (shift H.length) r, (if hasRo r || H'.any hasRoB then freeze H bs else H) ++ H'.map (renB (shift H.length)))
      | none => none
    | none => if d then none else bodyW DC 78 xs H := callW_ext rfl rfl
@[simp] theorem call79 (d : Bool) (xs : List V) (H : Heap) : callW DC d (.fn 79 []) xs H = match sealL H xs with
    | some (ys, bs) => match cloneX 1 8 ys with
      | some (r, H') => some (ren (shift H.length) r, (if hasRo r || H'.any hasRoB then freeze H bs else H) ++ H'.map (renB (shift H.length)))
      | none => none
    | none => if d then none else bodyW DC 79 xs H := callW_ext rfl rfl
@[simp] theorem call32 (xs : List V) (H : Heap) : callW DC false (.fn 32 []) xs H = sortX xs H := callW_extE rfl
theorem DC_body (f : FuncId) (b : Body) (h : DC.body f = some b) : ∃ fn, DC.P.funcs[f]? = some fn ∧ fn.name ≠ "runtime.NumGoroutine" ∧ fn.body = some b.code ∧ fn.results.toList = b.results ∧ fn.ntmps = b.ntmps ∧ codeOk DC.P b.ntmps b.code = true := by
  unfold DC at h ⊢
  simp only at h ⊢
  split at h
  · exact good_body Tryd.func3 (by decide) (by kernel_rfl) h
  · exact good_body Tryd.func4 (by decide) (by kernel_rfl) h
  · exact good_body Tryd.func5 (by decide) (by kernel_rfl) h
  · exact good_body Tryd.func6 (by decide) (by kernel_rfl) h
  · exact good_body Tryd.func7 (by decide) (by kernel_rfl) h
  · exact good_body Tryd.func8 (by decide) (by kernel_rfl) h
  · exact good_body Tryd.func9 (by decide) (by kernel_rfl) h
  · exact good_body Tryd.func10 (by decide) (by kernel_rfl) h
  · exact good_body Tryd.func11 (by decide) (by kernel_rfl) h
  · exact good_body Tryd.func12 (by decide) (by kernel_rfl) h
  · exact good_body Tryd.func13 (by decide) (by kernel_rfl) h
  · exact good_body Tryd.func14 (by decide) (by kernel_rfl) h
  · exact good_body Tryd.func15 (by decide) (by kernel_rfl) h
  · exact good_body Tryd.func16 (by decide) (by kernel_rfl) h
  · exact good_body Tryd.func17 (by decide) (by kernel_rfl) h
  · exact good_body Tryd.func18 (by decide) (by kernel_rfl) h
  · exact good_body Tryd.func19 (by decide) (by kernel_rfl) h
  · exact good_body Tryd.func20 (by decide) (by kernel_rfl) h
  · exact good_body Tryd.func21 (by decide) (by kernel_rfl) h
  · exact good_body Tryd.func22 (by decide) (by kernel_rfl) h
  · exact good_body Tryd.func23 (by decide) (by kernel_rfl) h
  · exact good_body Tryd.func24 (by decide) (by kernel_rfl) h
  · exact good_body Tryd.func25 (by decide) (by kernel_rfl) h
  · exact good_body Tryd.func26 (by decide) (by kernel_rfl) h
  · exact good_body Tryd.func27 (by decide) (by kernel_rfl) h
  · exact good_body Tryd.func28 (by decide) (by kernel_rfl) h
  · exact good_body Tryd.func29 (by decide) (by kernel_rfl) h
  · exact good_body Tryd.func30 (by decide) (by kernel_rfl) h
  · exact good_body Tryd.func31 (by decide) (by kernel_rfl) h
  · exact good_body Tryd.func33 (by decide) (by kernel_rfl) h
  · exact good_body Tryd.func34 (by decide) (by kernel_rfl) h
  · exact good_body Tryd.func35 (by decide) (by kernel_rfl) h
  · exact good_body Tryd.func36 (by decide) (by kernel_rfl) h
  · exact good_body Tryd.func38 (by decide) (by kernel_rfl) h
  · exact good_body Tryd.func39 (by decide) (by kernel_rfl) h
  · exact good_body Tryd.func40 (by decide) (by kernel_rfl) h
  · exact good_body Tryd.func41 (by decide) (by kernel_rfl) h
  · exact good_body Tryd.func42 (by decide) (by kernel_rfl) h
  · exact good_body Tryd.func43 (by decide) (by kernel_rfl) h
  · exact good_body Tryd.func44 (by decide) (by kernel_rfl) h
  · exact good_body Tryd.func45 (by decide) (by kernel_rfl) h
  · exact good_body Tryd.func46 (by decide) (by kernel_rfl) h
  · exact good_body Tryd.func47 (by decide) (by kernel_rfl) h
  · exact good_body Tryd.func48 (by decide) (by kernel_rfl) h
  · exact good_body Tryd.func49 (by decide) (by kernel_rfl) h
  · exact good_body Tryd.func50 (by decide) (by kernel_rfl) h
  · exact good_body Tryd.func51 (by decide) (by kernel_rfl) h
  · exact good_body Tryd.func52 (by decide) (by kernel_rfl) h
  · exact good_body Tryd.func53 (by decide) (by kernel_rfl) h
  · exact good_body Tryd.func54 (by decide) (by kernel_rfl) h
  · exact good_body Tryd.func56 (by decide) (by kernel_rfl) h
  · exact good_body Tryd.func57 (by decide) (by kernel_rfl) h
  · exact good_body Tryd.func58 (by decide) (by kernel_rfl) h
  · exact good_body Tryd.func59 (by decide) (by kernel_rfl) h
  · exact good_body Tryd.func60 (by decide) (by kernel_rfl) h
  · exact good_body Tryd.func61 (by decide) (by kernel_rfl) h
  · exact good_body Tryd.func62 (by decide) (by kernel_rfl) h
  · exact good_body Tryd.func63 (by decide) (by kernel_rfl) h
  · exact good_body Tryd.func64 (by decide) (by kernel_rfl) h
  · exact good_body Tryd.func65 (by decide) (by kernel_rfl) h
  · exact good_body Tryd.func66 (by decide) (by kernel_rfl) h
  · exact good_body Tryd.func67 (by decide) (by kernel_rfl) h
  · exact good_body Tryd.func68 (by decide) (by kernel_rfl) h
  · exact good_body Tryd.func69 (by decide) (by kernel_rfl) h
  · exact good_body Tryd.func70 (by decide) (by kernel_rfl) h
  · exact good_body Tryd.func71 (by decide) (by kernel_rfl) h
  · exact good_body Tryd.func72 (by decide) (by kernel_rfl) h
  · exact good_body Tryd.func73 (by decide) (by kernel_rfl) h
  · exact good_body Tryd.func74 (by decide) (by kernel_rfl) h
  · exact good_body Tryd.func75 (by decide) (by kernel_rfl) h
  · exact good_body Tryd.func76 (by decide) (by kernel_rfl) h
  · exact good_body Tryd.func77 (by decide) (by kernel_rfl) h
  · exact good_body Tryd.func80 (by decide) (by kernel_rfl) h
  · exact good_body Tryd.func81 (by decide) (by kernel_rfl) h
  · exact good_body Tryd.func82 (by decide) (by kernel_rfl) h
  · exact good_body Tryd.func83 (by decide) (by kernel_rfl) h
  · exact good_body Tryd.func84 (by decide) (by kernel_rfl) h
  · exact good_body Tryd.func85 (by decide) (by kernel_rfl) h
  · exact good_body Tryd.func86 (by decide) (by kernel_rfl) h
  · exact good_body Tryd.func87 (by decide) (by kernel_rfl) h
  · exact good_body Tryd.func88 (by decide) (by kernel_rfl) h
  · exact good_body Tryd.func89 (by decide) (by kernel_rfl) h
  · exact good_body Tryd.func91 (by decide) (by kernel_rfl) h
  · exact good_body Tryd.func92 (by decide) (by kernel_rfl) h
  · exact good_body Tryd.func93 (by decide) (by kernel_rfl) h
  · exact good_body Tryd.func96 (by decide) (by kernel_rfl) h
  · exact good_body Tryd.func98 (by decide) (by kernel_rfl) h
  · exact good_body Tryd.func99 (by decide) (by kernel_rfl) h
  · exact good_body Tryd.func100 (by decide) (by kernel_rfl) h
  · exact good_body Tryd.func101 (by decide) (by kernel_rfl) h
  · exact good_body Tryd.func104 (by decide) (by kernel_rfl) h
  · cases h
theorem DC_fn32 : FnOk DC.P 32 := ⟨_, Tryd.func32, by decide, by simp [Tryd.f32]⟩
theorem DC_fn37 : FnOk DC.P 37 := ⟨_, Tryd.func37, by decide, by simp [Tryd.f37]⟩
theorem DC_fn55 : FnOk DC.P 55 := ⟨_, Tryd.func55, by decide, by simp [Tryd.f55]⟩
theorem DC_fn78 : FnOk DC.P 78 := ⟨_, Tryd.func78, by decide, by simp [Tryd.f78]⟩
theorem DC_fn79 : FnOk DC.P 79 := ⟨_, Tryd.func79, by decide, by simp [Tryd.f79]⟩
end Go.Abs
