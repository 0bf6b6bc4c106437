/- Proved here: the context in which this seat is evaluated. No condition but those that each theorem states. -/
import Derived.Test.YtefdoccoajhefaaDoorA7
import Derived.Test.YtefdoccoajhefaaDoorRows
namespace Go.Abs
open Go.Proofs
set_option maxRecDepth 100000
set_option linter.unusedVariables false
set_option linter.unusedSimpArgs false

noncomputable def DC : Ctx where
  P := Tryd.prog
  ext f := match f with
    | 9 => some (splitX)
    | 30 => some (repeatX)
    | 41 => some (cloneX 2 24)
    | 46 => some (mulX)
    | 57 => some (compareX)
    | 78 => some (indexByteX)
    | _ => none
  extE f := match f with
    | 31 => some (strX 49 5)
    | 40 => some (insAtX 24)
    | 45 => some (copyX 49)
    | _ => none
  keep f k := match f, k with
    | 3, 8 => some [4, 7, 9]
    | 7, 13 => some [0, 7, 17]
    | 10, 8 => some [0, 5, 6, 7]
    | 11, 4 => some [21, 22, 23]
    | 12, 4 => some [0, 3]
    | 13, 4 => some [0, 3]
    | 14, 7 => some [4, 15, 16, 17]
    | 15, 7 => some [0, 4, 5]
    | 15, 11 => some [0, 4, 5, 6]
    | 16, 5 => some [0, 4, 5]
    | 17, 5 => some [0, 4, 5]
    | 17, 11 => some [0, 4, 5, 6, 7, 8]
    | 18, 4 => some [0, 1, 5]
    | 19, 2 => some [1, 8, 9, 10]
    | 23, 10 => some [0, 1, 2, 8]
    | 27, 3 => some [0, 3, 6, 7, 8]
    | 29, 3 => some [0, 5, 12, 13]
    | 32, 2 => some [0, 3]
    | 33, 5 => some [0, 1, 5, 6]
    | 34, 7 => some [0, 1, 2, 9, 10]
    | 36, 7 => some [0, 1, 2, 9, 10]
    | 37, 2 => some [0, 1, 5]
    | 43, 0 => some [0, 1]
    | 51, 1 => some [0, 1]
    | 52, 2 => some [0, 2, 4]
    | 53, 1 => some [0, 1]
    | 54, 1 => some [0, 1]
    | 55, 3 => some [0, 1, 2, 8, 9, 10]
    | 67, 10 => some [0, 4, 5, 6]
    | 71, 15 => some [0, 1, 5, 6, 7, 8, 9, 10]
    | 77, 1 => some [0, 2, 3]
    | 81, 5 => some [0, 1, 5, 6, 7, 8, 9]
    | 81, 11 => some [0, 1, 5, 6, 7, 8, 10]
    | 86, 3 => some [0, 4, 5]
    | 86, 8 => some [4, 6, 7, 8]
    | _, _ => none
  body f := match f with
    | 3 => bodyOf Tryd.f3
    | 4 => bodyOf Tryd.f4
    | 5 => bodyOf Tryd.f5
    | 6 => bodyOf Tryd.f6
    | 7 => bodyOf Tryd.f7
    | 8 => bodyOf Tryd.f8
    | 10 => bodyOf Tryd.f10
    | 11 => bodyOf Tryd.f11
    | 12 => bodyOf Tryd.f12
    | 13 => bodyOf Tryd.f13
    | 14 => bodyOf Tryd.f14
    | 15 => bodyOf Tryd.f15
    | 16 => bodyOf Tryd.f16
    | 17 => bodyOf Tryd.f17
    | 18 => bodyOf Tryd.f18
    | 19 => bodyOf Tryd.f19
    | 20 => bodyOf Tryd.f20
    | 21 => bodyOf Tryd.f21
    | 22 => bodyOf Tryd.f22
    | 23 => bodyOf Tryd.f23
    | 24 => bodyOf Tryd.f24
    | 25 => bodyOf Tryd.f25
    | 26 => bodyOf Tryd.f26
    | 27 => bodyOf Tryd.f27
    | 28 => bodyOf Tryd.f28
    | 29 => bodyOf Tryd.f29
    | 32 => bodyOf Tryd.f32
    | 33 => bodyOf Tryd.f33
    | 34 => bodyOf Tryd.f34
    | 35 => bodyOf Tryd.f35
    | 36 => bodyOf Tryd.f36
    | 37 => bodyOf Tryd.f37
    | 38 => bodyOf Tryd.f38
    | 39 => bodyOf Tryd.f39
    | 42 => bodyOf Tryd.f42
    | 43 => bodyOf Tryd.f43
    | 44 => bodyOf Tryd.f44
    | 47 => bodyOf Tryd.f47
    | 48 => bodyOf Tryd.f48
    | 49 => bodyOf Tryd.f49
    | 50 => bodyOf Tryd.f50
    | 51 => bodyOf Tryd.f51
    | 52 => bodyOf Tryd.f52
    | 53 => bodyOf Tryd.f53
    | 54 => bodyOf Tryd.f54
    | 55 => bodyOf Tryd.f55
    | 56 => bodyOf Tryd.f56
    | 59 => bodyOf Tryd.f59
    | 60 => bodyOf Tryd.f60
    | 62 => bodyOf Tryd.f62
    | 63 => bodyOf Tryd.f63
    | 64 => bodyOf Tryd.f64
    | 65 => bodyOf Tryd.f65
    | 66 => bodyOf Tryd.f66
    | 67 => bodyOf Tryd.f67
    | 68 => bodyOf Tryd.f68
    | 69 => bodyOf Tryd.f69
    | 70 => bodyOf Tryd.f70
    | 71 => bodyOf Tryd.f71
    | 73 => bodyOf Tryd.f73
    | 74 => bodyOf Tryd.f74
    | 77 => bodyOf Tryd.f77
    | 80 => bodyOf Tryd.f80
    | 81 => bodyOf Tryd.f81
    | 82 => bodyOf Tryd.f82
    | 83 => bodyOf Tryd.f83
    | 84 => bodyOf Tryd.f84
    | 86 => bodyOf Tryd.f86
    | _ => none
  direct f := ([42] : List Nat).contains f
  loud f := ([28, 48] : List Nat).contains f

@[simp] theorem DC_loud (f : FuncId) : DC.loud f = ([28, 48] : List Nat).contains f := rfl
@[simp] theorem DCP : DC.P = Tryd.prog := rfl
@[simp] theorem call42 (xs : List V) (H : Heap) : callW DC false (.fn 42 []) xs H = bodyW DC 42 xs H := callW_direct rfl rfl
@[simp] theorem call3 (d : Bool) (xs : List V) (H : Heap) : callW DC d (.fn 3 []) xs H = match sealL H xs with
    | some (ys, bs) => match bodyW DC 3 ys [] with
      | some (r, H') => some (ren (shift H.length) r, (if hasRo r || H'.any hasRoB then freeze H bs else H) ++ H'.map (renB (shift H.length)))
      | none => none
    | none => if d then none else bodyW DC 3 xs H := callW_body rfl rfl rfl
@[simp] theorem call4 (d : Bool) (xs : List V) (H : Heap) : callW DC d (.fn 4 []) xs H = match sealL H xs with
    | some (ys, bs) => match bodyW DC 4 ys [] with
      | some (r, H') => some (ren (shift H.length) r, (if hasRo r || H'.any hasRoB then freeze H bs else H) ++ H'.map (renB (shift H.length)))
      | none => none
    | none => if d then none else bodyW DC 4 xs H := callW_body rfl rfl rfl
@[simp] theorem call5 (d : Bool) (xs : List V) (H : Heap) : callW DC d (.fn 5 []) xs H = match sealL H xs with
    | some (ys, bs) => match bodyW DC 5 ys [] with
      | some (r, H') => some (ren (shift H.length) r, (if hasRo r || H'.any hasRoB then freeze H bs else H) ++ H'.map (renB (shift H.length)))
      | none => none
    | none => if d then none else bodyW DC 5 xs H := callW_body rfl rfl rfl
@[simp] theorem call6 (d : Bool) (xs : List V) (H : Heap) : callW DC d (.fn 6 []) xs H = match sealL H xs with
    | some (ys, bs) => match bodyW DC 6 ys [] with
      | some (r, H') => some (ren (shift H.length) r, (if hasRo r || H'.any hasRoB then freeze H bs else H) ++ H'.map (renB (shift H.length)))
      | none => none
    | none => if d then none else bodyW DC 6 xs H := callW_body rfl rfl rfl
@[simp] theorem call7 (d : Bool) (xs : List V) (H : Heap) : callW DC d (.fn 7 []) xs H = match sealL H xs with
    | some (ys, bs) => match bodyW DC 7 ys [] with
      | some (r, H') => some (ren (shift H.length) r, (if hasRo r || H'.any hasRoB then freeze H bs else H) ++ H'.map (renB (shift H.length)))
      | none => none
    | none => if d then none else bodyW DC 7 xs H := callW_body rfl rfl rfl
@[simp] theorem call8 (d : Bool) (xs : List V) (H : Heap) : callW DC d (.fn 8 []) xs H = match sealL H xs with
    | some (ys, bs) => match bodyW DC 8 ys [] with
      | some (r, H') => some (ren (shift H.length) r, (if hasRo r || H'.any hasRoB then freeze H bs else H) ++ H'.map (renB (shift H.length)))
      | none => none
    | none => if d then none else bodyW DC 8 xs H := callW_body rfl rfl rfl
@[simp] theorem call10 (d : Bool) (xs : List V) (H : Heap) : callW DC d (.fn 10 []) xs H = match sealL H xs with
    | some (ys, bs) => match bodyW DC 10 ys [] with
      | some (r, H') => some (ren (shift H.length) r, (if hasRo r || H'.any hasRoB then freeze H bs else H) ++ H'.map (renB (shift H.length)))
      | none => none
    | none => if d then none else bodyW DC 10 xs H := callW_body rfl rfl rfl
@[simp] theorem call11 (d : Bool) (xs : List V) (H : Heap) : callW DC d (.fn 11 []) xs H = match sealL H xs with
    | some (ys, bs) => match bodyW DC 11 ys [] with
      | some (r, H') => some (ren (shift H.length) r, (if hasRo r || H'.any hasRoB then freeze H bs else H) ++ H'.map (renB (shift H.length)))
      | none => none
    | none => if d then none else bodyW DC 11 xs H := callW_body rfl rfl rfl
@[simp] theorem call12 (d : Bool) (xs : List V) (H : Heap) : callW DC d (.fn 12 []) xs H = match sealL H xs with
    | some (ys, bs) => match bodyW DC 12 ys [] with
      | some (r, H') => some (ren (shift H.length) r, (if hasRo r || H'.any hasRoB then freeze H bs else H) ++ H'.map (renB (shift H.length)))
      | none => none
    | none => if d then none else bodyW DC 12 xs H := callW_body rfl rfl rfl
@[simp] theorem call13 (d : Bool) (xs : List V) (H : Heap) : callW DC d (.fn 13 []) xs H = match sealL H xs with
    | some (ys, bs) => match bodyW DC 13 ys [] with
      | some (r, H') => some (ren (shift H.length) r, (if hasRo r || H'.any hasRoB then freeze H bs else H) ++ H'.map (renB (shift H.length)))
      | none => none
    | none => if d then none else bodyW DC 13 xs H := callW_body rfl rfl rfl
@[simp] theorem call14 (d : Bool) (xs : List V) (H : Heap) : callW DC d (.fn 14 []) xs H = match sealL H xs with
    | some (ys, bs) => match bodyW DC 14 ys [] with
      | some (r, H') => some (ren (shift H.length) r, (if hasRo r || H'.any hasRoB then freeze H bs else H) ++ H'.map (renB (shift H.length)))
      | none => none
    | none => if d then none else bodyW DC 14 xs H := callW_body rfl rfl rfl
@[simp] theorem call15 (d : Bool) (xs : List V) (H : Heap) : callW DC d (.fn 15 []) xs H = match sealL H xs with
    | some (ys, bs) => match bodyW DC 15 ys [] with
      | some (r, H') => some (ren (shift H.length) r, (if hasRo r || H'.any hasRoB then freeze H bs else H) ++ H'.map (renB (shift H.length)))
      | none => none
    | none => if d then none else bodyW DC 15 xs H := callW_body rfl rfl rfl
@[simp] theorem call16 (d : Bool) (xs : List V) (H : Heap) : callW DC d (.fn 16 []) xs H = match sealL H xs with
    | some (ys, bs) => match bodyW DC 16 ys [] with
      | some (r, H') => some (ren (shift H.length) r, (if hasRo r || H'.any hasRoB then freeze H bs else H) ++ H'.map (renB (shift H.length)))
      | none => none
    | none => if d then none else bodyW DC 16 xs H := callW_body rfl rfl rfl
@[simp] theorem call17 (d : Bool) (xs : List V) (H : Heap) : callW DC d (.fn 17 []) xs H = match sealL H xs with
    | some (ys, bs) => match bodyW DC 17 ys [] with
      | some (r, H') => some (ren (shift H.length) r, (if hasRo r || H'.any hasRoB then freeze H bs else H) ++ H'.map (renB (shift H.length)))
      | none => none
    | none => if d then none else bodyW DC 17 xs H := callW_body rfl rfl rfl
@[simp] theorem call18 (d : Bool) (xs : List V) (H : Heap) : callW DC d (.fn 18 []) xs H = match sealL H xs with
    | some (ys, bs) => match bodyW DC 18 ys [] with
      | some (r, H') => some (ren (shift H.length) r, (if hasRo r || H'.any hasRoB then freeze H bs else H) ++ H'.map (renB (shift H.length)))
      | none => none
    | none => if d then none else bodyW DC 18 xs H := callW_body rfl rfl rfl
@[simp] theorem call19 (d : Bool) (xs : List V) (H : Heap) : callW DC d (.fn 19 []) xs H = match sealL H xs with
    | some (ys, bs) => match bodyW DC 19 ys [] with
      | some (r, H') => some (ren (shift H.length) r, (if hasRo r || H'.any hasRoB then freeze H bs else H) ++ H'.map (renB (shift H.length)))
      | none => none
    | none => if d then none else bodyW DC 19 xs H := callW_body rfl rfl rfl
@[simp] theorem call20 (d : Bool) (xs : List V) (H : Heap) : callW DC d (.fn 20 []) xs H = match sealL H xs with
    | some (ys, bs) => match bodyW DC 20 ys [] with
      | some (r, H') => some (ren (shift H.length) r, (if hasRo r || H'.any hasRoB then freeze H bs else H) ++ H'.map (renB (shift H.length)))
      | none => none
    | none => if d then none else bodyW DC 20 xs H := callW_body rfl rfl rfl
@[simp] theorem call21 (d : Bool) (xs : List V) (H : Heap) : callW DC d (.fn 21 []) xs H = match sealL H xs with
    | some (ys, bs) => match bodyW DC 21 ys [] with
      | some (r, H') => some (ren (shift H.length) r, (if hasRo r || H'.any hasRoB then freeze H bs else H) ++ H'.map (renB (shift H.length)))
      | none => none
    | none => if d then none else bodyW DC 21 xs H := callW_body rfl rfl rfl
@[simp] theorem call22 (d : Bool) (xs : List V) (H : Heap) : callW DC d (.fn 22 []) xs H = match sealL H xs with
    | some (ys, bs) => match bodyW DC 22 ys [] with
      | some (r, H') => some (ren (shift H.length) r, (if hasRo r || H'.any hasRoB then freeze H bs else H) ++ H'.map (renB (shift H.length)))
      | none => none
    | none => if d then none else bodyW DC 22 xs H := callW_body rfl rfl rfl
@[simp] theorem call23 (d : Bool) (xs : List V) (H : Heap) : callW DC d (.fn 23 []) xs H = match sealL H xs with
    | some (ys, bs) => match bodyW DC 23 ys [] with
      | some (r, H') => some (ren (shift H.length) r, (if hasRo r || H'.any hasRoB then freeze H bs else H) ++ H'.map (renB (shift H.length)))
      | none => none
    | none => if d then none else bodyW DC 23 xs H := callW_body rfl rfl rfl
@[simp] theorem call24 (d : Bool) (xs : List V) (H : Heap) : callW DC d (.fn 24 []) xs H = match sealL H xs with
    | some (ys, bs) => match bodyW DC 24 ys [] with
      | some (r, H') => some (ren (shift H.length) r, (if hasRo r || H'.any hasRoB then freeze H bs else H) ++ H'.map (renB (shift H.length)))
      | none => none
    | none => if d then none else bodyW DC 24 xs H := callW_body rfl rfl rfl
@[simp] theorem call25 (d : Bool) (xs : List V) (H : Heap) : callW DC d (.fn 25 []) xs H = match sealL H xs with
    | some (ys, bs) => match bodyW DC 25 ys [] with
      | some (r, H') => some (ren (shift H.length) r, (if hasRo r || H'.any hasRoB then freeze H bs else H) ++ H'.map (renB (shift H.length)))
      | none => none
    | none => if d then none else bodyW DC 25 xs H := callW_body rfl rfl rfl
@[simp] theorem call26 (d : Bool) (xs : List V) (H : Heap) : callW DC d (.fn 26 []) xs H = match sealL H xs with
    | some (ys, bs) => match bodyW DC 26 ys [] with
      | some (r, H') => some (ren (shift H.length) r, (if hasRo r || H'.any hasRoB then freeze H bs else H) ++ H'.map (renB (shift H.length)))
      | none => none
    | none => if d then none else bodyW DC 26 xs H := callW_body rfl rfl rfl
@[simp] theorem call27 (d : Bool) (xs : List V) (H : Heap) : callW DC d (.fn 27 []) xs H = match sealL H xs with
    | some (ys, bs) => match bodyW DC 27 ys [] with
      | some (r, H') => some (ren (shift H.length) r, (if hasRo r || H'.any hasRoB then freeze H bs else H) ++ H'.map (renB (shift H.length)))
      | none => none
    | none => if d then none else bodyW DC 27 xs H := callW_body rfl rfl rfl
@[simp] theorem call28 (d : Bool) (xs : List V) (H : Heap) : callW DC d (.fn 28 []) xs H = match sealL H xs with
    | some (ys, bs) => match bodyW DC 28 ys [] with
      | some (r, H') => some (ren (shift H.length) r, (if hasRo r || H'.any hasRoB then freeze H bs else H) ++ H'.map (renB (shift H.length)))
      | none => none
    | none => if d then none else bodyW DC 28 xs H := callW_body rfl rfl rfl
@[simp] theorem call29 (d : Bool) (xs : List V) (H : Heap) : callW DC d (.fn 29 []) xs H = match sealL H xs with
    | some (ys, bs) => match bodyW DC 29 ys [] with
      | some (r, H') => some (ren (shift H.length) r, (if hasRo r || H'.any hasRoB then freeze H bs else H) ++ H'.map (renB (shift H.length)))
      | none => none
    | none => if d then none else bodyW DC 29 xs H := callW_body rfl rfl rfl
@[simp] theorem call32 (d : Bool) (xs : List V) (H : Heap) : callW DC d (.fn 32 []) xs H = match sealL H xs with
    | some (ys, bs) => match bodyW DC 32 ys [] with
      | some (r, H') => some (ren (shift H.length) r, (if hasRo r || H'.any hasRoB then freeze H bs else H) ++ H'.map (renB (shift H.length)))
      | none => none
    | none => if d then none else bodyW DC 32 xs H := callW_body rfl rfl rfl
@[simp] theorem call33 (d : Bool) (xs : List V) (H : Heap) : callW DC d (.fn 33 []) xs H = match sealL H xs with
    | some (ys, bs) => match bodyW DC 33 ys [] with
      | some (r, H') => some (ren (shift H.length) r, (if hasRo r || H'.any hasRoB then freeze H bs else H) ++ H'.map (renB (shift H.length)))
      | none => none
    | none => if d then none else bodyW DC 33 xs H := callW_body rfl rfl rfl
@[simp] theorem call34 (d : Bool) (xs : List V) (H : Heap) : callW DC d (.fn 34 []) xs H = match sealL H xs with
    | some (ys, bs) => match bodyW DC 34 ys [] with
      | some (r, H') => some (ren (shift H.length) r, (if hasRo r || H'.any hasRoB then freeze H bs else H) ++ H'.map (renB (shift H.length)))
      | none => none
    | none => if d then none else bodyW DC 34 xs H := callW_body rfl rfl rfl
@[simp] theorem call35 (d : Bool) (xs : List V) (H : Heap) : callW DC d (.fn 35 []) xs H = match sealL H xs with
    | some (ys, bs) => match bodyW DC 35 ys [] with
      | some (r, H') => some (ren (shift H.length) r, (if hasRo r || H'.any hasRoB then freeze H bs else H) ++ H'.map (renB (shift H.length)))
      | none => none
    | none => if d then none else bodyW DC 35 xs H := callW_body rfl rfl rfl
@[simp] theorem call36 (d : Bool) (xs : List V) (H : Heap) : callW DC d (.fn 36 []) xs H = match sealL H xs with
    | some (ys, bs) => match bodyW DC 36 ys [] with
      | some (r, H') => some (ren (shift H.length) r, (if hasRo r || H'.any hasRoB then freeze H bs else H) ++ H'.map (renB (shift H.length)))
      | none => none
    | none => if d then none else bodyW DC 36 xs H := callW_body rfl rfl rfl
@[simp] theorem call37 (d : Bool) (xs : List V) (H : Heap) : callW DC d (.fn 37 []) xs H = match sealL H xs with
    | some (ys, bs) => match bodyW DC 37 ys [] with
      | some (r, H') => some (ren (shift H.length) r, (if hasRo r || H'.any hasRoB then freeze H bs else H) ++ H'.map (renB (shift H.length)))
      | none => none
    | none => if d then none else bodyW DC 37 xs H := callW_body rfl rfl rfl
@[simp] theorem call38 (d : Bool) (xs : List V) (H : Heap) : callW DC d (.fn 38 []) xs H = match sealL H xs with
    | some (ys, bs) => match bodyW DC 38 ys [] with
      | some (r, H') => some (ren (shift H.length) r, (if hasRo r || H'.any hasRoB then freeze H bs else H) ++ H'.map (renB (shift H.length)))
      | none => none
    | none => if d then none else bodyW DC 38 xs H := callW_body rfl rfl rfl
@[simp] theorem call39 (d : Bool) (xs : List V) (H : Heap) : callW DC d (.fn 39 []) xs H = match sealL H xs with
    | some (ys, bs) => match bodyW DC 39 ys [] with
      | some (r, H') => some (ren (shift H.length) r, (if hasRo r || H'.any hasRoB then freeze H bs else H) ++ H'.map (renB (shift H.length)))
      | none => none
    | none => if d then none else bodyW DC 39 xs H := callW_body rfl rfl rfl
@[simp] theorem call43 (d : Bool) (xs : List V) (H : Heap) : callW DC d (.fn 43 []) xs H = match sealL H xs with
    | some (ys, bs) => match bodyW DC 43 ys [] with
      | some (r, H') => some (ren (shift H.length) r, (if hasRo r || H'.any hasRoB then freeze H bs else H) ++ H'.map (renB (shift H.length)))
      | none => none
    | none => if d then none else bodyW DC 43 xs H := callW_body rfl rfl rfl
@[simp] theorem call44 (d : Bool) (xs : List V) (H : Heap) : callW DC d (.fn 44 []) xs H = match sealL H xs with
    | some (ys, bs) => match bodyW DC 44 ys [] with
      | some (r, H') => some (ren (shift H.length) r, (if hasRo r || H'.any hasRoB then freeze H bs else H) ++ H'.map (renB (shift H.length)))
      | none => none
    | none => if d then none else bodyW DC 44 xs H := callW_body rfl rfl rfl
@[simp] theorem call47 (d : Bool) (xs : List V) (H : Heap) : callW DC d (.fn 47 []) xs H = match sealL H xs with
    | some (ys, bs) => match bodyW DC 47 ys [] with
      | some (r, H') => some (ren (shift H.length) r, (if hasRo r || H'.any hasRoB then freeze H bs else H) ++ H'.map (renB (shift H.length)))
      | none => none
    | none => if d then none else bodyW DC 47 xs H := callW_body rfl rfl rfl
@[simp] theorem call48 (d : Bool) (xs : List V) (H : Heap) : callW DC d (.fn 48 []) xs H = match sealL H xs with
    | some (ys, bs) => match bodyW DC 48 ys [] with
      | some (r, H') => some (ren (shift H.length) r, (if hasRo r || H'.any hasRoB then freeze H bs else H) ++ H'.map (renB (shift H.length)))
      | none => none
    | none => if d then none else bodyW DC 48 xs H := callW_body rfl rfl rfl
@[simp] theorem call49 (d : Bool) (xs : List V) (H : Heap) : callW DC d (.fn 49 []) xs H = match sealL H xs with
    | some (ys, bs) => match bodyW DC 49 ys [] with
      | some (r, H') => some (ren (shift H.length) r, (if hasRo r || H'.any hasRoB then freeze H bs else H) ++ H'.map (renB (shift H.length)))
      | none => none
    | none => if d then none else bodyW DC 49 xs H := callW_body rfl rfl rfl
@[simp] theorem call50 (d : Bool) (xs : List V) (H : Heap) : callW DC d (.fn 50 []) xs H = match sealL H xs with
    | some (ys, bs) => match bodyW DC 50 ys [] with
      | some (r, H') => some (ren (shift H.length) r, (if hasRo r || H'.any hasRoB then freeze H bs else H) ++ H'.map (renB (shift H.length)))
      | none => none
    | none => if d then none else bodyW DC 50 xs H := callW_body rfl rfl rfl
@[simp] theorem call51 (d : Bool) (xs : List V) (H : Heap) : callW DC d (.fn 51 []) xs H = match sealL H xs with
    | some (ys, bs) => match bodyW DC 51 ys [] with
      | some (r, H') => some (ren (shift H.length) r, (if hasRo r || H'.any hasRoB then freeze H bs else H) ++ H'.map (renB (shift H.length)))
      | none => none
    | none => if d then none else bodyW DC 51 xs H := callW_body rfl rfl rfl
@[simp] theorem call52 (d : Bool) (xs : List V) (H : Heap) : callW DC d (.fn 52 []) xs H = match sealL H xs with
    | some (ys, bs) => match bodyW DC 52 ys [] with
      | some (r, H') => some (ren (shift H.length) r, (if hasRo r || H'.any hasRoB then freeze H bs else H) ++ H'.map (renB (shift H.length)))
      | none => none
    | none => if d then none else bodyW DC 52 xs H := callW_body rfl rfl rfl
@[simp] theorem call53 (d : Bool) (xs : List V) (H : Heap) : callW DC d (.fn 53 []) xs H = match sealL H xs with
    | some (ys, bs) => match bodyW DC 53 ys [] with
      | some (r, H') => some (ren (shift H.length) r, (if hasRo r || H'.any hasRoB then freeze H bs else H) ++ H'.map (renB (shift H.length)))
      | none => none
    | none => if d then none else bodyW DC 53 xs H := callW_body rfl rfl rfl
@[simp] theorem call54 (d : Bool) (xs : List V) (H : Heap) : callW DC d (.fn 54 []) xs H = match sealL H xs with
    | some (ys, bs) => match bodyW DC 54 ys [] with
      | some (r, H') => some (ren (shift H.length) r, (if hasRo r || H'.any hasRoB then freeze H bs else H) ++ H'.map (renB (shift H.length)))
      | none => none
    | none => if d then none else bodyW DC 54 xs H := callW_body rfl rfl rfl
@[simp] theorem call55 (d : Bool) (xs : List V) (H : Heap) : callW DC d (.fn 55 []) xs H = match sealL H xs with
    | some (ys, bs) => match bodyW DC 55 ys [] with
      | some (r, H') => some (ren (shift H.length) r, (if hasRo r || H'.any hasRoB then freeze H bs else H) ++ H'.map (renB (shift H.length)))
      | none => none
    | none => if d then none else bodyW DC 55 xs H := callW_body rfl rfl rfl
@[simp] theorem call56 (d : Bool) (xs : List V) (H : Heap) : callW DC d (.fn 56 []) xs H = match sealL H xs with
    | some (ys, bs) => match bodyW DC 56 ys [] with
      | some (r, H') => some (ren (shift H.length) r, (if hasRo r || H'.any hasRoB then freeze H bs else H) ++ H'.map (renB (shift H.length)))
      | none => none
    | none => if d then none else bodyW DC 56 xs H := callW_body rfl rfl rfl
@[simp] theorem call59 (d : Bool) (xs : List V) (H : Heap) : callW DC d (.fn 59 []) xs H = match sealL H xs with
    | some (ys, bs) => match bodyW DC 59 ys [] with
      | some (r, H') => some (ren (shift H.length) r, (if hasRo r || H'.any hasRoB then freeze H bs else H) ++ H'.map (renB (shift H.length)))
      | none => none
    | none => if d then none else bodyW DC 59 xs H := callW_body rfl rfl rfl
@[simp] theorem call60 (d : Bool) (xs : List V) (H : Heap) : callW DC d (.fn 60 []) xs H = match sealL H xs with
    | some (ys, bs) => match bodyW DC 60 ys [] with
      | some (r, H') => some (ren (shift H.length) r, (if hasRo r || H'.any hasRoB then freeze H bs else H) ++ H'.map (renB (shift H.length)))
      | none => none
    | none => if d then none else bodyW DC 60 xs H := callW_body rfl rfl rfl
@[simp] theorem call62 (d : Bool) (xs : List V) (H : Heap) : callW DC d (.fn 62 []) xs H = match sealL H xs with
    | some (ys, bs) => match bodyW DC 62 ys [] with
      | some (r, H') => some (ren (shift H.length) r, (if hasRo r || H'.any hasRoB then freeze H bs else H) ++ H'.map (renB (shift H.length)))
      | none => none
    | none => if d then none else bodyW DC 62 xs H := callW_body rfl rfl rfl
@[simp] theorem call63 (d : Bool) (xs : List V) (H : Heap) : callW DC d (.fn 63 []) xs H = match sealL H xs with
    | some (ys, bs) => match bodyW DC 63 ys [] with
      | some (r, H') => some (ren (shift H.length) r, (if hasRo r || H'.any hasRoB then freeze H bs else H) ++ H'.map (renB (shift H.length)))
      | none => none
    | none => if d then none else bodyW DC 63 xs H := callW_body rfl rfl rfl
@[simp] theorem call64 (d : Bool) (xs : List V) (H : Heap) : callW DC d (.fn 64 []) xs H = match sealL H xs with
    | some (ys, bs) => match bodyW DC 64 ys [] with
      | some (r, H') => some (ren (shift H.length) r, (if hasRo r || H'.any hasRoB then freeze H bs else H) ++ H'.map (renB (shift H.length)))
      | none => none
    | none => if d then none else bodyW DC 64 xs H := callW_body rfl rfl rfl
@[simp] theorem call65 (d : Bool) (xs : List V) (H : Heap) : callW DC d (.fn 65 []) xs H = match sealL H xs with
    | some (ys, bs) => match bodyW DC 65 ys [] with
      | some (r, H') => some (ren (shift H.length) r, (if hasRo r || H'.any hasRoB then freeze H bs else H) ++ H'.map (renB (shift H.length)))
      | none => none
    | none => if d then none else bodyW DC 65 xs H := callW_body rfl rfl rfl
@[simp] theorem call66 (d : Bool) (xs : List V) (H : Heap) : callW DC d (.fn 66 []) xs H = match sealL H xs with
    | some (ys, bs) => match bodyW DC 66 ys [] with
      | some (r, H') => some (ren (shift H.length) r, (if hasRo r || H'.any hasRoB then freeze H bs else H) ++ H'.map (renB (shift H.length)))
      | none => none
    | none => if d then none else bodyW DC 66 xs H := callW_body rfl rfl rfl
@[simp] theorem call67 (d : Bool) (xs : List V) (H : Heap) : callW DC d (.fn 67 []) xs H = match sealL H xs with
    | some (ys, bs) => match bodyW DC 67 ys [] with
      | some (r, H') => some (ren (shift H.length) r, (if hasRo r || H'.any hasRoB then freeze H bs else H) ++ H'.map (renB (shift H.length)))
      | none => none
    | none => if d then none else bodyW DC 67 xs H := callW_body rfl rfl rfl
@[simp] theorem call68 (d : Bool) (xs : List V) (H : Heap) : callW DC d (.fn 68 []) xs H = match sealL H xs with
    | some (ys, bs) => match bodyW DC 68 ys [] with
      | some (r, H') => some (ren (shift H.length) r, (if hasRo r || H'.any hasRoB then freeze H bs else H) ++ H'.map (renB (shift H.length)))
      | none => none
    | none => if d then none else bodyW DC 68 xs H := callW_body rfl rfl rfl
@[simp] theorem call69 (d : Bool) (xs : List V) (H : Heap) : callW DC d (.fn 69 []) xs H = match sealL H xs with
    | some (ys, bs) => match bodyW DC 69 ys [] with
      | some (r, H') => some (ren (shift H.length) r, (if hasRo r || H'.any hasRoB then freeze H bs else H) ++ H'.map (renB (shift H.length)))
      | none => none
    | none => if d then none else bodyW DC 69 xs H := callW_body rfl rfl rfl
@[simp] theorem call70 (d : Bool) (xs : List V) (H : Heap) : callW DC d (.fn 70 []) xs H = match sealL H xs with
    | some (ys, bs) => match bodyW DC 70 ys [] with
      | some (r, H') => some (ren (shift H.length) r, (if hasRo r || H'.any hasRoB then freeze H bs else H) ++ H'.map (renB (shift H.length)))
      | none => none
    | none => if d then none else bodyW DC 70 xs H := callW_body rfl rfl rfl
@[simp] theorem call71 (d : Bool) (xs : List V) (H : Heap) : callW DC d (.fn 71 []) xs H = match sealL H xs with
    | some (ys, bs) => match bodyW DC 71 ys [] with
      | some (r, H') => some (ren (shift H.length) r, (if hasRo r || H'.any hasRoB then freeze H bs else H) ++ H'.map (renB (shift H.length)))
      | none => none
    | none => if d then none else bodyW DC 71 xs H := callW_body rfl rfl rfl
@[simp] theorem call73 (d : Bool) (xs : List V) (H : Heap) : callW DC d (.fn 73 []) xs H = match sealL H xs with
    | some (ys, bs) => match bodyW DC 73 ys [] with
      | some (r, H') => some (ren (shift H.length) r, (if hasRo r || H'.any hasRoB then freeze H bs else H) ++ H'.map (renB (shift H.length)))
      | none => none
    | none => if d then none else bodyW DC 73 xs H := callW_body rfl rfl rfl
@[simp] theorem call74 (d : Bool) (xs : List V) (H : Heap) : callW DC d (.fn 74 []) xs H = match sealL H xs with
    | some (ys, bs) => match bodyW DC 74 ys [] with
      | some (r, H') => some (ren (shift H.length) r, (if hasRo r || H'.any hasRoB then freeze H bs else H) ++ H'.map (renB (shift H.length)))
      | none => none
    | none => if d then none else bodyW DC 74 xs H := callW_body rfl rfl rfl
@[simp] theorem call77 (d : Bool) (xs : List V) (H : Heap) : callW DC d (.fn 77 []) xs H = match sealL H xs with
    | some (ys, bs) => match bodyW DC 77 ys [] with
      | some (r, H') => some (ren (shift H.length) r, (if hasRo r || H'.any hasRoB then freeze H bs else H) ++ H'.map (renB (shift H.length)))
      | none => none
    | none => if d then none else bodyW DC 77 xs H := callW_body rfl rfl rfl
@[simp] theorem call80 (d : Bool) (xs : List V) (H : Heap) : callW DC d (.fn 80 []) xs H = match sealL H xs with
    | some (ys, bs) => match bodyW DC 80 ys [] with
      | some (r, H') => some (ren (shift H.length) r, (if hasRo r || H'.any hasRoB then freeze H bs else H) ++ H'.map (renB (shift H.length)))
      | none => none
    | none => if d then none else bodyW DC 80 xs H := callW_body rfl rfl rfl
@[simp] theorem call81 (d : Bool) (xs : List V) (H : Heap) : callW DC d (.fn 81 []) xs H = match sealL H xs with
    | some (ys, bs) => match bodyW DC 81 ys [] with
      | some (r, H') => some (ren (shift H.length) r, (if hasRo r || H'.any hasRoB then freeze H bs else H) ++ H'.map (renB (shift H.length)))
      | none => none
    | none => if d then none else bodyW DC 81 xs H := callW_body rfl rfl rfl
@[simp] theorem call82 (d : Bool) (xs : List V) (H : Heap) : callW DC d (.fn 82 []) xs H = match sealL H xs with
    | some (ys, bs) => match bodyW DC 82 ys [] with
      | some (r, H') => some (ren (shift H.length) r, (if hasRo r || H'.any hasRoB then freeze H bs else H) ++ H'.map (renB (shift H.length)))
      | none => none
    | none => if d then none else bodyW DC 82 xs H := callW_body rfl rfl rfl
@[simp] theorem call83 (d : Bool) (xs : List V) (H : Heap) : callW DC d (.fn 83 []) xs H = match sealL H xs with
    | some (ys, bs) => match bodyW DC 83 ys [] with
      | some (r, H') => some (ren (shift H.length) r, (if hasRo r || H'.any hasRoB then freeze H bs else H) ++ H'.map (renB (shift H.length)))
      | none => none
    | none => if d then none else bodyW DC 83 xs H := callW_body rfl rfl rfl
@[simp] theorem call84 (d : Bool) (xs : List V) (H : Heap) : callW DC d (.fn 84 []) xs H = match sealL H xs with
    | some (ys, bs) => match bodyW DC 84 ys [] with
      | some (r, H') => some (ren (shift H.length) r, (if hasRo r || H'.any hasRoB then freeze H bs else H) ++ H'.map (renB (shift H.length)))
      | none => none
    | none => if d then none else bodyW DC 84 xs H := callW_body rfl rfl rfl
@[simp] theorem call86 (d : Bool) (xs : List V) (H : Heap) : callW DC d (.fn 86 []) xs H = match sealL H xs with
    | some (ys, bs) => match bodyW DC 86 ys [] with
      | some (r, H') => some (ren (shift H.length) r, (if hasRo r || H'.any hasRoB then freeze H bs else H) ++ H'.map (renB (shift H.length)))
      | none => none
    | none => if d then none else bodyW DC 86 xs H := callW_body rfl rfl rfl
@[simp] theorem call9 (d : Bool) (xs : List V) (H : Heap) : callW DC d (.fn 9 []) xs H = match sealL H xs with
    | some (ys, bs) => match splitX ys with
      | some (r, H') => some (ren (shift H.length) r, (if hasRo r || H'.any hasRoB then freeze H bs else H) ++ H'.map (renB (shift H.length)))
      | none => none
    | none => if d then none else bodyW DC 9 xs H := callW_ext rfl rfl rfl
@[simp] theorem call30 (d : Bool) (xs : List V) (H : Heap) : callW DC d (.fn 30 []) xs H = match sealL H xs with
    | some (ys, bs) => match repeatX ys with
      | some (r, H') => some (ren (shift H.length) r, (if hasRo r || H'.any hasRoB then freeze H bs else H) ++ H'.map (renB (shift H.length)))
      | none => none
    | none => if d then none else bodyW DC 30 xs H := callW_ext rfl rfl rfl
@[simp] theorem call41 (d : Bool) (xs : List V) (H : Heap) : callW DC d (.fn 41 []) xs H = match sealL H xs with
    | some (ys, bs) => match cloneX 2 24 ys with
      | some (r, H') => some (ren (shift H.length) r, (if hasRo r || H'.any hasRoB then freeze H bs else H) ++ H'.map (renB (shift H.length)))
      | none => none
    | none => if d then none else bodyW DC 41 xs H := callW_ext rfl rfl rfl
@[simp] theorem call46 (d : Bool) (xs : List V) (H : Heap) : callW DC d (.fn 46 []) xs H = match sealL H xs with
    | some (ys, bs) => match mulX ys with
      | some (r, H') => some (ren (shift H.length) r, (if hasRo r || H'.any hasRoB then freeze H bs else H) ++ H'.map (renB (shift H.length)))
      | none => none
    | none => if d then none else bodyW DC 46 xs H := callW_ext rfl rfl rfl
@[simp] theorem call57 (d : Bool) (xs : List V) (H : Heap) : callW DC d (.fn 57 []) xs H = match sealL H xs with
    | some (ys, bs) => match compareX ys with
      | some (r, H') => some (ren (shift H.length) r, (if hasRo r || H'.any hasRoB then freeze H bs else H) ++ H'.map (renB (shift H.length)))
      | none => none
    | none => if d then none else bodyW DC 57 xs H := callW_ext rfl rfl rfl
@[simp] theorem call78 (d : Bool) (xs : List V) (H : Heap) : callW DC d (.fn 78 []) xs H = match sealL H xs with
    | some (ys, bs) => match indexByteX ys with
      | some (r, H') => some (ren (shift H.length) r, (if hasRo r || H'.any hasRoB then freeze H bs else H) ++ H'.map (renB (shift H.length)))
      | none => none
    | none => if d then none else bodyW DC 78 xs H := callW_ext rfl rfl rfl
@[simp] theorem call31 (xs : List V) (H : Heap) : callW DC false (.fn 31 []) xs H = strX 49 5 xs H := callW_extE rfl
@[simp] theorem call40 (xs : List V) (H : Heap) : callW DC false (.fn 40 []) xs H = insAtX 24 xs H := callW_extE rfl
@[simp] theorem call45 (xs : List V) (H : Heap) : callW DC false (.fn 45 []) xs H = copyX 49 xs H := callW_extE rfl
theorem DC_body (f : FuncId) (b : Body) (h : DC.body f = some b) : ∃ fn, DC.P.funcs[f]? = some fn ∧ fn.name ≠ "runtime.NumGoroutine" ∧ fn.body = some b.code ∧ fn.results.toList = b.results ∧ fn.ntmps = b.ntmps ∧ codeOk DC.P DC.loud b.ntmps b.code = true := by
  unfold DC at h ⊢
  simp only at h ⊢
  split at h
  · exact good_body Tryd.func3 (by decide) (by kernel_rfl) h
  · exact good_body Tryd.func4 (by decide) (by kernel_rfl) h
  · exact good_body Tryd.func5 (by decide) (by kernel_rfl) h
  · exact good_body Tryd.func6 (by decide) (by kernel_rfl) h
  · exact good_body Tryd.func7 (by decide) (by kernel_rfl) h
  · exact good_body Tryd.func8 (by decide) (by kernel_rfl) h
  · exact good_body Tryd.func10 (by decide) (by kernel_rfl) h
  · exact good_body Tryd.func11 (by decide) (by kernel_rfl) h
  · exact good_body Tryd.func12 (by decide) (by kernel_rfl) h
  · exact good_body Tryd.func13 (by decide) (by kernel_rfl) h
  · exact good_body Tryd.func14 (by decide) (by kernel_rfl) h
  · exact good_body Tryd.func15 (by decide) (by kernel_rfl) h
  · exact good_body Tryd.func16 (by decide) (by kernel_rfl) h
  · exact good_body Tryd.func17 (by decide) (by kernel_rfl) h
  · exact good_body Tryd.func18 (by decide) (by kernel_rfl) h
  · exact good_body Tryd.func19 (by decide) (by kernel_rfl) h
  · exact good_body Tryd.func20 (by decide) (by kernel_rfl) h
  · exact good_body Tryd.func21 (by decide) (by kernel_rfl) h
  · exact good_body Tryd.func22 (by decide) (by kernel_rfl) h
  · exact good_body Tryd.func23 (by decide) (by kernel_rfl) h
  · exact good_body Tryd.func24 (by decide) (by kernel_rfl) h
  · exact good_body Tryd.func25 (by decide) (by kernel_rfl) h
  · exact good_body Tryd.func26 (by decide) (by kernel_rfl) h
  · exact good_body Tryd.func27 (by decide) (by kernel_rfl) h
  · exact good_body Tryd.func28 (by decide) (by kernel_rfl) h
  · exact good_body Tryd.func29 (by decide) (by kernel_rfl) h
  · exact good_body Tryd.func32 (by decide) (by kernel_rfl) h
  · exact good_body Tryd.func33 (by decide) (by kernel_rfl) h
  · exact good_body Tryd.func34 (by decide) (by kernel_rfl) h
  · exact good_body Tryd.func35 (by decide) (by kernel_rfl) h
  · exact good_body Tryd.func36 (by decide) (by kernel_rfl) h
  · exact good_body Tryd.func37 (by decide) (by kernel_rfl) h
  · exact good_body Tryd.func38 (by decide) (by kernel_rfl) h
  · exact good_body Tryd.func39 (by decide) (by kernel_rfl) h
  · exact good_body Tryd.func42 (by decide) (by kernel_rfl) h
  · exact good_body Tryd.func43 (by decide) (by kernel_rfl) h
  · exact good_body Tryd.func44 (by decide) (by kernel_rfl) h
  · exact good_body Tryd.func47 (by decide) (by kernel_rfl) h
  · exact good_body Tryd.func48 (by decide) (by kernel_rfl) h
  · exact good_body Tryd.func49 (by decide) (by kernel_rfl) h
  · exact good_body Tryd.func50 (by decide) (by kernel_rfl) h
  · exact good_body Tryd.func51 (by decide) (by kernel_rfl) h
  · exact good_body Tryd.func52 (by decide) (by kernel_rfl) h
  · exact good_body Tryd.func53 (by decide) (by kernel_rfl) h
  · exact good_body Tryd.func54 (by decide) (by kernel_rfl) h
  · exact good_body Tryd.func55 (by decide) (by kernel_rfl) h
  · exact good_body Tryd.func56 (by decide) (by kernel_rfl) h
  · exact good_body Tryd.func59 (by decide) (by kernel_rfl) h
  · exact good_body Tryd.func60 (by decide) (by kernel_rfl) h
  · exact good_body Tryd.func62 (by decide) (by kernel_rfl) h
  · exact good_body Tryd.func63 (by decide) (by kernel_rfl) h
  · exact good_body Tryd.func64 (by decide) (by kernel_rfl) h
  · exact good_body Tryd.func65 (by decide) (by kernel_rfl) h
  · exact good_body Tryd.func66 (by decide) (by kernel_rfl) h
  · exact good_body Tryd.func67 (by decide) (by kernel_rfl) h
  · exact good_body Tryd.func68 (by decide) (by kernel_rfl) h
  · exact good_body Tryd.func69 (by decide) (by kernel_rfl) h
  · exact good_body Tryd.func70 (by decide) (by kernel_rfl) h
  · exact good_body Tryd.func71 (by decide) (by kernel_rfl) h
  · exact good_body Tryd.func73 (by decide) (by kernel_rfl) h
  · exact good_body Tryd.func74 (by decide) (by kernel_rfl) h
  · exact good_body Tryd.func77 (by decide) (by kernel_rfl) h
  · exact good_body Tryd.func80 (by decide) (by kernel_rfl) h
  · exact good_body Tryd.func81 (by decide) (by kernel_rfl) h
  · exact good_body Tryd.func82 (by decide) (by kernel_rfl) h
  · exact good_body Tryd.func83 (by decide) (by kernel_rfl) h
  · exact good_body Tryd.func84 (by decide) (by kernel_rfl) h
  · exact good_body Tryd.func86 (by decide) (by kernel_rfl) h
  · cases h
theorem DC_fn9 : FnOk DC.P 9 := ⟨_, Tryd.func9, by decide, by simp [Tryd.f9]⟩
theorem DC_fn30 : FnOk DC.P 30 := ⟨_, Tryd.func30, by decide, by simp [Tryd.f30]⟩
theorem DC_fn31 : FnOk DC.P 31 := ⟨_, Tryd.func31, by decide, by simp [Tryd.f31]⟩
theorem DC_fn40 : FnOk DC.P 40 := ⟨_, Tryd.func40, by decide, by simp [Tryd.f40]⟩
theorem DC_fn41 : FnOk DC.P 41 := ⟨_, Tryd.func41, by decide, by simp [Tryd.f41]⟩
theorem DC_fn45 : FnOk DC.P 45 := ⟨_, Tryd.func45, by decide, by simp [Tryd.f45]⟩
theorem DC_fn46 : FnOk DC.P 46 := ⟨_, Tryd.func46, by decide, by simp [Tryd.f46]⟩
theorem DC_fn57 : FnOk DC.P 57 := ⟨_, Tryd.func57, by decide, by simp [Tryd.f57]⟩
theorem DC_fn78 : FnOk DC.P 78 := ⟨_, Tryd.func78, by decide, by simp [Tryd.f78]⟩
end Go.Abs
