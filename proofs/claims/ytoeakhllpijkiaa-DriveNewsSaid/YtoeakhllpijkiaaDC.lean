/- Proved here: the context in which this seat is evaluated. No condition but those that each theorem states. -/
import Derived.Test.YtoeakhllpijkiaaA6
import Derived.Test.YtoeakhllpijkiaaRows
namespace Go.Abs
open Go.Proofs
set_option maxRecDepth 100000
set_option linter.unusedVariables false
set_option linter.unusedSimpArgs false

noncomputable def DC : Ctx where
  P := Try.prog
  ext f := match f with
    | 29 => some (repeatX)
    | 39 => some (mulX)
    | 45 => some (cloneX 1 16)
    | 46 => some (cloneX 1 8)
    | _ => none
  extE f := match f with
    | 37 => some (insertX 8)
    | _ => none
  keep f k := match f, k with
    | 6, 7 => some [2, 5, 6, 7]
    | 8, 10 => some [1, 3, 7, 9, 11]
    | 9, 12 => some [1, 7, 13, 15, 16, 17]
    | 9, 16 => some [1, 7, 13, 15, 16, 17, 18, 19]
    | 11, 5 => some [0, 2, 4, 5]
    | 12, 4 => some [2, 3, 5]
    | 20, 6 => some [1, 2, 4, 6]
    | 21, 4 => some [0, 3]
    | 22, 4 => some [1, 2, 3, 6, 9, 17, 18, 19]
    | 23, 2 => some [1, 2, 3, 6, 9]
    | 24, 4 => some [1, 3]
    | 25, 3 => some [2, 3, 5, 13, 14]
    | 26, 3 => some [2, 3, 5, 6]
    | 27, 4 => some [1, 19, 20, 21]
    | 27, 11 => some [1, 5, 30, 31, 32]
    | 28, 4 => some [1, 3]
    | 28, 9 => some [1, 4]
    | 30, 8 => some [7, 8]
    | 31, 3 => some [0, 3, 4]
    | 33, 3 => some [3, 8, 9, 10]
    | 34, 2 => some [1, 2, 5]
    | 36, 3 => some [0, 1, 6, 7, 8]
    | 60, 1 => some [0, 2, 3]
    | _, _ => none
  body f := match f with
    | 3 => bodyOf Try.f3
    | 4 => bodyOf Try.f4
    | 5 => bodyOf Try.f5
    | 6 => bodyOf Try.f6
    | 7 => bodyOf Try.f7
    | 8 => bodyOf Try.f8
    | 9 => bodyOf Try.f9
    | 10 => bodyOf Try.f10
    | 11 => bodyOf Try.f11
    | 12 => bodyOf Try.f12
    | 13 => bodyOf Try.f13
    | 14 => bodyOf Try.f14
    | 15 => bodyOf Try.f15
    | 16 => bodyOf Try.f16
    | 17 => bodyOf Try.f17
    | 18 => bodyOf Try.f18
    | 19 => bodyOf Try.f19
    | 20 => bodyOf Try.f20
    | 21 => bodyOf Try.f21
    | 22 => bodyOf Try.f22
    | 23 => bodyOf Try.f23
    | 24 => bodyOf Try.f24
    | 25 => bodyOf Try.f25
    | 26 => bodyOf Try.f26
    | 27 => bodyOf Try.f27
    | 28 => bodyOf Try.f28
    | 30 => bodyOf Try.f30
    | 31 => bodyOf Try.f31
    | 32 => bodyOf Try.f32
    | 33 => bodyOf Try.f33
    | 34 => bodyOf Try.f34
    | 35 => bodyOf Try.f35
    | 36 => bodyOf Try.f36
    | 38 => bodyOf Try.f38
    | 47 => bodyOf Try.f47
    | 48 => bodyOf Try.f48
    | 50 => bodyOf Try.f50
    | 51 => bodyOf Try.f51
    | 52 => bodyOf Try.f52
    | 56 => bodyOf Try.f56
    | 57 => bodyOf Try.f57
    | 60 => bodyOf Try.f60
    | _ => none

@[simp] theorem DCP : DC.P = Try.prog := rfl
@[simp] theorem call3 (d : Bool) (xs : List V) (H : Heap) : callW DC d (.fn 3 []) xs H = match sealL H xs with
    | some (ys, bs) => match bodyW DC 3 ys [] with
      | some (r, H') => some (ren (shift H.length) r, (if hasRo r || H'.any hasRoB then freeze H bs else H) ++ H'.map (renB (shift H.length)))
      | none => none
    | none => if d then none else bodyW DC 3 xs H := callW_body rfl rfl
@[simp] theorem call4 (d : Bool) (xs : List V) (H : Heap) : callW DC d (.fn 4 []) xs H = match sealL H xs with
    | some (ys, bs) => match bodyW DC 4 ys [] with
      | some (r, H') => some (ren (shift H.length) r, (if hasRo r || H'.any hasRoB then freeze H bs else H) ++ H'.map (renB (shift H.length)))
      | none => none
    | none => if d then none else bodyW DC 4 xs H := callW_body rfl rfl
@[simp] theorem call5 (d : Bool) (xs : List V) (H : Heap) : callW DC d (.fn 5 []) xs H = match sealL H xs with
    | some (ys, bs) => match bodyW DC 5 ys [] with
      | some (r, H') => some (ren (shift H.length) r, (if hasRo r || H'.any hasRoB then freeze H bs else H) ++ H'.map (renB (shift H.length)))
      | none => none
    | none => if d then none else bodyW DC 5 xs H := callW_body rfl rfl
@[simp] theorem call6 (d : Bool) (xs : List V) (H : Heap) : callW DC d (.fn 6 []) xs H = match sealL H xs with
    | some (ys, bs) => match bodyW DC 6 ys [] with
      | some (r, H') => some (ren (shift H.length) r, (if hasRo r || H'.any hasRoB then freeze H bs else H) ++ H'.map (renB (shift H.length)))
      | none => none
    | none => if d then none else bodyW DC 6 xs H := callW_body rfl rfl
@[simp] theorem call7 (d : Bool) (xs : List V) (H : Heap) : callW DC d (.fn 7 []) xs H = match sealL H xs with
    | some (ys, bs) => match bodyW DC 7 ys [] with
      | some (r, H') => some (ren (shift H.length) r, (if hasRo r || H'.any hasRoB then freeze H bs else H) ++ H'.map (renB (shift H.length)))
      | none => none
    | none => if d then none else bodyW DC 7 xs H := callW_body rfl rfl
@[simp] theorem call8 (d : Bool) (xs : List V) (H : Heap) : callW DC d (.fn 8 []) xs H = match sealL H xs with
    | some (ys, bs) => match bodyW DC 8 ys [] with
      | some (r, H') => some (ren (shift H.length) r, (if hasRo r || H'.any hasRoB then freeze H bs else H) ++ H'.map (renB (shift H.length)))
      | none => none
    | none => if d then none else bodyW DC 8 xs H := callW_body rfl rfl
@[simp] theorem call9 (d : Bool) (xs : List V) (H : Heap) : callW DC d (.fn 9 []) xs H = match sealL H xs with
    | some (ys, bs) => match bodyW DC 9 ys [] with
      | some (r, H') => some (ren (shift H.length) r, (if hasRo r || H'.any hasRoB then freeze H bs else H) ++ H'.map (renB (shift H.length)))
      | none => none
    | none => if d then none else bodyW DC 9 xs H := callW_body rfl rfl
@[simp] theorem call10 (d : Bool) (xs : List V) (H : Heap) : callW DC d (.fn 10 []) xs H = match sealL H xs with
    | some (ys, bs) => match bodyW DC 10 ys [] with
      | some (r, H') => some (ren (shift H.length) r, (if hasRo r || H'.any hasRoB then freeze H bs else H) ++ H'.map (renB (shift H.length)))
      | none => none
    | none => if d then none else bodyW DC 10 xs H := callW_body rfl rfl
@[simp] theorem call11 (d : Bool) (xs : List V) (H : Heap) : callW DC d (.fn 11 []) xs H = match sealL H xs with
    | some (ys, bs) => match bodyW DC 11 ys [] with
      | some (r, H') => some (ren (shift H.length) r, (if hasRo r || H'.any hasRoB then freeze H bs else H) ++ H'.map (renB (shift H.length)))
      | none => none
    | none => if d then none else bodyW DC 11 xs H := callW_body rfl rfl
@[simp] theorem call12 (d : Bool) (xs : List V) (H : Heap) : callW DC d (.fn 12 []) xs H = match sealL H xs with
    | some (ys, bs) => match bodyW DC 12 ys [] with
      | some (r, H') => some (ren (shift H.length) r, (if hasRo r || H'.any hasRoB then freeze H bs else H) ++ H'.map (renB (shift H.length)))
      | none => none
    | none => if d then none else bodyW DC 12 xs H := callW_body rfl rfl
@[simp] theorem call13 (d : Bool) (xs : List V) (H : Heap) : callW DC d (.fn 13 []) xs H = match sealL H xs with
    | some (ys, bs) => match bodyW DC 13 ys [] with
      | some (r, H') => some (ren (shift H.length) r, (if hasRo r || H'.any hasRoB then freeze H bs else H) ++ H'.map (renB (shift H.length)))
      | none => none
    | none => if d then none else bodyW DC 13 xs H := callW_body rfl rfl
@[simp] theorem call14 (d : Bool) (xs : List V) (H : Heap) : callW DC d (.fn 14 []) xs H = match sealL H xs with
    | some (ys, bs) => match bodyW DC 14 ys [] with
      | some (r, H') => some (ren (shift H.length) r, (if hasRo r || H'.any hasRoB then freeze H bs else H) ++ H'.map (renB (shift H.length)))
      | none => none
    | none => if d then none else bodyW DC 14 xs H := callW_body rfl rfl
@[simp] theorem call15 (d : Bool) (xs : List V) (H : Heap) : callW DC d (.fn 15 []) xs H = match sealL H xs with
    | some (ys, bs) => match bodyW DC 15 ys [] with
      | some (r, H') => some (ren (shift H.length) r, (if hasRo r || H'.any hasRoB then freeze H bs else H) ++ H'.map (renB (shift H.length)))
      | none => none
    | none => if d then none else bodyW DC 15 xs H := callW_body rfl rfl
@[simp] theorem call16 (d : Bool) (xs : List V) (H : Heap) : callW DC d (.fn 16 []) xs H = match sealL H xs with
    | some (ys, bs) => match bodyW DC 16 ys [] with
      | some (r, H') => some (ren (shift H.length) r, (if hasRo r || H'.any hasRoB then freeze H bs else H) ++ H'.map (renB (shift H.length)))
      | none => none
    | none => if d then none else bodyW DC 16 xs H := callW_body rfl rfl
@[simp] theorem call17 (d : Bool) (xs : List V) (H : Heap) : callW DC d (.fn 17 []) xs H = match sealL H xs with
    | some (ys, bs) => match bodyW DC 17 ys [] with
      | some (r, H') => some (ren (shift H.length) r, (if hasRo r || H'.any hasRoB then freeze H bs else H) ++ H'.map (renB (shift H.length)))
      | none => none
    | none => if d then none else bodyW DC 17 xs H := callW_body rfl rfl
@[simp] theorem call18 (d : Bool) (xs : List V) (H : Heap) : callW DC d (.fn 18 []) xs H = match sealL H xs with
    | some (ys, bs) => match bodyW DC 18 ys [] with
      | some (r, H') => some (ren (shift H.length) r, (if hasRo r || H'.any hasRoB then freeze H bs else H) ++ H'.map (renB (shift H.length)))
      | none => none
    | none => if d then none else bodyW DC 18 xs H := callW_body rfl rfl
@[simp] theorem call19 (d : Bool) (xs : List V) (H : Heap) : callW DC d (.fn 19 []) xs H = match sealL H xs with
    | some (ys, bs) => match bodyW DC 19 ys [] with
      | some (r, H') => some (ren (shift H.length) r, (if hasRo r || H'.any hasRoB then freeze H bs else H) ++ H'.map (renB (shift H.length)))
      | none => none
    | none => if d then none else bodyW DC 19 xs H := callW_body rfl rfl
@[simp] theorem call20 (d : Bool) (xs : List V) (H : Heap) : callW DC d (.fn 20 []) xs H = match sealL H xs with
    | some (ys, bs) => match bodyW DC 20 ys [] with
      | some (r, H') => some (ren (shift H.length) r, (if hasRo r || H'.any hasRoB then freeze H bs else H) ++ H'.map (renB (shift H.length)))
      | none => none
    | none => if d then none else bodyW DC 20 xs H := callW_body rfl rfl
@[simp] theorem call21 (d : Bool) (xs : List V) (H : Heap) : callW DC d (.fn 21 []) xs H = match sealL H xs with
    | some (ys, bs) => match bodyW DC 21 ys [] with
      | some (r, H') => some (ren (shift H.length) r, (if hasRo r || H'.any hasRoB then freeze H bs else H) ++ H'.map (renB (shift H.length)))
      | none => none
    | none => if d then none else bodyW DC 21 xs H := callW_body rfl rfl
@[simp] theorem call22 (d : Bool) (xs : List V) (H : Heap) : callW DC d (.fn 22 []) xs H = match sealL H xs with
    | some (ys, bs) => match bodyW DC 22 ys [] with
      | some (r, H') => some (ren (shift H.length) r, (if hasRo r || H'.any hasRoB then freeze H bs else H) ++ H'.map (renB (shift H.length)))
      | none => none
    | none => if d then none else bodyW DC 22 xs H := callW_body rfl rfl
@[simp] theorem call23 (d : Bool) (xs : List V) (H : Heap) : callW DC d (.fn 23 []) xs H = match sealL H xs with
    | some (ys, bs) => match bodyW DC 23 ys [] with
      | some (r, H') => some (ren (shift H.length) r, (if hasRo r || H'.any hasRoB then freeze H bs else H) ++ H'.map (renB (shift H.length)))
      | none => none
    | none => if d then none else bodyW DC 23 xs H := callW_body rfl rfl
@[simp] theorem call24 (d : Bool) (xs : List V) (H : Heap) : callW DC d (.fn 24 []) xs H = match sealL H xs with
    | some (ys, bs) => match bodyW DC 24 ys [] with
      | some (r, H') => some (ren (shift H.length) r, (if hasRo r || H'.any hasRoB then freeze H bs else H) ++ H'.map (renB (shift H.length)))
      | none => none
    | none => if d then none else bodyW DC 24 xs H := callW_body rfl rfl
@[simp] theorem call25 (d : Bool) (xs : List V) (H : Heap) : callW DC d (.fn 25 []) xs H = match sealL H xs with
    | some (ys, bs) => match bodyW DC 25 ys [] with
      | some (r, H') => some (ren (shift H.length) r, (if hasRo r || H'.any hasRoB then freeze H bs else H) ++ H'.map (renB (shift H.length)))
      | none => none
    | none => if d then none else bodyW DC 25 xs H := callW_body rfl rfl
@[simp] theorem call26 (d : Bool) (xs : List V) (H : Heap) : callW DC d (.fn 26 []) xs H = match sealL H xs with
    | some (ys, bs) => match bodyW DC 26 ys [] with
      | some (r, H') => some (ren (shift H.length) r, (if hasRo r || H'.any hasRoB then freeze H bs else H) ++ H'.map (renB (shift H.length)))
      | none => none
    | none => if d then none else bodyW DC 26 xs H := callW_body rfl rfl
@[simp] theorem call27 (d : Bool) (xs : List V) (H : Heap) : callW DC d (.fn 27 []) xs H = match sealL H xs with
    | some (ys, bs) => match bodyW DC 27 ys [] with
      | some (r, H') => some (ren (shift H.length) r, (if hasRo r || H'.any hasRoB then freeze H bs else H) ++ H'.map (renB (shift H.length)))
      | none => none
    | none => if d then none else bodyW DC 27 xs H := callW_body rfl rfl
@[simp] theorem call28 (d : Bool) (xs : List V) (H : Heap) : callW DC d (.fn 28 []) xs H = match sealL H xs with
    | some (ys, bs) => match bodyW DC 28 ys [] with
      | some (r, H') => some (ren (shift H.length) r, (if hasRo r || H'.any hasRoB then freeze H bs else H) ++ H'.map (renB (shift H.length)))
      | none => none
    | none => if d then none else bodyW DC 28 xs H := callW_body rfl rfl
@[simp] theorem call30 (d : Bool) (xs : List V) (H : Heap) : callW DC d (.fn 30 []) xs H = match sealL H xs with
    | some (ys, bs) => match bodyW DC 30 ys [] with
      | some (r, H') => some (ren (shift H.length) r, (if hasRo r || H'.any hasRoB then freeze H bs else H) ++ H'.map (renB (shift H.length)))
      | none => none
    | none => if d then none else bodyW DC 30 xs H := callW_body rfl rfl
@[simp] theorem call31 (d : Bool) (xs : List V) (H : Heap) : callW DC d (.fn 31 []) xs H = match sealL H xs with
    | some (ys, bs) => match bodyW DC 31 ys [] with
      | some (r, H') => some (ren (shift H.length) r, (if hasRo r || H'.any hasRoB then freeze H bs else H) ++ H'.map (renB (shift H.length)))
      | none => none
    | none => if d then none else bodyW DC 31 xs H := callW_body rfl rfl
@[simp] theorem call32 (d : Bool) (xs : List V) (H : Heap) : callW DC d (.fn 32 []) xs H = match sealL H xs with
    | some (ys, bs) => match bodyW DC 32 ys [] with
      | some (r, H') => some (ren (shift H.length) r, (if hasRo r || H'.any hasRoB then freeze H bs else H) ++ H'.map (renB (shift H.length)))
      | none => none
    | none => if d then none else bodyW DC 32 xs H := callW_body rfl rfl
@[simp] theorem call33 (d : Bool) (xs : List V) (H : Heap) : callW DC d (.fn 33 []) xs H = match sealL H xs with
    | some (ys, bs) => match bodyW DC 33 ys [] with
      | some (r, H') => some (ren (shift H.length) r, (if hasRo r || H'.any hasRoB then freeze H bs else H) ++ H'.map (renB (shift H.length)))
      | none => none
    | none => if d then none else bodyW DC 33 xs H := callW_body rfl rfl
@[simp] theorem call34 (d : Bool) (xs : List V) (H : Heap) : callW DC d (.fn 34 []) xs H = match sealL H xs with
    | some (ys, bs) => match bodyW DC 34 ys [] with
      | some (r, H') => some (ren (shift H.length) r, (if hasRo r || H'.any hasRoB then freeze H bs else H) ++ H'.map (renB (shift H.length)))
      | none => none
    | none => if d then none else bodyW DC 34 xs H := callW_body rfl rfl
@[simp] theorem call35 (d : Bool) (xs : List V) (H : Heap) : callW DC d (.fn 35 []) xs H = match sealL H xs with
    | some (ys, bs) => match bodyW DC 35 ys [] with
      | some (r, H') => some (ren (shift H.length) r, (if hasRo r || H'.any hasRoB then freeze H bs else H) ++ H'.map (renB (shift H.length)))
      | none => none
    | none => if d then none else bodyW DC 35 xs H := callW_body rfl rfl
@[simp] theorem call36 (d : Bool) (xs : List V) (H : Heap) : callW DC d (.fn 36 []) xs H = match sealL H xs with
    | some (ys, bs) => match bodyW DC 36 ys [] with
      | some (r, H') => some (ren (shift H.length) r, (if hasRo r || H'.any hasRoB then freeze H bs else H) ++ H'.map (renB (shift H.length)))
      | none => none
    | none => if d then none else bodyW DC 36 xs H := callW_body rfl rfl
@[simp] theorem call38 (d : Bool) (xs : List V) (H : Heap) : callW DC d (.fn 38 []) xs H = match sealL H xs with
    | some (ys, bs) => match bodyW DC 38 ys [] with
      | some (r, H') => some (ren (shift H.length) r, (if hasRo r || H'.any hasRoB then freeze H bs else H) ++ H'.map (renB (shift H.length)))
      | none => none
    | none => if d then none else bodyW DC 38 xs H := callW_body rfl rfl
@[simp] theorem call47 (d : Bool) (xs : List V) (H : Heap) : callW DC d (.fn 47 []) xs H = match sealL H xs with
    | some (ys, bs) => match bodyW DC 47 ys [] with
      | some (r, H') => some (ren (shift H.length) r, (if hasRo r || H'.any hasRoB then freeze H bs else H) ++ H'.map (renB (shift H.length)))
      | none => none
    | none => if d then none else bodyW DC 47 xs H := callW_body rfl rfl
@[simp] theorem call48 (d : Bool) (xs : List V) (H : Heap) : callW DC d (.fn 48 []) xs H = match sealL H xs with
    | some (ys, bs) => match bodyW DC 48 ys [] with
      | some (r, H') => some (ren (shift H.length) r, (if hasRo r || H'.any hasRoB then freeze H bs else H) ++ H'.map (renB (shift H.length)))
      | none => none
    | none => if d then none else bodyW DC 48 xs H := callW_body rfl rfl
@[simp] theorem call50 (d : Bool) (xs : List V) (H : Heap) : callW DC d (.fn 50 []) xs H = match sealL H xs with
    | some (ys, bs) => match bodyW DC 50 ys [] with
      | some (r, H') => some (ren (shift H.length) r, (if hasRo r || H'.any hasRoB then freeze H bs else H) ++ H'.map (renB (shift H.length)))
      | none => none
    | none => if d then none else bodyW DC 50 xs H := callW_body rfl rfl
@[simp] theorem call51 (d : Bool) (xs : List V) (H : Heap) : callW DC d (.fn 51 []) xs H = match sealL H xs with
    | some (ys, bs) => match bodyW DC 51 ys [] with
      | some (r, H') => some (ren (shift H.length) r, (if hasRo r || H'.any hasRoB then freeze H bs else H) ++ H'.map (renB (shift H.length)))
      | none => none
    | none => if d then none else bodyW DC 51 xs H := callW_body rfl rfl
@[simp] theorem call52 (d : Bool) (xs : List V) (H : Heap) : callW DC d (.fn 52 []) xs H = match sealL H xs with
    | some (ys, bs) => match bodyW DC 52 ys [] with
      | some (r, H') => some (ren (shift H.length) r, (if hasRo r || H'.any hasRoB then freeze H bs else H) ++ H'.map (renB (shift H.length)))
      | none => none
    | none => if d then none else bodyW DC 52 xs H := callW_body rfl rfl
@[simp] theorem call56 (d : Bool) (xs : List V) (H : Heap) : callW DC d (.fn 56 []) xs H = match sealL H xs with
    | some (ys, bs) => match bodyW DC 56 ys [] with
      | some (r, H') => some (ren (shift H.length) r, (if hasRo r || H'.any hasRoB then freeze H bs else H) ++ H'.map (renB (shift H.length)))
      | none => none
    | none => if d then none else bodyW DC 56 xs H := callW_body rfl rfl
@[simp] theorem call57 (d : Bool) (xs : List V) (H : Heap) : callW DC d (.fn 57 []) xs H = match sealL H xs with
    | some (ys, bs) => match bodyW DC 57 ys [] with
      | some (r, H') => some (ren (shift H.length) r, (if hasRo r || H'.any hasRoB then freeze H bs else H) ++ H'.map (renB (shift H.length)))
      | none => none
    | none => if d then none else bodyW DC 57 xs H := callW_body rfl rfl
@[simp] theorem call60 (d : Bool) (xs : List V) (H : Heap) : callW DC d (.fn 60 []) xs H = match sealL H xs with
    | some (ys, bs) => match bodyW DC 60 ys [] with
      | some (r, H') => some (ren (shift H.length) r, (if hasRo r || H'.any hasRoB then freeze H bs else H) ++ H'.map (renB (shift H.length)))
      | none => none
    | none => if d then none else bodyW DC 60 xs H := callW_body rfl rfl
@[simp] theorem call29 (d : Bool) (xs : List V) (H : Heap) : callW DC d (.fn 29 []) xs H = match sealL H xs with
    | some (ys, bs) => match repeatX ys with
      | some (r, H') => some (ren (shift H.length) r, (if hasRo r || H'.any hasRoB then freeze H bs else H) ++ H'.map (renB (shift H.length)))
      | none => none
    | none => if d then none else bodyW DC 29 xs H := callW_ext rfl rfl
@[simp] theorem call39 (d : Bool) (xs : List V) (H : Heap) : callW DC d (.fn 39 []) xs H = match sealL H xs with
    | some (ys, bs) => match mulX ys with
      | some (r, H') => some (ren (shift H.length) r, (if hasRo r || H'.any hasRoB then freeze H bs else H) ++ H'.map (renB (shift H.length)))
      | none => none
    | none => if d then none else bodyW DC 39 xs H := callW_ext rfl rfl
@[simp] theorem call45 (d : Bool) (xs : List V) (H : Heap) : callW DC d (.fn 45 []) xs H = match sealL H xs with
    | some (ys, bs) => match cloneX 1 16 ys with
      | some (r, H') => some (ren (shift H.length) r, (if hasRo r || H'.any hasRoB then freeze H bs else H) ++ H'.map (renB (shift H.length)))
      | none => none
    | none => if d then none else bodyW DC 45 xs H := callW_ext rfl rfl
@[simp] theorem call46 (d : Bool) (xs : List V) (H : Heap) : callW DC d (.fn 46 []) xs H = match sealL H xs with
    | some (ys, bs) => match cloneX 1 8 ys with
      | some (r, H') => some (ren (shift H.length) r, (if hasRo r || H'.any hasRoB then freeze H bs else H) ++ H'.map (renB (shift H.length)))
      | none => none
    | none => if d then none else bodyW DC 46 xs H := callW_ext rfl rfl
theorem DC_body (f : FuncId) (b : Body) (h : DC.body f = some b) : ∃ fn, DC.P.funcs[f]? = some fn ∧ fn.name ≠ "runtime.NumGoroutine" ∧ fn.body = some b.code ∧ fn.results.toList = b.results ∧ fn.ntmps = b.ntmps ∧ codeOk DC.P b.ntmps b.code = true := by
  unfold DC at h ⊢
  simp only at h ⊢
  split at h
  · exact good_body Try.func3 (by decide) (by kernel_rfl) h
  · exact good_body Try.func4 (by decide) (by kernel_rfl) h
  · exact good_body Try.func5 (by decide) (by kernel_rfl) h
  · exact good_body Try.func6 (by decide) (by kernel_rfl) h
  · exact good_body Try.func7 (by decide) (by kernel_rfl) h
  · exact good_body Try.func8 (by decide) (by kernel_rfl) h
  · exact good_body Try.func9 (by decide) (by kernel_rfl) h
  · exact good_body Try.func10 (by decide) (by kernel_rfl) h
  · exact good_body Try.func11 (by decide) (by kernel_rfl) h
  · exact good_body Try.func12 (by decide) (by kernel_rfl) h
  · exact good_body Try.func13 (by decide) (by kernel_rfl) h
  · exact good_body Try.func14 (by decide) (by kernel_rfl) h
  · exact good_body Try.func15 (by decide) (by kernel_rfl) h
  · exact good_body Try.func16 (by decide) (by kernel_rfl) h
  · exact good_body Try.func17 (by decide) (by kernel_rfl) h
  · exact good_body Try.func18 (by decide) (by kernel_rfl) h
  · exact good_body Try.func19 (by decide) (by kernel_rfl) h
  · exact good_body Try.func20 (by decide) (by kernel_rfl) h
  · exact good_body Try.func21 (by decide) (by kernel_rfl) h
  · exact good_body Try.func22 (by decide) (by kernel_rfl) h
  · exact good_body Try.func23 (by decide) (by kernel_rfl) h
  · exact good_body Try.func24 (by decide) (by kernel_rfl) h
  · exact good_body Try.func25 (by decide) (by kernel_rfl) h
  · exact good_body Try.func26 (by decide) (by kernel_rfl) h
  · exact good_body Try.func27 (by decide) (by kernel_rfl) h
  · exact good_body Try.func28 (by decide) (by kernel_rfl) h
  · exact good_body Try.func30 (by decide) (by kernel_rfl) h
  · exact good_body Try.func31 (by decide) (by kernel_rfl) h
  · exact good_body Try.func32 (by decide) (by kernel_rfl) h
  · exact good_body Try.func33 (by decide) (by kernel_rfl) h
  · exact good_body Try.func34 (by decide) (by kernel_rfl) h
  · exact good_body Try.func35 (by decide) (by kernel_rfl) h
  · exact good_body Try.func36 (by decide) (by kernel_rfl) h
  · exact good_body Try.func38 (by decide) (by kernel_rfl) h
  · exact good_body Try.func47 (by decide) (by kernel_rfl) h
  · exact good_body Try.func48 (by decide) (by kernel_rfl) h
  · exact good_body Try.func50 (by decide) (by kernel_rfl) h
  · exact good_body Try.func51 (by decide) (by kernel_rfl) h
  · exact good_body Try.func52 (by decide) (by kernel_rfl) h
  · exact good_body Try.func56 (by decide) (by kernel_rfl) h
  · exact good_body Try.func57 (by decide) (by kernel_rfl) h
  · exact good_body Try.func60 (by decide) (by kernel_rfl) h
  · cases h
theorem DC_fn29 : FnOk DC.P 29 := ⟨_, Try.func29, by decide, by simp [Try.f29]⟩
theorem DC_fn37 : FnOk DC.P 37 := ⟨_, Try.func37, by decide, by simp [Try.f37]⟩
theorem DC_fn39 : FnOk DC.P 39 := ⟨_, Try.func39, by decide, by simp [Try.f39]⟩
theorem DC_fn45 : FnOk DC.P 45 := ⟨_, Try.func45, by decide, by simp [Try.f45]⟩
theorem DC_fn46 : FnOk DC.P 46 := ⟨_, Try.func46, by decide, by simp [Try.f46]⟩
end Go.Abs
