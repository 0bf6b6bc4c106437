/- Proved here: the context in which this seat is evaluated. No condition but those that each theorem states. -/
import Derived.Test.YtbnnaaadblpgiaaA7
import Derived.Test.YtbnnaaadblpgiaaINS0
import Derived.Test.YtbnnaaadblpgiaaRows
namespace Go.Abs
open Go.Proofs
set_option maxRecDepth 100000
set_option linter.unusedVariables false
set_option linter.unusedSimpArgs false

noncomputable def DC : Ctx where
  P := Try.prog
  ext f := match f with
    | 26 => some (repeatX)
    | 29 => some (cloneX 1 16)
    | 30 => some (cloneX 1 8)
    | 35 => some (mulX)
    | _ => none
  extE f := match f with
    | 24 => some (insAt1X)
    | 40 => some (strX 67 5)
    | 46 => some (copyX 67)
    | _ => none
  keep f k := match f, k with
    | 11, 6 => some [1, 2, 4, 6]
    | 12, 4 => some [2, 3, 5]
    | 13, 4 => some [1, 3]
    | 14, 4 => some [1, 3]
    | 14, 9 => some [1, 4]
    | 16, 3 => some [2, 3, 5, 13, 14]
    | 17, 4 => some [1, 2, 3, 6, 9, 17, 18, 19]
    | 19, 3 => some [3, 8, 9, 10]
    | 20, 2 => some [1, 2, 5]
    | 21, 3 => some [0, 3, 4]
    | 23, 3 => some [0, 1, 6, 7, 8]
    | 25, 3 => some [2, 3, 5, 6]
    | 27, 8 => some [7, 8]
    | 48, 1 => some [0, 2, 3]
    | _, _ => none
  body f := match f with
    | 3 => bodyOf Try.f3
    | 4 => bodyOf Try.f4
    | 5 => bodyOf Try.f5
    | 6 => bodyOf Try.f6
    | 7 => bodyOf Try.f7
    | 8 => bodyOf Try.f8
    | 9 => bodyOf Try.f9
    | 10 => bodyOf Try.f10
    | 11 => bodyOf Try.f11
    | 12 => bodyOf Try.f12
    | 13 => bodyOf Try.f13
    | 14 => bodyOf Try.f14
    | 15 => bodyOf Try.f15
    | 16 => bodyOf Try.f16
    | 17 => bodyOf Try.f17
    | 18 => bodyOf Try.f18
    | 19 => bodyOf Try.f19
    | 20 => bodyOf Try.f20
    | 21 => bodyOf Try.f21
    | 22 => bodyOf Try.f22
    | 23 => bodyOf Try.f23
    | 25 => bodyOf Try.f25
    | 27 => bodyOf Try.f27
    | 28 => bodyOf Try.f28
    | 31 => bodyOf Try.f31
    | 32 => bodyOf Try.f32
    | 34 => bodyOf Try.f34
    | 36 => bodyOf Try.f36
    | 37 => bodyOf Try.f37
    | 38 => bodyOf Try.f38
    | 39 => bodyOf Try.f39
    | 41 => bodyOf Try.f41
    | 42 => bodyOf Try.f42
    | 43 => bodyOf Try.f43
    | 44 => bodyOf Try.f44
    | 45 => bodyOf Try.f45
    | 47 => bodyOf Try.f47
    | 48 => bodyOf Try.f48
    | _ => none
  direct f := ([] : List Nat).contains f
  loud f := ([37, 38, 40] : List Nat).contains f

@[simp] theorem DC_loud (f : FuncId) : DC.loud f = ([37, 38, 40] : List Nat).contains f := rfl
@[simp] theorem DCP : DC.P = Try.prog := rfl
@[simp] theorem call3 (d : Bool) (xs : List V) (H : Heap) : callW DC d (.fn 3 []) xs H = match sealL H xs with
    | some (ys, bs) => match bodyW DC 3 ys [] with
      | some (r, H') => some (ren (shift H.length) r, (if hasRo r || H'.any hasRoB then freeze H bs else H) ++ H'.map (renB (shift H.length)))
      | none => none
    | none => if d then none else bodyW DC 3 xs H := callW_body rfl rfl rfl
@[simp] theorem call4 (d : Bool) (xs : List V) (H : Heap) : callW DC d (.fn 4 []) xs H = match sealL H xs with
    | some (ys, bs) => match bodyW DC 4 ys [] with
      | some (r, H') => some (ren (shift H.length) r, (if hasRo r || H'.any hasRoB then freeze H bs else H) ++ H'.map (renB (shift H.length)))
      | none => none
    | none => if d then none else bodyW DC 4 xs H := callW_body rfl rfl rfl
@[simp] theorem call5 (d : Bool) (xs : List V) (H : Heap) : callW DC d (.fn 5 []) xs H = match sealL H xs with
    | some (ys, bs) => match bodyW DC 5 ys [] with
      | some (r, H') => some (ren (shift H.length) r, (if hasRo r || H'.any hasRoB then freeze H bs else H) ++ H'.map (renB (shift H.length)))
      | none => none
    | none => if d then none else bodyW DC 5 xs H := callW_body rfl rfl rfl
@[simp] theorem call6 (d : Bool) (xs : List V) (H : Heap) : callW DC d (.fn 6 []) xs H = match sealL H xs with
    | some (ys, bs) => match bodyW DC 6 ys [] with
      | some (r, H') => some (ren (shift H.length) r, (if hasRo r || H'.any hasRoB then freeze H bs else H) ++ H'.map (renB (shift H.length)))
      | none => none
    | none => if d then none else bodyW DC 6 xs H := callW_body rfl rfl rfl
@[simp] theorem call7 (d : Bool) (xs : List V) (H : Heap) : callW DC d (.fn 7 []) xs H = match sealL H xs with
    | some (ys, bs) => match bodyW DC 7 ys [] with
      | some (r, H') => some (ren (shift H.length) r, (if hasRo r || H'.any hasRoB then freeze H bs else H) ++ H'.map (renB (shift H.length)))
      | none => none
    | none => if d then none else bodyW DC 7 xs H := callW_body rfl rfl rfl
@[simp] theorem call8 (d : Bool) (xs : List V) (H : Heap) : callW DC d (.fn 8 []) xs H = match sealL H xs with
    | some (ys, bs) => match bodyW DC 8 ys [] with
      | some (r, H') => some (ren (shift H.length) r, (if hasRo r || H'.any hasRoB then freeze H bs else H) ++ H'.map (renB (shift H.length)))
      | none => none
    | none => if d then none else bodyW DC 8 xs H := callW_body rfl rfl rfl
@[simp] theorem call9 (d : Bool) (xs : List V) (H : Heap) : callW DC d (.fn 9 []) xs H = match sealL H xs with
    | some (ys, bs) => match bodyW DC 9 ys [] with
      | some (r, H') => some (ren (shift H.length) r, (if hasRo r || H'.any hasRoB then freeze H bs else H) ++ H'.map (renB (shift H.length)))
      | none => none
    | none => if d then none else bodyW DC 9 xs H := callW_body rfl rfl rfl
@[simp] theorem call10 (d : Bool) (xs : List V) (H : Heap) : callW DC d (.fn 10 []) xs H = match sealL H xs with
    | some (ys, bs) => match bodyW DC 10 ys [] with
      | some (r, H') => some (ren (shift H.length) r, (if hasRo r || H'.any hasRoB then freeze H bs else H) ++ H'.map (renB (shift H.length)))
      | none => none
    | none => if d then none else bodyW DC 10 xs H := callW_body rfl rfl rfl
@[simp] theorem call11 (d : Bool) (xs : List V) (H : Heap) : callW DC d (.fn 11 []) xs H = match sealL H xs with
    | some (ys, bs) => match bodyW DC 11 ys [] with
      | some (r, H') => some (ren (shift H.length) r, (if hasRo r || H'.any hasRoB then freeze H bs else H) ++ H'.map (renB (shift H.length)))
      | none => none
    | none => if d then none else bodyW DC 11 xs H := callW_body rfl rfl rfl
@[simp] theorem call12 (d : Bool) (xs : List V) (H : Heap) : callW DC d (.fn 12 []) xs H = match sealL H xs with
    | some (ys, bs) => match bodyW DC 12 ys [] with
      | some (r, H') => some (ren (shift H.length) r, (if hasRo r || H'.any hasRoB then freeze H bs else H) ++ H'.map (renB (shift H.length)))
      | none => none
    | none => if d then none else bodyW DC 12 xs H := callW_body rfl rfl rfl
@[simp] theorem call13 (d : Bool) (xs : List V) (H : Heap) : callW DC d (.fn 13 []) xs H = match sealL H xs with
    | some (ys, bs) => match bodyW DC 13 ys [] with
      | some (r, H') => some (ren (shift H.length) r, (if hasRo r || H'.any hasRoB then freeze H bs else H) ++ H'.map (renB (shift H.length)))
      | none => none
    | none => if d then none else bodyW DC 13 xs H := callW_body rfl rfl rfl
@[simp] theorem call14 (d : Bool) (xs : List V) (H : Heap) : callW DC d (.fn 14 []) xs H = match sealL H xs with
    | some (ys, bs) => match bodyW DC 14 ys [] with
      | some (r, H') => some (ren (shift H.length) r, (if hasRo r || H'.any hasRoB then freeze H bs else H) ++ H'.map (renB (shift H.length)))
      | none => none
    | none => if d then none else bodyW DC 14 xs H := callW_body rfl rfl rfl
@[simp] theorem call15 (d : Bool) (xs : List V) (H : Heap) : callW DC d (.fn 15 []) xs H = match sealL H xs with
    | some (ys, bs) => match bodyW DC 15 ys [] with
      | some (r, H') => some (ren (shift H.length) r, (if hasRo r || H'.any hasRoB then freeze H bs else H) ++ H'.map (renB (shift H.length)))
      | none => none
    | none => if d then none else bodyW DC 15 xs H := callW_body rfl rfl rfl
@[simp] theorem call16 (d : Bool) (xs : List V) (H : Heap) : callW DC d (.fn 16 []) xs H = match sealL H xs with
    | some (ys, bs) => match bodyW DC 16 ys [] with
      | some (r, H') => some (ren (shift H.length) r, (if hasRo r || H'.any hasRoB then freeze H bs else H) ++ H'.map (renB (shift H.length)))
      | none => none
    | none => if d then none else bodyW DC 16 xs H := callW_body rfl rfl rfl
@[simp] theorem call17 (d : Bool) (xs : List V) (H : Heap) : callW DC d (.fn 17 []) xs H = match sealL H xs with
    | some (ys, bs) => match bodyW DC 17 ys [] with
      | some (r, H') => some (ren (shift H.length) r, (if hasRo r || H'.any hasRoB then freeze H bs else H) ++ H'.map (renB (shift H.length)))
      | none => none
    | none => if d then none else bodyW DC 17 xs H := callW_body rfl rfl rfl
@[simp] theorem call18 (d : Bool) (xs : List V) (H : Heap) : callW DC d (.fn 18 []) xs H = match sealL H xs with
    | some (ys, bs) => match bodyW DC 18 ys [] with
      | some (r, H') => some (ren (shift H.length) r, (if hasRo r || H'.any hasRoB then freeze H bs else H) ++ H'.map (renB (shift H.length)))
      | none => none
    | none => if d then none else bodyW DC 18 xs H := callW_body rfl rfl rfl
@[simp] theorem call19 (d : Bool) (xs : List V) (H : Heap) : callW DC d (.fn 19 []) xs H = match sealL H xs with
    | some (ys, bs) => match bodyW DC 19 ys [] with
      | some (r, H') => some (ren (shift H.length) r, (if hasRo r || H'.any hasRoB then freeze H bs else H) ++ H'.map (renB (shift H.length)))
      | none => none
    | none => if d then none else bodyW DC 19 xs H := callW_body rfl rfl rfl
@[simp] theorem call20 (d : Bool) (xs : List V) (H : Heap) : callW DC d (.fn 20 []) xs H = match sealL H xs with
    | some (ys, bs) => match bodyW DC 20 ys [] with
      | some (r, H') => some (ren (shift H.length) r, (if hasRo r || H'.any hasRoB then freeze H bs else H) ++ H'.map (renB (shift H.length)))
      | none => none
    | none => if d then none else bodyW DC 20 xs H := callW_body rfl rfl rfl
@[simp] theorem call21 (d : Bool) (xs : List V) (H : Heap) : callW DC d (.fn 21 []) xs H = match sealL H xs with
    | some (ys, bs) => match bodyW DC 21 ys [] with
      | some (r, H') => some (ren (shift H.length) r, (if hasRo r || H'.any hasRoB then freeze H bs else H) ++ H'.map (renB (shift H.length)))
      | none => none
    | none => if d then none else bodyW DC 21 xs H := callW_body rfl rfl rfl
@[simp] theorem call22 (d : Bool) (xs : List V) (H : Heap) : callW DC d (.fn 22 []) xs H = match sealL H xs with
    | some (ys, bs) => match bodyW DC 22 ys [] with
      | some (r, H') => some (ren (shift H.length) r, (if hasRo r || H'.any hasRoB then freeze H bs else H) ++ H'.map (renB (shift H.length)))
      | none => none
    | none => if d then none else bodyW DC 22 xs H := callW_body rfl rfl rfl
@[simp] theorem call23 (d : Bool) (xs : List V) (H : Heap) : callW DC d (.fn 23 []) xs H = match sealL H xs with
    | some (ys, bs) => match bodyW DC 23 ys [] with
      | some (r, H') => some (ren (shift H.length) r, (if hasRo r || H'.any hasRoB then freeze H bs else H) ++ H'.map (renB (shift H.length)))
      | none => none
    | none => if d then none else bodyW DC 23 xs H := callW_body rfl rfl rfl
@[simp] theorem call25 (d : Bool) (xs : List V) (H : Heap) : callW DC d (.fn 25 []) xs H = match sealL H xs with
    | some (ys, bs) => match bodyW DC 25 ys [] with
      | some (r, H') => some (ren (shift H.length) r, (if hasRo r || H'.any hasRoB then freeze H bs else H) ++ H'.map (renB (shift H.length)))
      | none => none
    | none => if d then none else bodyW DC 25 xs H := callW_body rfl rfl rfl
@[simp] theorem call27 (d : Bool) (xs : List V) (H : Heap) : callW DC d (.fn 27 []) xs H = match sealL H xs with
    | some (ys, bs) => match bodyW DC 27 ys [] with
      | some (r, H') => some (ren (shift H.length) r, (if hasRo r || H'.any hasRoB then freeze H bs else H) ++ H'.map (renB (shift H.length)))
      | none => none
    | none => if d then none else bodyW DC 27 xs H := callW_body rfl rfl rfl
@[simp] theorem call28 (d : Bool) (xs : List V) (H : Heap) : callW DC d (.fn 28 []) xs H = match sealL H xs with
    | some (ys, bs) => match bodyW DC 28 ys [] with
      | some (r, H') => some (ren (shift H.length) r, (if hasRo r || H'.any hasRoB then freeze H bs else H) ++ H'.map (renB (shift H.length)))
      | none => none
    | none => if d then none else bodyW DC 28 xs H := callW_body rfl rfl rfl
@[simp] theorem call31 (d : Bool) (xs : List V) (H : Heap) : callW DC d (.fn 31 []) xs H = match sealL H xs with
    | some (ys, bs) => match bodyW DC 31 ys [] with
      | some (r, H') => some (ren (shift H.length) r, (if hasRo r || H'.any hasRoB then freeze H bs else H) ++ H'.map (renB (shift H.length)))
      | none => none
    | none => if d then none else bodyW DC 31 xs H := callW_body rfl rfl rfl
@[simp] theorem call32 (d : Bool) (xs : List V) (H : Heap) : callW DC d (.fn 32 []) xs H = match sealL H xs with
    | some (ys, bs) => match bodyW DC 32 ys [] with
      | some (r, H') => some (ren (shift H.length) r, (if hasRo r || H'.any hasRoB then freeze H bs else H) ++ H'.map (renB (shift H.length)))
      | none => none
    | none => if d then none else bodyW DC 32 xs H := callW_body rfl rfl rfl
@[simp] theorem call34 (d : Bool) (xs : List V) (H : Heap) : callW DC d (.fn 34 []) xs H = match sealL H xs with
    | some (ys, bs) => match bodyW DC 34 ys [] with
      | some (r, H') => some (ren (shift H.length) r, (if hasRo r || H'.any hasRoB then freeze H bs else H) ++ H'.map (renB (shift H.length)))
      | none => none
    | none => if d then none else bodyW DC 34 xs H := callW_body rfl rfl rfl
@[simp] theorem call36 (d : Bool) (xs : List V) (H : Heap) : callW DC d (.fn 36 []) xs H = match sealL H xs with
    | some (ys, bs) => match bodyW DC 36 ys [] with
      | some (r, H') => some (ren (shift H.length) r, (if hasRo r || H'.any hasRoB then freeze H bs else H) ++ H'.map (renB (shift H.length)))
      | none => none
    | none => if d then none else bodyW DC 36 xs H := callW_body rfl rfl rfl
@[simp] theorem call37 (d : Bool) (xs : List V) (H : Heap) : callW DC d (.fn 37 []) xs H = match sealL H xs with
    | some (ys, bs) => match bodyW DC 37 ys [] with
      | some (r, H') => some (ren (shift H.length) r, (if hasRo r || H'.any hasRoB then freeze H bs else H) ++ H'.map (renB (shift H.length)))
      | none => none
    | none => if d then none else bodyW DC 37 xs H := callW_body rfl rfl rfl
@[simp] theorem call38 (d : Bool) (xs : List V) (H : Heap) : callW DC d (.fn 38 []) xs H = match sealL H xs with
    | some (ys, bs) => match bodyW DC 38 ys [] with
      | some (r, H') => some (ren (shift H.length) r, (if hasRo r || H'.any hasRoB then freeze H bs else H) ++ H'.map (renB (shift H.length)))
      | none => none
    | none => if d then none else bodyW DC 38 xs H := callW_body rfl rfl rfl
@[simp] theorem call39 (d : Bool) (xs : List V) (H : Heap) : callW DC d (.fn 39 []) xs H = match sealL H xs with
    | some (ys, bs) => match bodyW DC 39 ys [] with
      | some (r, H') => some (ren (shift H.length) r, (if hasRo r || H'.any hasRoB then freeze H bs else H) ++ H'.map (renB (shift H.length)))
      | none => none
    | none => if d then none else bodyW DC 39 xs H := callW_body rfl rfl rfl
@[simp] theorem call41 (d : Bool) (xs : List V) (H : Heap) : callW DC d (.fn 41 []) xs H = match sealL H xs with
    | some (ys, bs) => match bodyW DC 41 ys [] with
      | some (r, H') => some (ren (shift H.length) r, (if hasRo r || H'.any hasRoB then freeze H bs else H) ++ H'.map (renB (shift H.length)))
      | none => none
    | none => if d then none else bodyW DC 41 xs H := callW_body rfl rfl rfl
@[simp] theorem call42 (d : Bool) (xs : List V) (H : Heap) : callW DC d (.fn 42 []) xs H = match sealL H xs with
    | some (ys, bs) => match bodyW DC 42 ys [] with
      | some (r, H') => some (ren (shift H.length) r, (if hasRo r || H'.any hasRoB then freeze H bs else H) ++ H'.map (renB (shift H.length)))
      | none => none
    | none => if d then none else bodyW DC 42 xs H := callW_body rfl rfl rfl
@[simp] theorem call43 (d : Bool) (xs : List V) (H : Heap) : callW DC d (.fn 43 []) xs H = match sealL H xs with
    | some (ys, bs) => match bodyW DC 43 ys [] with
      | some (r, H') => some (ren (shift H.length) r, (if hasRo r || H'.any hasRoB then freeze H bs else H) ++ H'.map (renB (shift H.length)))
      | none => none
    | none => if d then none else bodyW DC 43 xs H := callW_body rfl rfl rfl
@[simp] theorem call44 (d : Bool) (xs : List V) (H : Heap) : callW DC d (.fn 44 []) xs H = match sealL H xs with
    | some (ys, bs) => match bodyW DC 44 ys [] with
      | some (r, H') => some (ren (shift H.length) r, (if hasRo r || H'.any hasRoB then freeze H bs else H) ++ H'.map (renB (shift H.length)))
      | none => none
    | none => if d then none else bodyW DC 44 xs H := callW_body rfl rfl rfl
@[simp] theorem call45 (d : Bool) (xs : List V) (H : Heap) : callW DC d (.fn 45 []) xs H = match sealL H xs with
    | some (ys, bs) => match bodyW DC 45 ys [] with
      | some (r, H') => some (ren (shift H.length) r, (if hasRo r || H'.any hasRoB then freeze H bs else H) ++ H'.map (renB (shift H.length)))
      | none => none
    | none => if d then none else bodyW DC 45 xs H := callW_body rfl rfl rfl
@[simp] theorem call47 (d : Bool) (xs : List V) (H : Heap) : callW DC d (.fn 47 []) xs H = match sealL H xs with
    | some (ys, bs) => match bodyW DC 47 ys [] with
      | some (r, H') => some (ren (shift H.length) r, (if hasRo r || H'.any hasRoB then freeze H bs else H) ++ H'.map (renB (shift H.length)))
      | none => none
    | none => if d then none else bodyW DC 47 xs H := callW_body rfl rfl rfl
@[simp] theorem call48 (d : Bool) (xs : List V) (H : Heap) : callW DC d (.fn 48 []) xs H = match sealL H xs with
    | some (ys, bs) => match bodyW DC 48 ys [] with
      | some (r, H') => some (ren (shift H.length) r, (if hasRo r || H'.any hasRoB then freeze H bs else H) ++ H'.map (renB (shift H.length)))
      | none => none
    | none => if d then none else bodyW DC 48 xs H := callW_body rfl rfl rfl
@[simp] theorem call26 (d : Bool) (xs : List V) (H : Heap) : callW DC d (.fn 26 []) xs H = match sealL H xs with
    | some (ys, bs) => match repeatX ys with
      | some (r, H') => some (ren (shift H.length) r, (if hasRo r || H'.any hasRoB then freeze H bs else H) ++ H'.map (renB (shift H.length)))
      | none => none
    | none => if d then none else bodyW DC 26 xs H := callW_ext rfl rfl rfl
@[simp] theorem call29 (d : Bool) (xs : List V) (H : Heap) : callW DC d (.fn 29 []) xs H = match sealL H xs with
    | some (ys, bs) => match cloneX 1 16 ys with
      | some (r, H') => some (ren (shift H.length) r, (if hasRo r || H'.any hasRoB then freeze H bs else H) ++ H'.map (renB (shift H.length)))
      | none => none
    | none => if d then none else bodyW DC 29 xs H := callW_ext rfl rfl rfl
@[simp] theorem call30 (d : Bool) (xs : List V) (H : Heap) : callW DC d (.fn 30 []) xs H = match sealL H xs with
    | some (ys, bs) => match cloneX 1 8 ys with
      | some (r, H') => some (ren (shift H.length) r, (if hasRo r || H'.any hasRoB then freeze H bs else H) ++ H'.map (renB (shift H.length)))
      | none => none
    | none => if d then none else bodyW DC 30 xs H := callW_ext rfl rfl rfl
@[simp] theorem call35 (d : Bool) (xs : List V) (H : Heap) : callW DC d (.fn 35 []) xs H = match sealL H xs with
    | some (ys, bs) => match mulX ys with
      | some (r, H') => some (ren (shift H.length) r, (if hasRo r || H'.any hasRoB then freeze H bs else H) ++ H'.map (renB (shift H.length)))
      | none => none
    | none => if d then none else bodyW DC 35 xs H := callW_ext rfl rfl rfl
@[simp] theorem call24 (xs : List V) (H : Heap) : callW DC false (.fn 24 []) xs H = insAt1X xs H := callW_extE rfl
@[simp] theorem call40 (xs : List V) (H : Heap) : callW DC false (.fn 40 []) xs H = strX 67 5 xs H := callW_extE rfl
@[simp] theorem call46 (xs : List V) (H : Heap) : callW DC false (.fn 46 []) xs H = copyX 67 xs H := callW_extE rfl
theorem DC_body (f : FuncId) (b : Body) (h : DC.body f = some b) : ∃ fn, DC.P.funcs[f]? = some fn ∧ fn.name ≠ "runtime.NumGoroutine" ∧ fn.body = some b.code ∧ fn.results.toList = b.results ∧ fn.ntmps = b.ntmps ∧ codeOk DC.P DC.loud (DC.free f) b.ntmps b.code = true := by
  unfold DC at h ⊢
  simp only at h ⊢
  split at h
  · exact good_body Try.func3 (by decide) (by kernel_rfl) h
  · exact good_body Try.func4 (by decide) (by kernel_rfl) h
  · exact good_body Try.func5 (by decide) (by kernel_rfl) h
  · exact good_body Try.func6 (by decide) (by kernel_rfl) h
  · exact good_body Try.func7 (by decide) (by kernel_rfl) h
  · exact good_body Try.func8 (by decide) (by kernel_rfl) h
  · exact good_body Try.func9 (by decide) (by kernel_rfl) h
  · exact good_body Try.func10 (by decide) (by kernel_rfl) h
  · exact good_body Try.func11 (by decide) (by kernel_rfl) h
  · exact good_body Try.func12 (by decide) (by kernel_rfl) h
  · exact good_body Try.func13 (by decide) (by kernel_rfl) h
  · exact good_body Try.func14 (by decide) (by kernel_rfl) h
  · exact good_body Try.func15 (by decide) (by kernel_rfl) h
  · exact good_body Try.func16 (by decide) (by kernel_rfl) h
  · exact good_body Try.func17 (by decide) (by kernel_rfl) h
  · exact good_body Try.func18 (by decide) (by kernel_rfl) h
  · exact good_body Try.func19 (by decide) (by kernel_rfl) h
  · exact good_body Try.func20 (by decide) (by kernel_rfl) h
  · exact good_body Try.func21 (by decide) (by kernel_rfl) h
  · exact good_body Try.func22 (by decide) (by kernel_rfl) h
  · exact good_body Try.func23 (by decide) (by kernel_rfl) h
  · exact good_body Try.func25 (by decide) (by kernel_rfl) h
  · exact good_body Try.func27 (by decide) (by kernel_rfl) h
  · exact good_body Try.func28 (by decide) (by kernel_rfl) h
  · exact good_body Try.func31 (by decide) (by kernel_rfl) h
  · exact good_body Try.func32 (by decide) (by kernel_rfl) h
  · exact good_body Try.func34 (by decide) (by kernel_rfl) h
  · exact good_body Try.func36 (by decide) (by kernel_rfl) h
  · exact good_body Try.func37 (by decide) (by kernel_rfl) h
  · exact good_body Try.func38 (by decide) (by kernel_rfl) h
  · exact good_body Try.func39 (by decide) (by kernel_rfl) h
  · exact good_body Try.func41 (by decide) (by kernel_rfl) h
  · exact good_body Try.func42 (by decide) (by kernel_rfl) h
  · exact good_body Try.func43 (by decide) (by kernel_rfl) h
  · exact good_body Try.func44 (by decide) (by kernel_rfl) h
  · exact good_body Try.func45 (by decide) (by kernel_rfl) h
  · exact good_body Try.func47 (by decide) (by kernel_rfl) h
  · exact good_body Try.func48 (by decide) (by kernel_rfl) h
  · cases h
theorem DC_fn24 : FnOk DC.P 24 := ⟨_, Try.func24, by decide, by simp [Try.f24]⟩
theorem DC_fn26 : FnOk DC.P 26 := ⟨_, Try.func26, by decide, by simp [Try.f26]⟩
theorem DC_fn29 : FnOk DC.P 29 := ⟨_, Try.func29, by decide, by simp [Try.f29]⟩
theorem DC_fn30 : FnOk DC.P 30 := ⟨_, Try.func30, by decide, by simp [Try.f30]⟩
theorem DC_fn35 : FnOk DC.P 35 := ⟨_, Try.func35, by decide, by simp [Try.f35]⟩
theorem DC_fn40 : FnOk DC.P 40 := ⟨_, Try.func40, by decide, by simp [Try.f40]⟩
theorem DC_fn46 : FnOk DC.P 46 := ⟨_, Try.func46, by decide, by simp [Try.f46]⟩
end Go.Abs
