/- Proved here: the context in which this seat is evaluated. No condition but those that each theorem states. -/
import Derived.Test.YtfgikfagblhkiaaGreatDoorA7
import Derived.Test.YtfgikfagblhkiaaGreatDoorRows
namespace Go.Abs
open Go.Proofs
set_option maxRecDepth 100000
set_option linter.unusedVariables false
set_option linter.unusedSimpArgs false

noncomputable def DCB0 (f : FuncId) : Option Body := match f with
  | 3 => bodyOf Tryz.f3
  | 4 => bodyOf Tryz.f4
  | 5 => bodyOf Tryz.f5
  | 6 => bodyOf Tryz.f6
  | 7 => bodyOf Tryz.f7
  | 8 => bodyOf Tryz.f8
  | 9 => bodyOf Tryz.f9
  | 10 => bodyOf Tryz.f10
  | 11 => bodyOf Tryz.f11
  | 12 => bodyOf Tryz.f12
  | 13 => bodyOf Tryz.f13
  | 14 => bodyOf Tryz.f14
  | 15 => bodyOf Tryz.f15
  | 16 => bodyOf Tryz.f16
  | 17 => bodyOf Tryz.f17
  | 18 => bodyOf Tryz.f18
  | 19 => bodyOf Tryz.f19
  | 20 => bodyOf Tryz.f20
  | 21 => bodyOf Tryz.f21
  | 22 => bodyOf Tryz.f22
  | 23 => bodyOf Tryz.f23
  | 24 => bodyOf Tryz.f24
  | 25 => bodyOf Tryz.f25
  | 26 => bodyOf Tryz.f26
  | 27 => bodyOf Tryz.f27
  | 28 => bodyOf Tryz.f28
  | 29 => bodyOf Tryz.f29
  | 30 => bodyOf Tryz.f30
  | 31 => bodyOf Tryz.f31
  | 32 => bodyOf Tryz.f32
  | 33 => bodyOf Tryz.f33
  | 34 => bodyOf Tryz.f34
  | 35 => bodyOf Tryz.f35
  | 36 => bodyOf Tryz.f36
  | 37 => bodyOf Tryz.f37
  | 38 => bodyOf Tryz.f38
  | 39 => bodyOf Tryz.f39
  | 40 => bodyOf Tryz.f40
  | 41 => bodyOf Tryz.f41
  | 42 => bodyOf Tryz.f42
  | _ => none
noncomputable def DCB1 (f : FuncId) : Option Body := match f with
  | 43 => bodyOf Tryz.f43
  | 44 => bodyOf Tryz.f44
  | 45 => bodyOf Tryz.f45
  | 46 => bodyOf Tryz.f46
  | 47 => bodyOf Tryz.f47
  | 48 => bodyOf Tryz.f48
  | 49 => bodyOf Tryz.f49
  | 50 => bodyOf Tryz.f50
  | 51 => bodyOf Tryz.f51
  | 53 => bodyOf Tryz.f53
  | 54 => bodyOf Tryz.f54
  | 55 => bodyOf Tryz.f55
  | 56 => bodyOf Tryz.f56
  | 57 => bodyOf Tryz.f57
  | 58 => bodyOf Tryz.f58
  | 59 => bodyOf Tryz.f59
  | 60 => bodyOf Tryz.f60
  | 61 => bodyOf Tryz.f61
  | 62 => bodyOf Tryz.f62
  | 63 => bodyOf Tryz.f63
  | 64 => bodyOf Tryz.f64
  | 65 => bodyOf Tryz.f65
  | 66 => bodyOf Tryz.f66
  | 67 => bodyOf Tryz.f67
  | 68 => bodyOf Tryz.f68
  | 69 => bodyOf Tryz.f69
  | 70 => bodyOf Tryz.f70
  | 71 => bodyOf Tryz.f71
  | 72 => bodyOf Tryz.f72
  | 73 => bodyOf Tryz.f73
  | 74 => bodyOf Tryz.f74
  | 75 => bodyOf Tryz.f75
  | 76 => bodyOf Tryz.f76
  | 77 => bodyOf Tryz.f77
  | 78 => bodyOf Tryz.f78
  | 79 => bodyOf Tryz.f79
  | 80 => bodyOf Tryz.f80
  | 81 => bodyOf Tryz.f81
  | 82 => bodyOf Tryz.f82
  | 83 => bodyOf Tryz.f83
  | _ => none
noncomputable def DCB2 (f : FuncId) : Option Body := match f with
  | 84 => bodyOf Tryz.f84
  | 85 => bodyOf Tryz.f85
  | 86 => bodyOf Tryz.f86
  | 87 => bodyOf Tryz.f87
  | 88 => bodyOf Tryz.f88
  | 89 => bodyOf Tryz.f89
  | 90 => bodyOf Tryz.f90
  | 91 => bodyOf Tryz.f91
  | 92 => bodyOf Tryz.f92
  | 93 => bodyOf Tryz.f93
  | 94 => bodyOf Tryz.f94
  | 95 => bodyOf Tryz.f95
  | 96 => bodyOf Tryz.f96
  | 97 => bodyOf Tryz.f97
  | 98 => bodyOf Tryz.f98
  | 99 => bodyOf Tryz.f99
  | 100 => bodyOf Tryz.f100
  | 101 => bodyOf Tryz.f101
  | 102 => bodyOf Tryz.f102
  | 103 => bodyOf Tryz.f103
  | 104 => bodyOf Tryz.f104
  | 105 => bodyOf Tryz.f105
  | 106 => bodyOf Tryz.f106
  | 107 => bodyOf Tryz.f107
  | 108 => bodyOf Tryz.f108
  | 109 => bodyOf Tryz.f109
  | 110 => bodyOf Tryz.f110
  | 111 => bodyOf Tryz.f111
  | 112 => bodyOf Tryz.f112
  | 113 => bodyOf Tryz.f113
  | 114 => bodyOf Tryz.f114
  | 115 => bodyOf Tryz.f115
  | 116 => bodyOf Tryz.f116
  | 117 => bodyOf Tryz.f117
  | 118 => bodyOf Tryz.f118
  | 119 => bodyOf Tryz.f119
  | 120 => bodyOf Tryz.f120
  | 121 => bodyOf Tryz.f121
  | 122 => bodyOf Tryz.f122
  | 124 => bodyOf Tryz.f124
  | _ => none
noncomputable def DCB3 (f : FuncId) : Option Body := match f with
  | 125 => bodyOf Tryz.f125
  | 126 => bodyOf Tryz.f126
  | 127 => bodyOf Tryz.f127
  | 129 => bodyOf Tryz.f129
  | 130 => bodyOf Tryz.f130
  | 131 => bodyOf Tryz.f131
  | 132 => bodyOf Tryz.f132
  | 133 => bodyOf Tryz.f133
  | 134 => bodyOf Tryz.f134
  | 135 => bodyOf Tryz.f135
  | 136 => bodyOf Tryz.f136
  | 137 => bodyOf Tryz.f137
  | 138 => bodyOf Tryz.f138
  | 139 => bodyOf Tryz.f139
  | 140 => bodyOf Tryz.f140
  | 142 => bodyOf Tryz.f142
  | 143 => bodyOf Tryz.f143
  | 144 => bodyOf Tryz.f144
  | 145 => bodyOf Tryz.f145
  | 146 => bodyOf Tryz.f146
  | 147 => bodyOf Tryz.f147
  | 150 => bodyOf Tryz.f150
  | 151 => bodyOf Tryz.f151
  | 152 => bodyOf Tryz.f152
  | 153 => bodyOf Tryz.f153
  | 154 => bodyOf Tryz.f154
  | 155 => bodyOf Tryz.f155
  | 156 => bodyOf Tryz.f156
  | 157 => bodyOf Tryz.f157
  | 158 => bodyOf Tryz.f158
  | 159 => bodyOf Tryz.f159
  | 160 => bodyOf Tryz.f160
  | 161 => bodyOf Tryz.f161
  | 162 => bodyOf Tryz.f162
  | 163 => bodyOf Tryz.f163
  | 164 => bodyOf Tryz.f164
  | 165 => bodyOf Tryz.f165
  | 166 => bodyOf Tryz.f166
  | 167 => bodyOf Tryz.f167
  | 168 => bodyOf Tryz.f168
  | _ => none
noncomputable def DCB4 (f : FuncId) : Option Body := match f with
  | 169 => bodyOf Tryz.f169
  | 171 => bodyOf Tryz.f171
  | 172 => bodyOf Tryz.f172
  | 173 => bodyOf Tryz.f173
  | 175 => bodyOf Tryz.f175
  | 176 => bodyOf Tryz.f176
  | 179 => bodyOf Tryz.f179
  | 180 => bodyOf Tryz.f180
  | 181 => bodyOf Tryz.f181
  | 182 => bodyOf Tryz.f182
  | 183 => bodyOf Tryz.f183
  | 184 => bodyOf Tryz.f184
  | 185 => bodyOf Tryz.f185
  | 186 => bodyOf Tryz.f186
  | 187 => bodyOf Tryz.f187
  | 188 => bodyOf Tryz.f188
  | 189 => bodyOf Tryz.f189
  | 190 => bodyOf Tryz.f190
  | 191 => bodyOf Tryz.f191
  | 192 => bodyOf Tryz.f192
  | 193 => bodyOf Tryz.f193
  | 194 => bodyOf Tryz.f194
  | 195 => bodyOf Tryz.f195
  | 196 => bodyOf Tryz.f196
  | 197 => bodyOf Tryz.f197
  | 199 => bodyOf Tryz.f199
  | 200 => bodyOf Tryz.f200
  | 201 => bodyOf Tryz.f201
  | 202 => bodyOf Tryz.f202
  | 203 => bodyOf Tryz.f203
  | 204 => bodyOf Tryz.f204
  | 205 => bodyOf Tryz.f205
  | 206 => bodyOf Tryz.f206
  | 207 => bodyOf Tryz.f207
  | 208 => bodyOf Tryz.f208
  | 209 => bodyOf Tryz.f209
  | 210 => bodyOf Tryz.f210
  | 212 => bodyOf Tryz.f212
  | 216 => bodyOf Tryz.f216
  | 217 => bodyOf Tryz.f217
  | _ => none
noncomputable def DCB5 (f : FuncId) : Option Body := match f with
  | 218 => bodyOf Tryz.f218
  | 222 => bodyOf Tryz.f222
  | 223 => bodyOf Tryz.f223
  | 224 => bodyOf Tryz.f224
  | 225 => bodyOf Tryz.f225
  | 226 => bodyOf Tryz.f226
  | 228 => bodyOf Tryz.f228
  | _ => none
def DF22 : Nat → List Nat := fun k => if k = 26 then [97] else []
def DF32 : Nat → List Nat := fun k => if k = 21 then [80] else []
def DF103 : Nat → List Nat := fun k => if k = 5 then [27] else []
def DF150 : Nat → List Nat := fun k => if k = 7 then [45] else []

noncomputable def DC : Ctx where
  P := Tryz.prog
  ext f := match f with
    | 123 => some (splitX)
    | 128 => some (cloneX 2 24)
    | 148 => some (repeatX)
    | 170 => some (compareX)
    | 178 => some (mulX)
    | 213 => some (cloneX 1 16)
    | 214 => some (cloneX 1 8)
    | 220 => some (indexByteX)
    | _ => none
  extE f := match f with
    | 141 => some (insAtX 24)
    | 149 => some (strX 185 5)
    | 177 => some (copyX 185)
    | _ => none
  keep f k := match f, k with
    | 7, 4 => some [1, 2, 5]
    | 10, 2 => some [1, 3]
    | 14, 4 => some [0, 1, 5]
    | 23, 8 => some [1, 3, 5, 6]
    | 23, 15 => some [1, 3, 5, 9]
    | 23, 21 => some [1, 3, 5, 12]
    | 23, 25 => some [1, 3, 5, 12, 13, 15]
    | 23, 32 => some [1, 3, 5, 16, 17]
    | 23, 38 => some [1, 3, 5, 18, 19]
    | 23, 44 => some [1, 5, 20, 21]
    | 26, 4 => some [0, 1, 5]
    | 29, 7 => some [1, 7, 9]
    | 29, 21 => some [10, 11, 12, 13]
    | 30, 13 => some [1, 7, 9, 10]
    | 31, 3 => some [5, 6]
    | 37, 5 => some [0, 1, 4, 6, 7]
    | 41, 2 => some [1, 8, 9, 10]
    | 42, 2 => some [1, 4]
    | 43, 2 => some [6, 7, 8]
    | 50, 2 => some [1, 4]
    | 53, 10 => some [0, 1, 2, 8]
    | 57, 3 => some [2, 3, 6, 15, 16, 17]
    | 60, 3 => some [2, 3, 6, 7]
    | 61, 2 => some [1, 2, 3, 6, 9]
    | 63, 8 => some [0, 5, 6, 7]
    | 64, 2 => some [1, 2, 3, 8]
    | 66, 2 => some [1, 3, 14, 15, 16]
    | 72, 5 => some [1, 2, 4, 5, 7]
    | 72, 11 => some [1, 2, 8, 9]
    | 74, 3 => some [1, 4, 5, 6]
    | 74, 6 => some [1, 4, 5, 6, 7]
    | 77, 3 => some [1, 2, 3, 4]
    | 77, 7 => some [1, 2, 3, 4, 5, 7]
    | 78, 4 => some [1, 2, 3, 4]
    | 78, 7 => some [1, 2, 3, 4, 5]
    | 78, 11 => some [1, 2, 3, 4, 5, 6, 8]
    | 79, 3 => some [1, 3, 4]
    | 79, 7 => some [1, 3, 4, 5, 6]
    | 79, 10 => some [1, 3, 4, 5, 6, 7]
    | 83, 3 => some [0, 3, 4]
    | 83, 6 => some [0, 3, 4, 5]
    | 84, 5 => some [0, 1, 5, 6]
    | 85, 2 => some [3]
    | 86, 2 => some [1, 2, 5]
    | 87, 7 => some [0, 1, 6, 9, 10, 11]
    | 88, 3 => some [2, 3, 5, 6]
    | 91, 2 => some [0, 1, 5]
    | 95, 3 => some [0, 1, 5, 6]
    | 106, 7 => some [4, 15, 16, 17]
    | 108, 2 => some [0, 1, 5]
    | 110, 7 => some [1, 3, 4]
    | 111, 3 => some [1, 3, 4]
    | 112, 4 => some [0, 3]
    | 113, 7 => some [0, 4, 5]
    | 113, 11 => some [0, 4, 5, 6]
    | 114, 24 => some [1, 2, 3, 6, 7, 9, 10, 11, 12, 13, 16]
    | 114, 28 => some [1, 2, 3, 6, 7, 10, 11, 12, 13, 17]
    | 117, 5 => some [0, 2, 4, 5]
    | 124, 2 => some [0, 1, 7, 8]
    | 125, 5 => some [0, 4, 5]
    | 130, 2 => some [1, 2, 5]
    | 133, 3 => some [2, 3, 4, 5, 9, 10]
    | 133, 6 => some [2, 3, 4, 5, 9, 10, 11]
    | 134, 3 => some [2, 3, 6, 7]
    | 135, 5 => some [0, 4, 5]
    | 135, 11 => some [0, 4, 5, 6, 7, 8]
    | 136, 4 => some [1, 3]
    | 136, 9 => some [1, 4]
    | 137, 7 => some [0, 1, 2, 9, 10]
    | 139, 4 => some [21, 22, 23]
    | 143, 7 => some [3, 46, 47]
    | 144, 3 => some [3, 18, 19]
    | 145, 3 => some [0, 3, 6, 7, 8]
    | 147, 3 => some [0, 5, 12, 13]
    | 150, 10 => some [0, 3, 5, 6, 7]
    | 151, 2 => some [0, 14, 15]
    | 155, 2 => some [0, 3]
    | 156, 6 => some [4, 5, 7, 8]
    | 157, 2 => some [2, 3, 4, 6, 7]
    | 160, 3 => some [3, 8, 9, 10]
    | 162, 2 => some [1, 2, 5]
    | 163, 3 => some [0, 3, 4]
    | 164, 5 => some [0, 4, 15, 16]
    | 166, 7 => some [0, 1, 2, 9, 10]
    | 168, 3 => some [0, 1, 2, 8, 9, 10]
    | 171, 4 => some [1, 19, 20, 21]
    | 171, 11 => some [1, 5, 30, 31, 32]
    | 176, 4 => some [1, 2, 3, 6, 9, 17, 18, 19]
    | 182, 6 => some [4, 5, 7, 8]
    | 183, 5 => some [2, 6, 8, 9, 23, 24, 25]
    | 185, 4 => some [5]
    | 186, 5 => some [1, 2, 6, 8, 9, 11]
    | 187, 0 => some [0, 1]
    | 189, 1 => some [0, 1]
    | 190, 2 => some [0, 2, 4]
    | 191, 1 => some [0, 1]
    | 192, 1 => some [0, 1]
    | 209, 10 => some [0, 4, 5, 6]
    | 212, 1 => some [0, 2, 3]
    | 216, 15 => some [0, 1, 5, 6, 7, 8, 9, 10]
    | 223, 5 => some [0, 1, 5, 6, 7, 8, 9]
    | 223, 11 => some [0, 1, 5, 6, 7, 8, 10]
    | 228, 3 => some [0, 4, 5]
    | 228, 8 => some [4, 6, 7, 8]
    | _, _ => none
  body f := bif Nat.ble f 42 then DCB0 f else bif Nat.ble f 83 then DCB1 f else bif Nat.ble f 124 then DCB2 f else bif Nat.ble f 168 then DCB3 f else bif Nat.ble f 217 then DCB4 f else DCB5 f
  free f := match f with
    | 22 => DF22
    | 32 => DF32
    | 103 => DF103
    | 150 => DF150
    | _ => fun _ => []
  direct f := ([127] : List Nat).contains f
  loud f := ([44, 45, 46, 70, 103, 107, 146, 149, 150, 151, 152, 153, 180] : List Nat).contains f

@[simp] theorem DC_loud (f : FuncId) : DC.loud f = ([44, 45, 46, 70, 103, 107, 146, 149, 150, 151, 152, 153, 180] : List Nat).contains f := rfl
@[simp] theorem DCP : DC.P = Tryz.prog := rfl
@[simp] theorem call127 (xs : List V) (H : Heap) : callW DC false (.fn 127 []) xs H = bodyW DC 127 xs H := callW_direct rfl rfl
@[simp] theorem call3 (d : Bool) (xs : List V) (H : Heap) : callW DC d (.fn 3 []) xs H = match sealL H xs with
    | some (ys, bs) => match bodyW DC 3 ys [] with
      | some (r, H') => some (ren (shift H.length) r, (if hasRo r || H'.any hasRoB then freeze H bs else H) ++ H'.map (renB (shift H.length)))
      | none => none
    | none => if d then none else bodyW DC 3 xs H := callW_body rfl rfl rfl
@[simp] theorem call4 (d : Bool) (xs : List V) (H : Heap) : callW DC d (.fn 4 []) xs H = match sealL H xs with
    | some (ys, bs) => match bodyW DC 4 ys [] with
      | some (r, H') => some (ren (shift H.length) r, (if hasRo r || H'.any hasRoB then freeze H bs else H) ++ H'.map (renB (shift H.length)))
      | none => none
    | none => if d then none else bodyW DC 4 xs H := callW_body rfl rfl rfl
@[simp] theorem call5 (d : Bool) (xs : List V) (H : Heap) : callW DC d (.fn 5 []) xs H = match sealL H xs with
    | some (ys, bs) => match bodyW DC 5 ys [] with
      | some (r, H') => some (ren (shift H.length) r, (if hasRo r || H'.any hasRoB then freeze H bs else H) ++ H'.map (renB (shift H.length)))
      | none => none
    | none => if d then none else bodyW DC 5 xs H := callW_body rfl rfl rfl
@[simp] theorem call6 (d : Bool) (xs : List V) (H : Heap) : callW DC d (.fn 6 []) xs H = match sealL H xs with
    | some (ys, bs) => match bodyW DC 6 ys [] with
      | some (r, H') => some (ren (shift H.length) r, (if hasRo r || H'.any hasRoB then freeze H bs else H) ++ H'.map (renB (shift H.length)))
      | none => none
    | none => if d then none else bodyW DC 6 xs H := callW_body rfl rfl rfl
@[simp] theorem call7 (d : Bool) (xs : List V) (H : Heap) : callW DC d (.fn 7 []) xs H = match sealL H xs with
    | some (ys, bs) => match bodyW DC 7 ys [] with
      | some (r, H') => some (ren (shift H.length) r, (if hasRo r || H'.any hasRoB then freeze H bs else H) ++ H'.map (renB (shift H.length)))
      | none => none
    | none => if d then none else bodyW DC 7 xs H := callW_body rfl rfl rfl
@[simp] theorem call8 (d : Bool) (xs : List V) (H : Heap) : callW DC d (.fn 8 []) xs H = match sealL H xs with
    | some (ys, bs) => match bodyW DC 8 ys [] with
      | some (r, H') => some (ren (shift H.length) r, (if hasRo r || H'.any hasRoB then freeze H bs else H) ++ H'.map (renB (shift H.length)))
      | none => none
    | none => if d then none else bodyW DC 8 xs H := callW_body rfl rfl rfl
@[simp] theorem call9 (d : Bool) (xs : List V) (H : Heap) : callW DC d (.fn 9 []) xs H = match sealL H xs with
    | some (ys, bs) => match bodyW DC 9 ys [] with
      | some (r, H') => some (ren (shift H.length) r, (if hasRo r || H'.any hasRoB then freeze H bs else H) ++ H'.map (renB (shift H.length)))
      | none => none
    | none => if d then none else bodyW DC 9 xs H := callW_body rfl rfl rfl
@[simp] theorem call10 (d : Bool) (xs : List V) (H : Heap) : callW DC d (.fn 10 []) xs H = match sealL H xs with
    | some (ys, bs) => match bodyW DC 10 ys [] with
      | some (r, H') => some (ren (shift H.length) r, (if hasRo r || H'.any hasRoB then freeze H bs else H) ++ H'.map (renB (shift H.length)))
      | none => none
    | none => if d then none else bodyW DC 10 xs H := callW_body rfl rfl rfl
@[simp] theorem call11 (d : Bool) (xs : List V) (H : Heap) : callW DC d (.fn 11 []) xs H = match sealL H xs with
    | some (ys, bs) => match bodyW DC 11 ys [] with
      | some (r, H') => some (ren (shift H.length) r, (if hasRo r || H'.any hasRoB then freeze H bs else H) ++ H'.map (renB (shift H.length)))
      | none => none
    | none => if d then none else bodyW DC 11 xs H := callW_body rfl rfl rfl
@[simp] theorem call12 (d : Bool) (xs : List V) (H : Heap) : callW DC d (.fn 12 []) xs H = match sealL H xs with
    | some (ys, bs) => match bodyW DC 12 ys [] with
      | some (r, H') => some (ren (shift H.length) r, (if hasRo r || H'.any hasRoB then freeze H bs else H) ++ H'.map (renB (shift H.length)))
      | none => none
    | none => if d then none else bodyW DC 12 xs H := callW_body rfl rfl rfl
@[simp] theorem call13 (d : Bool) (xs : List V) (H : Heap) : callW DC d (.fn 13 []) xs H = match sealL H xs with
    | some (ys, bs) => match bodyW DC 13 ys [] with
      | some (r, H') => some (ren (shift H.length) r, (if hasRo r || H'.any hasRoB then freeze H bs else H) ++ H'.map (renB (shift H.length)))
      | none => none
    | none => if d then none else bodyW DC 13 xs H := callW_body rfl rfl rfl
@[simp] theorem call14 (d : Bool) (xs : List V) (H : Heap) : callW DC d (.fn 14 []) xs H = match sealL H xs with
    | some (ys, bs) => match bodyW DC 14 ys [] with
      | some (r, H') => some (ren (shift H.length) r, (if hasRo r || H'.any hasRoB then freeze H bs else H) ++ H'.map (renB (shift H.length)))
      | none => none
    | none => if d then none else bodyW DC 14 xs H := callW_body rfl rfl rfl
@[simp] theorem call15 (d : Bool) (xs : List V) (H : Heap) : callW DC d (.fn 15 []) xs H = match sealL H xs with
    | some (ys, bs) => match bodyW DC 15 ys [] with
      | some (r, H') => some (ren (shift H.length) r, (if hasRo r || H'.any hasRoB then freeze H bs else H) ++ H'.map (renB (shift H.length)))
      | none => none
    | none => if d then none else bodyW DC 15 xs H := callW_body rfl rfl rfl
@[simp] theorem call16 (d : Bool) (xs : List V) (H : Heap) : callW DC d (.fn 16 []) xs H = match sealL H xs with
    | some (ys, bs) => match bodyW DC 16 ys [] with
      | some (r, H') => some (ren (shift H.length) r, (if hasRo r || H'.any hasRoB then freeze H bs else H) ++ H'.map (renB (shift H.length)))
      | none => none
    | none => if d then none else bodyW DC 16 xs H := callW_body rfl rfl rfl
@[simp] theorem call17 (d : Bool) (xs : List V) (H : Heap) : callW DC d (.fn 17 []) xs H = match sealL H xs with
    | some (ys, bs) => match bodyW DC 17 ys [] with
      | some (r, H') => some (ren (shift H.length) r, (if hasRo r || H'.any hasRoB then freeze H bs else H) ++ H'.map (renB (shift H.length)))
      | none => none
    | none => if d then none else bodyW DC 17 xs H := callW_body rfl rfl rfl
@[simp] theorem call18 (d : Bool) (xs : List V) (H : Heap) : callW DC d (.fn 18 []) xs H = match sealL H xs with
    | some (ys, bs) => match bodyW DC 18 ys [] with
      | some (r, H') => some (ren (shift H.length) r, (if hasRo r || H'.any hasRoB then freeze H bs else H) ++ H'.map (renB (shift H.length)))
      | none => none
    | none => if d then none else bodyW DC 18 xs H := callW_body rfl rfl rfl
@[simp] theorem call19 (d : Bool) (xs : List V) (H : Heap) : callW DC d (.fn 19 []) xs H = match sealL H xs with
    | some (ys, bs) => match bodyW DC 19 ys [] with
      | some (r, H') => some (ren (shift H.length) r, (if hasRo r || H'.any hasRoB then freeze H bs else H) ++ H'.map (renB (shift H.length)))
      | none => none
    | none => if d then none else bodyW DC 19 xs H := callW_body rfl rfl rfl
@[simp] theorem call20 (d : Bool) (xs : List V) (H : Heap) : callW DC d (.fn 20 []) xs H = match sealL H xs with
    | some (ys, bs) => match bodyW DC 20 ys [] with
      | some (r, H') => some (ren (shift H.length) r, (if hasRo r || H'.any hasRoB then freeze H bs else H) ++ H'.map (renB (shift H.length)))
      | none => none
    | none => if d then none else bodyW DC 20 xs H := callW_body rfl rfl rfl
@[simp] theorem call21 (d : Bool) (xs : List V) (H : Heap) : callW DC d (.fn 21 []) xs H = match sealL H xs with
    | some (ys, bs) => match bodyW DC 21 ys [] with
      | some (r, H') => some (ren (shift H.length) r, (if hasRo r || H'.any hasRoB then freeze H bs else H) ++ H'.map (renB (shift H.length)))
      | none => none
    | none => if d then none else bodyW DC 21 xs H := callW_body rfl rfl rfl
@[simp] theorem call22 (d : Bool) (xs : List V) (H : Heap) : callW DC d (.fn 22 []) xs H = match sealL H xs with
    | some (ys, bs) => match bodyW DC 22 ys [] with
      | some (r, H') => some (ren (shift H.length) r, (if hasRo r || H'.any hasRoB then freeze H bs else H) ++ H'.map (renB (shift H.length)))
      | none => none
    | none => if d then none else bodyW DC 22 xs H := callW_body rfl rfl rfl
@[simp] theorem call23 (d : Bool) (xs : List V) (H : Heap) : callW DC d (.fn 23 []) xs H = match sealL H xs with
    | some (ys, bs) => match bodyW DC 23 ys [] with
      | some (r, H') => some (ren (shift H.length) r, (if hasRo r || H'.any hasRoB then freeze H bs else H) ++ H'.map (renB (shift H.length)))
      | none => none
    | none => if d then none else bodyW DC 23 xs H := callW_body rfl rfl rfl
@[simp] theorem call24 (d : Bool) (xs : List V) (H : Heap) : callW DC d (.fn 24 []) xs H = match sealL H xs with
    | some (ys, bs) => match bodyW DC 24 ys [] with
      | some (r, H') => some (ren (shift H.length) r, (if hasRo r || H'.any hasRoB then freeze H bs else H) ++ H'.map (renB (shift H.length)))
      | none => none
    | none => if d then none else bodyW DC 24 xs H := callW_body rfl rfl rfl
@[simp] theorem call25 (d : Bool) (xs : List V) (H : Heap) : callW DC d (.fn 25 []) xs H = match sealL H xs with
    | some (ys, bs) => match bodyW DC 25 ys [] with
      | some (r, H') => some (ren (shift H.length) r, (if hasRo r || H'.any hasRoB then freeze H bs else H) ++ H'.map (renB (shift H.length)))
      | none => none
    | none => if d then none else bodyW DC 25 xs H := callW_body rfl rfl rfl
@[simp] theorem call26 (d : Bool) (xs : List V) (H : Heap) : callW DC d (.fn 26 []) xs H = match sealL H xs with
    | some (ys, bs) => match bodyW DC 26 ys [] with
      | some (r, H') => some (ren (shift H.length) r, (if hasRo r || H'.any hasRoB then freeze H bs else H) ++ H'.map (renB (shift H.length)))
      | none => none
    | none => if d then none else bodyW DC 26 xs H := callW_body rfl rfl rfl
@[simp] theorem call27 (d : Bool) (xs : List V) (H : Heap) : callW DC d (.fn 27 []) xs H = match sealL H xs with
    | some (ys, bs) => match bodyW DC 27 ys [] with
      | some (r, H') => some (ren (shift H.length) r, (if hasRo r || H'.any hasRoB then freeze H bs else H) ++ H'.map (renB (shift H.length)))
      | none => none
    | none => if d then none else bodyW DC 27 xs H := callW_body rfl rfl rfl
@[simp] theorem call28 (d : Bool) (xs : List V) (H : Heap) : callW DC d (.fn 28 []) xs H = match sealL H xs with
    | some (ys, bs) => match bodyW DC 28 ys [] with
      | some (r, H') => some (ren (shift H.length) r, (if hasRo r || H'.any hasRoB then freeze H bs else H) ++ H'.map (renB (shift H.length)))
      | none => none
    | none => if d then none else bodyW DC 28 xs H := callW_body rfl rfl rfl
@[simp] theorem call29 (d : Bool) (xs : List V) (H : Heap) : callW DC d (.fn 29 []) xs H = match sealL H xs with
    | some (ys, bs) => match bodyW DC 29 ys [] with
      | some (r, H') => some (ren (shift H.length) r, (if hasRo r || H'.any hasRoB then freeze H bs else H) ++ H'.map (renB (shift H.length)))
      | none => none
    | none => if d then none else bodyW DC 29 xs H := callW_body rfl rfl rfl
@[simp] theorem call30 (d : Bool) (xs : List V) (H : Heap) : callW DC d (.fn 30 []) xs H = match sealL H xs with
    | some (ys, bs) => match bodyW DC 30 ys [] with
      | some (r, H') => some (ren (shift H.length) r, (if hasRo r || H'.any hasRoB then freeze H bs else H) ++ H'.map (renB (shift H.length)))
      | none => none
    | none => if d then none else bodyW DC 30 xs H := callW_body rfl rfl rfl
@[simp] theorem call31 (d : Bool) (xs : List V) (H : Heap) : callW DC d (.fn 31 []) xs H = match sealL H xs with
    | some (ys, bs) => match bodyW DC 31 ys [] with
      | some (r, H') => some (ren (shift H.length) r, (if hasRo r || H'.any hasRoB then freeze H bs else H) ++ H'.map (renB (shift H.length)))
      | none => none
    | none => if d then none else bodyW DC 31 xs H := callW_body rfl rfl rfl
@[simp] theorem call32 (d : Bool) (xs : List V) (H : Heap) : callW DC d (.fn 32 []) xs H = match sealL H xs with
    | some (ys, bs) => match bodyW DC 32 ys [] with
      | some (r, H') => some (ren (shift H.length) r, (if hasRo r || H'.any hasRoB then freeze H bs else H) ++ H'.map (renB (shift H.length)))
      | none => none
    | none => if d then none else bodyW DC 32 xs H := callW_body rfl rfl rfl
@[simp] theorem call33 (d : Bool) (xs : List V) (H : Heap) : callW DC d (.fn 33 []) xs H = match sealL H xs with
    | some (ys, bs) => match bodyW DC 33 ys [] with
      | some (r, H') => some (ren (shift H.length) r, (if hasRo r || H'.any hasRoB then freeze H bs else H) ++ H'.map (renB (shift H.length)))
      | none => none
    | none => if d then none else bodyW DC 33 xs H := callW_body rfl rfl rfl
@[simp] theorem call34 (d : Bool) (xs : List V) (H : Heap) : callW DC d (.fn 34 []) xs H = match sealL H xs with
    | some (ys, bs) => match bodyW DC 34 ys [] with
      | some (r, H') => some (ren (shift H.length) r, (if hasRo r || H'.any hasRoB then freeze H bs else H) ++ H'.map (renB (shift H.length)))
      | none => none
    | none => if d then none else bodyW DC 34 xs H := callW_body rfl rfl rfl
@[simp] theorem call35 (d : Bool) (xs : List V) (H : Heap) : callW DC d (.fn 35 []) xs H = match sealL H xs with
    | some (ys, bs) => match bodyW DC 35 ys [] with
      | some (r, H') => some (ren (shift H.length) r, (if hasRo r || H'.any hasRoB then freeze H bs else H) ++ H'.map (renB (shift H.length)))
      | none => none
    | none => if d then none else bodyW DC 35 xs H := callW_body rfl rfl rfl
@[simp] theorem call36 (d : Bool) (xs : List V) (H : Heap) : callW DC d (.fn 36 []) xs H = match sealL H xs with
    | some (ys, bs) => match bodyW DC 36 ys [] with
      | some (r, H') => some (ren (shift H.length) r, (if hasRo r || H'.any hasRoB then freeze H bs else H) ++ H'.map (renB (shift H.length)))
      | none => none
    | none => if d then none else bodyW DC 36 xs H := callW_body rfl rfl rfl
@[simp] theorem call37 (d : Bool) (xs : List V) (H : Heap) : callW DC d (.fn 37 []) xs H = match sealL H xs with
    | some (ys, bs) => match bodyW DC 37 ys [] with
      | some (r, H') => some (ren (shift H.length) r, (if hasRo r || H'.any hasRoB then freeze H bs else H) ++ H'.map (renB (shift H.length)))
      | none => none
    | none => if d then none else bodyW DC 37 xs H := callW_body rfl rfl rfl
@[simp] theorem call38 (d : Bool) (xs : List V) (H : Heap) : callW DC d (.fn 38 []) xs H = match sealL H xs with
    | some (ys, bs) => match bodyW DC 38 ys [] with
      | some (r, H') => some (ren (shift H.length) r, (if hasRo r || H'.any hasRoB then freeze H bs else H) ++ H'.map (renB (shift H.length)))
      | none => none
    | none => if d then none else bodyW DC 38 xs H := callW_body rfl rfl rfl
@[simp] theorem call39 (d : Bool) (xs : List V) (H : Heap) : callW DC d (.fn 39 []) xs H = match sealL H xs with
    | some (ys, bs) => match bodyW DC 39 ys [] with
      | some (r, H') => some (ren (shift H.length) r, (if hasRo r || H'.any hasRoB then freeze H bs else H) ++ H'.map (renB (shift H.length)))
      | none => none
    | none => if d then none else bodyW DC 39 xs H := callW_body rfl rfl rfl
@[simp] theorem call40 (d : Bool) (xs : List V) (H : Heap) : callW DC d (.fn 40 []) xs H = match sealL H xs with
    | some (ys, bs) => match bodyW DC 40 ys [] with
      | some (r, H') => some (ren (shift H.length) r, (if hasRo r || H'.any hasRoB then freeze H bs else H) ++ H'.map (renB (shift H.length)))
      | none => none
    | none => if d then none else bodyW DC 40 xs H := callW_body rfl rfl rfl
@[simp] theorem call41 (d : Bool) (xs : List V) (H : Heap) : callW DC d (.fn 41 []) xs H = match sealL H xs with
    | some (ys, bs) => match bodyW DC 41 ys [] with
      | some (r, H') => some (ren (shift H.length) r, (if hasRo r || H'.any hasRoB then freeze H bs else H) ++ H'.map (renB (shift H.length)))
      | none => none
    | none => if d then none else bodyW DC 41 xs H := callW_body rfl rfl rfl
@[simp] theorem call42 (d : Bool) (xs : List V) (H : Heap) : callW DC d (.fn 42 []) xs H = match sealL H xs with
    | some (ys, bs) => match bodyW DC 42 ys [] with
      | some (r, H') => some (ren (shift H.length) r, (if hasRo r || H'.any hasRoB then freeze H bs else H) ++ H'.map (renB (shift H.length)))
      | none => none
    | none => if d then none else bodyW DC 42 xs H := callW_body rfl rfl rfl
@[simp] theorem call43 (d : Bool) (xs : List V) (H : Heap) : callW DC d (.fn 43 []) xs H = match sealL H xs with
    | some (ys, bs) => match bodyW DC 43 ys [] with
      | some (r, H') => some (ren (shift H.length) r, (if hasRo r || H'.any hasRoB then freeze H bs else H) ++ H'.map (renB (shift H.length)))
      | none => none
    | none => if d then none else bodyW DC 43 xs H := callW_body rfl rfl rfl
@[simp] theorem call44 (d : Bool) (xs : List V) (H : Heap) : callW DC d (.fn 44 []) xs H = match sealL H xs with
    | some (ys, bs) => match bodyW DC 44 ys [] with
      | some (r, H') => some (ren (shift H.length) r, (if hasRo r || H'.any hasRoB then freeze H bs else H) ++ H'.map (renB (shift H.length)))
      | none => none
    | none => if d then none else bodyW DC 44 xs H := callW_body rfl rfl rfl
@[simp] theorem call45 (d : Bool) (xs : List V) (H : Heap) : callW DC d (.fn 45 []) xs H = match sealL H xs with
    | some (ys, bs) => match bodyW DC 45 ys [] with
      | some (r, H') => some (ren (shift H.length) r, (if hasRo r || H'.any hasRoB then freeze H bs else H) ++ H'.map (renB (shift H.length)))
      | none => none
    | none => if d then none else bodyW DC 45 xs H := callW_body rfl rfl rfl
@[simp] theorem call46 (d : Bool) (xs : List V) (H : Heap) : callW DC d (.fn 46 []) xs H = match sealL H xs with
    | some (ys, bs) => match bodyW DC 46 ys [] with
      | some (r, H') => some (ren (shift H.length) r, (if hasRo r || H'.any hasRoB then freeze H bs else H) ++ H'.map (renB (shift H.length)))
      | none => none
    | none => if d then none else bodyW DC 46 xs H := callW_body rfl rfl rfl
@[simp] theorem call47 (d : Bool) (xs : List V) (H : Heap) : callW DC d (.fn 47 []) xs H = match sealL H xs with
    | some (ys, bs) => match bodyW DC 47 ys [] with
      | some (r, H') => some (ren (shift H.length) r, (if hasRo r || H'.any hasRoB then freeze H bs else H) ++ H'.map (renB (shift H.length)))
      | none => none
    | none => if d then none else bodyW DC 47 xs H := callW_body rfl rfl rfl
@[simp] theorem call48 (d : Bool) (xs : List V) (H : Heap) : callW DC d (.fn 48 []) xs H = match sealL H xs with
    | some (ys, bs) => match bodyW DC 48 ys [] with
      | some (r, H') => some (ren (shift H.length) r, (if hasRo r || H'.any hasRoB then freeze H bs else H) ++ H'.map (renB (shift H.length)))
      | none => none
    | none => if d then none else bodyW DC 48 xs H := callW_body rfl rfl rfl
@[simp] theorem call49 (d : Bool) (xs : List V) (H : Heap) : callW DC d (.fn 49 []) xs H = match sealL H xs with
    | some (ys, bs) => match bodyW DC 49 ys [] with
      | some (r, H') => some (ren (shift H.length) r, (if hasRo r || H'.any hasRoB then freeze H bs else H) ++ H'.map (renB (shift H.length)))
      | none => none
    | none => if d then none else bodyW DC 49 xs H := callW_body rfl rfl rfl
@[simp] theorem call50 (d : Bool) (xs : List V) (H : Heap) : callW DC d (.fn 50 []) xs H = match sealL H xs with
    | some (ys, bs) => match bodyW DC 50 ys [] with
      | some (r, H') => some (ren (shift H.length) r, (if hasRo r || H'.any hasRoB then freeze H bs else H) ++ H'.map (renB (shift H.length)))
      | none => none
    | none => if d then none else bodyW DC 50 xs H := callW_body rfl rfl rfl
@[simp] theorem call51 (d : Bool) (xs : List V) (H : Heap) : callW DC d (.fn 51 []) xs H = match sealL H xs with
    | some (ys, bs) => match bodyW DC 51 ys [] with
      | some (r, H') => some (ren (shift H.length) r, (if hasRo r || H'.any hasRoB then freeze H bs else H) ++ H'.map (renB (shift H.length)))
      | none => none
    | none => if d then none else bodyW DC 51 xs H := callW_body rfl rfl rfl
@[simp] theorem call53 (d : Bool) (xs : List V) (H : Heap) : callW DC d (.fn 53 []) xs H = match sealL H xs with
    | some (ys, bs) => match bodyW DC 53 ys [] with
      | some (r, H') => some (ren (shift H.length) r, (if hasRo r || H'.any hasRoB then freeze H bs else H) ++ H'.map (renB (shift H.length)))
      | none => none
    | none => if d then none else bodyW DC 53 xs H := callW_body rfl rfl rfl
@[simp] theorem call54 (d : Bool) (xs : List V) (H : Heap) : callW DC d (.fn 54 []) xs H = match sealL H xs with
    | some (ys, bs) => match bodyW DC 54 ys [] with
      | some (r, H') => some (ren (shift H.length) r, (if hasRo r || H'.any hasRoB then freeze H bs else H) ++ H'.map (renB (shift H.length)))
      | none => none
    | none => if d then none else bodyW DC 54 xs H := callW_body rfl rfl rfl
@[simp] theorem call55 (d : Bool) (xs : List V) (H : Heap) : callW DC d (.fn 55 []) xs H = match sealL H xs with
    | some (ys, bs) => match bodyW DC 55 ys [] with
      | some (r, H') => some (ren (shift H.length) r, (if hasRo r || H'.any hasRoB then freeze H bs else H) ++ H'.map (renB (shift H.length)))
      | none => none
    | none => if d then none else bodyW DC 55 xs H := callW_body rfl rfl rfl
@[simp] theorem call56 (d : Bool) (xs : List V) (H : Heap) : callW DC d (.fn 56 []) xs H = match sealL H xs with
    | some (ys, bs) => match bodyW DC 56 ys [] with
      | some (r, H') => some (ren (shift H.length) r, (if hasRo r || H'.any hasRoB then freeze H bs else H) ++ H'.map (renB (shift H.length)))
      | none => none
    | none => if d then none else bodyW DC 56 xs H := callW_body rfl rfl rfl
@[simp] theorem call57 (d : Bool) (xs : List V) (H : Heap) : callW DC d (.fn 57 []) xs H = match sealL H xs with
    | some (ys, bs) => match bodyW DC 57 ys [] with
      | some (r, H') => some (ren (shift H.length) r, (if hasRo r || H'.any hasRoB then freeze H bs else H) ++ H'.map (renB (shift H.length)))
      | none => none
    | none => if d then none else bodyW DC 57 xs H := callW_body rfl rfl rfl
@[simp] theorem call58 (d : Bool) (xs : List V) (H : Heap) : callW DC d (.fn 58 []) xs H = match sealL H xs with
    | some (ys, bs) => match bodyW DC 58 ys [] with
      | some (r, H') => some (ren (shift H.length) r, (if hasRo r || H'.any hasRoB then freeze H bs else H) ++ H'.map (renB (shift H.length)))
      | none => none
    | none => if d then none else bodyW DC 58 xs H := callW_body rfl rfl rfl
@[simp] theorem call59 (d : Bool) (xs : List V) (H : Heap) : callW DC d (.fn 59 []) xs H = match sealL H xs with
    | some (ys, bs) => match bodyW DC 59 ys [] with
      | some (r, H') => some (ren (shift H.length) r, (if hasRo r || H'.any hasRoB then freeze H bs else H) ++ H'.map (renB (shift H.length)))
      | none => none
    | none => if d then none else bodyW DC 59 xs H := callW_body rfl rfl rfl
@[simp] theorem call60 (d : Bool) (xs : List V) (H : Heap) : callW DC d (.fn 60 []) xs H = match sealL H xs with
    | some (ys, bs) => match bodyW DC 60 ys [] with
      | some (r, H') => some (ren (shift H.length) r, (if hasRo r || H'.any hasRoB then freeze H bs else H) ++ H'.map (renB (shift H.length)))
      | none => none
    | none => if d then none else bodyW DC 60 xs H := callW_body rfl rfl rfl
@[simp] theorem call61 (d : Bool) (xs : List V) (H : Heap) : callW DC d (.fn 61 []) xs H = match sealL H xs with
    | some (ys, bs) => match bodyW DC 61 ys [] with
      | some (r, H') => some (ren (shift H.length) r, (if hasRo r || H'.any hasRoB then freeze H bs else H) ++ H'.map (renB (shift H.length)))
      | none => none
    | none => if d then none else bodyW DC 61 xs H := callW_body rfl rfl rfl
@[simp] theorem call62 (d : Bool) (xs : List V) (H : Heap) : callW DC d (.fn 62 []) xs H = match sealL H xs with
    | some (ys, bs) => match bodyW DC 62 ys [] with
      | some (r, H') => some (ren (shift H.length) r, (if hasRo r || H'.any hasRoB then freeze H bs else H) ++ H'.map (renB (shift H.length)))
      | none => none
    | none => if d then none else bodyW DC 62 xs H := callW_body rfl rfl rfl
@[simp] theorem call63 (d : Bool) (xs : List V) (H : Heap) : callW DC d (.fn 63 []) xs H = match sealL H xs with
    | some (ys, bs) => match bodyW DC 63 ys [] with
      | some (r, H') => some (ren (shift H.length) r, (if hasRo r || H'.any hasRoB then freeze H bs else H) ++ H'.map (renB (shift H.length)))
      | none => none
    | none => if d then none else bodyW DC 63 xs H := callW_body rfl rfl rfl
@[simp] theorem call64 (d : Bool) (xs : List V) (H : Heap) : callW DC d (.fn 64 []) xs H = match sealL H xs with
    | some (ys, bs) => match bodyW DC 64 ys [] with
      | some (r, H') => some (ren (shift H.length) r, (if hasRo r || H'.any hasRoB then freeze H bs else H) ++ H'.map (renB (shift H.length)))
      | none => none
    | none => if d then none else bodyW DC 64 xs H := callW_body rfl rfl rfl
@[simp] theorem call65 (d : Bool) (xs : List V) (H : Heap) : callW DC d (.fn 65 []) xs H = match sealL H xs with
    | some (ys, bs) => match bodyW DC 65 ys [] with
      | some (r, H') => some (ren (shift H.length) r, (if hasRo r || H'.any hasRoB then freeze H bs else H) ++ H'.map (renB (shift H.length)))
      | none => none
    | none => if d then none else bodyW DC 65 xs H := callW_body rfl rfl rfl
@[simp] theorem call66 (d : Bool) (xs : List V) (H : Heap) : callW DC d (.fn 66 []) xs H = match sealL H xs with
    | some (ys, bs) => match bodyW DC 66 ys [] with
      | some (r, H') => some (ren (shift H.length) r, (if hasRo r || H'.any hasRoB then freeze H bs else H) ++ H'.map (renB (shift H.length)))
      | none => none
    | none => if d then none else bodyW DC 66 xs H := callW_body rfl rfl rfl
@[simp] theorem call67 (d : Bool) (xs : List V) (H : Heap) : callW DC d (.fn 67 []) xs H = match sealL H xs with
    | some (ys, bs) => match bodyW DC 67 ys [] with
      | some (r, H') => some (ren (shift H.length) r, (if hasRo r || H'.any hasRoB then freeze H bs else H) ++ H'.map (renB (shift H.length)))
      | none => none
    | none => if d then none else bodyW DC 67 xs H := callW_body rfl rfl rfl
@[simp] theorem call68 (d : Bool) (xs : List V) (H : Heap) : callW DC d (.fn 68 []) xs H = match sealL H xs with
    | some (ys, bs) => match bodyW DC 68 ys [] with
      | some (r, H') => some (ren (shift H.length) r, (if hasRo r || H'.any hasRoB then freeze H bs else H) ++ H'.map (renB (shift H.length)))
      | none => none
    | none => if d then none else bodyW DC 68 xs H := callW_body rfl rfl rfl
@[simp] theorem call69 (d : Bool) (xs : List V) (H : Heap) : callW DC d (.fn 69 []) xs H = match sealL H xs with
    | some (ys, bs) => match bodyW DC 69 ys [] with
      | some (r, H') => some (ren (shift H.length) r, (if hasRo r || H'.any hasRoB then freeze H bs else H) ++ H'.map (renB (shift H.length)))
      | none => none
    | none => if d then none else bodyW DC 69 xs H := callW_body rfl rfl rfl
@[simp] theorem call70 (d : Bool) (xs : List V) (H : Heap) : callW DC d (.fn 70 []) xs H = match sealL H xs with
    | some (ys, bs) => match bodyW DC 70 ys [] with
      | some (r, H') => some (ren (shift H.length) r, (if hasRo r || H'.any hasRoB then freeze H bs else H) ++ H'.map (renB (shift H.length)))
      | none => none
    | none => if d then none else bodyW DC 70 xs H := callW_body rfl rfl rfl
@[simp] theorem call71 (d : Bool) (xs : List V) (H : Heap) : callW DC d (.fn 71 []) xs H = match sealL H xs with
    | some (ys, bs) => match bodyW DC 71 ys [] with
      | some (r, H') => some (ren (shift H.length) r, (if hasRo r || H'.any hasRoB then freeze H bs else H) ++ H'.map (renB (shift H.length)))
      | none => none
    | none => if d then none else bodyW DC 71 xs H := callW_body rfl rfl rfl
@[simp] theorem call72 (d : Bool) (xs : List V) (H : Heap) : callW DC d (.fn 72 []) xs H = match sealL H xs with
    | some (ys, bs) => match bodyW DC 72 ys [] with
      | some (r, H') => some (ren (shift H.length) r, (if hasRo r || H'.any hasRoB then freeze H bs else H) ++ H'.map (renB (shift H.length)))
      | none => none
    | none => if d then none else bodyW DC 72 xs H := callW_body rfl rfl rfl
@[simp] theorem call73 (d : Bool) (xs : List V) (H : Heap) : callW DC d (.fn 73 []) xs H = match sealL H xs with
    | some (ys, bs) => match bodyW DC 73 ys [] with
      | some (r, H') => some (ren (shift H.length) r, (if hasRo r || H'.any hasRoB then freeze H bs else H) ++ H'.map (renB (shift H.length)))
      | none => none
    | none => if d then none else bodyW DC 73 xs H := callW_body rfl rfl rfl
@[simp] theorem call74 (d : Bool) (xs : List V) (H : Heap) : callW DC d (.fn 74 []) xs H = match sealL H xs with
    | some (ys, bs) => match bodyW DC 74 ys [] with
      | some (r, H') => some (ren (shift H.length) r, (if hasRo r || H'.any hasRoB then freeze H bs else H) ++ H'.map (renB (shift H.length)))
      | none => none
    | none => if d then none else bodyW DC 74 xs H := callW_body rfl rfl rfl
@[simp] theorem call75 (d : Bool) (xs : List V) (H : Heap) : callW DC d (.fn 75 []) xs H = match sealL H xs with
    | some (ys, bs) => match bodyW DC 75 ys [] with
      | some (r, H') => some (ren (shift H.length) r, (if hasRo r || H'.any hasRoB then freeze H bs else H) ++ H'.map (renB (shift H.length)))
      | none => none
    | none => if d then none else bodyW DC 75 xs H := callW_body rfl rfl rfl
@[simp] theorem call76 (d : Bool) (xs : List V) (H : Heap) : callW DC d (.fn 76 []) xs H = match sealL H xs with
    | some (ys, bs) => match bodyW DC 76 ys [] with
      | some (r, H') => some (ren (shift H.length) r, (if hasRo r || H'.any hasRoB then freeze H bs else H) ++ H'.map (renB (shift H.length)))
      | none => none
    | none => if d then none else bodyW DC 76 xs H := callW_body rfl rfl rfl
@[simp] theorem call77 (d : Bool) (xs : List V) (H : Heap) : callW DC d (.fn 77 []) xs H = match sealL H xs with
    | some (ys, bs) => match bodyW DC 77 ys [] with
      | some (r, H') => some (ren (shift H.length) r, (if hasRo r || H'.any hasRoB then freeze H bs else H) ++ H'.map (renB (shift H.length)))
      | none => none
    | none => if d then none else bodyW DC 77 xs H := callW_body rfl rfl rfl
@[simp] theorem call78 (d : Bool) (xs : List V) (H : Heap) : callW DC d (.fn 78 []) xs H = match sealL H xs with
    | some (ys, bs) => match bodyW DC 78 ys [] with
      | some (r, H') => some (ren (shift H.length) r, (if hasRo r || H'.any hasRoB then freeze H bs else H) ++ H'.map (renB (shift H.length)))
      | none => none
    | none => if d then none else bodyW DC 78 xs H := callW_body rfl rfl rfl
@[simp] theorem call79 (d : Bool) (xs : List V) (H : Heap) : callW DC d (.fn 79 []) xs H = match sealL H xs with
    | some (ys, bs) => match bodyW DC 79 ys [] with
      | some (r, H') => some (ren (shift H.length) r, (if hasRo r || H'.any hasRoB then freeze H bs else H) ++ H'.map (renB (shift H.length)))
      | none => none
    | none => if d then none else bodyW DC 79 xs H := callW_body rfl rfl rfl
@[simp] theorem call80 (d : Bool) (xs : List V) (H : Heap) : callW DC d (.fn 80 []) xs H = match sealL H xs with
    | some (ys, bs) => match bodyW DC 80 ys [] with
      | some (r, H') => some (ren (shift H.length) r, (if hasRo r || H'.any hasRoB then freeze H bs else H) ++ H'.map (renB (shift H.length)))
      | none => none
    | none => if d then none else bodyW DC 80 xs H := callW_body rfl rfl rfl
@[simp] theorem call81 (d : Bool) (xs : List V) (H : Heap) : callW DC d (.fn 81 []) xs H = match sealL H xs with
    | some (ys, bs) => match bodyW DC 81 ys [] with
      | some (r, H') => some (ren (shift H.length) r, (if hasRo r || H'.any hasRoB then freeze H bs else H) ++ H'.map (renB (shift H.length)))
      | none => none
    | none => if d then none else bodyW DC 81 xs H := callW_body rfl rfl rfl
@[simp] theorem call82 (d : Bool) (xs : List V) (H : Heap) : callW DC d (.fn 82 []) xs H = match sealL H xs with
    | some (ys, bs) => match bodyW DC 82 ys [] with
      | some (r, H') => some (ren (shift H.length) r, (if hasRo r || H'.any hasRoB then freeze H bs else H) ++ H'.map (renB (shift H.length)))
      | none => none
    | none => if d then none else bodyW DC 82 xs H := callW_body rfl rfl rfl
@[simp] theorem call83 (d : Bool) (xs : List V) (H : Heap) : callW DC d (.fn 83 []) xs H = match sealL H xs with
    | some (ys, bs) => match bodyW DC 83 ys [] with
      | some (r, H') => some (ren (shift H.length) r, (if hasRo r || H'.any hasRoB then freeze H bs else H) ++ H'.map (renB (shift H.length)))
      | none => none
    | none => if d then none else bodyW DC 83 xs H := callW_body rfl rfl rfl
@[simp] theorem call84 (d : Bool) (xs : List V) (H : Heap) : callW DC d (.fn 84 []) xs H = match sealL H xs with
    | some (ys, bs) => match bodyW DC 84 ys [] with
      | some (r, H') => some (ren (shift H.length) r, (if hasRo r || H'.any hasRoB then freeze H bs else H) ++ H'.map (renB (shift H.length)))
      | none => none
    | none => if d then none else bodyW DC 84 xs H := callW_body rfl rfl rfl
@[simp] theorem call85 (d : Bool) (xs : List V) (H : Heap) : callW DC d (.fn 85 []) xs H = match sealL H xs with
    | some (ys, bs) => match bodyW DC 85 ys [] with
      | some (r, H') => some (ren (shift H.length) r, (if hasRo r || H'.any hasRoB then freeze H bs else H) ++ H'.map (renB (shift H.length)))
      | none => none
    | none => if d then none else bodyW DC 85 xs H := callW_body rfl rfl rfl
@[simp] theorem call86 (d : Bool) (xs : List V) (H : Heap) : callW DC d (.fn 86 []) xs H = match sealL H xs with
    | some (ys, bs) => match bodyW DC 86 ys [] with
      | some (r, H') => some (ren (shift H.length) r, (if hasRo r || H'.any hasRoB then freeze H bs else H) ++ H'.map (renB (shift H.length)))
      | none => none
    | none => if d then none else bodyW DC 86 xs H := callW_body rfl rfl rfl
@[simp] theorem call87 (d : Bool) (xs : List V) (H : Heap) : callW DC d (.fn 87 []) xs H = match sealL H xs with
    | some (ys, bs) => match bodyW DC 87 ys [] with
      | some (r, H') => some (ren (shift H.length) r, (if hasRo r || H'.any hasRoB then freeze H bs else H) ++ H'.map (renB (shift H.length)))
      | none => none
    | none => if d then none else bodyW DC 87 xs H := callW_body rfl rfl rfl
@[simp] theorem call88 (d : Bool) (xs : List V) (H : Heap) : callW DC d (.fn 88 []) xs H = match sealL H xs with
    | some (ys, bs) => match bodyW DC 88 ys [] with
      | some (r, H') => some (ren (shift H.length) r, (if hasRo r || H'.any hasRoB then freeze H bs else H) ++ H'.map (renB (shift H.length)))
      | none => none
    | none => if d then none else bodyW DC 88 xs H := callW_body rfl rfl rfl
@[simp] theorem call89 (d : Bool) (xs : List V) (H : Heap) : callW DC d (.fn 89 []) xs H = match sealL H xs with
    | some (ys, bs) => match bodyW DC 89 ys [] with
      | some (r, H') => some (ren (shift H.length) r, (if hasRo r || H'.any hasRoB then freeze H bs else H) ++ H'.map (renB (shift H.length)))
      | none => none
    | none => if d then none else bodyW DC 89 xs H := callW_body rfl rfl rfl
@[simp] theorem call90 (d : Bool) (xs : List V) (H : Heap) : callW DC d (.fn 90 []) xs H = match sealL H xs with
    | some (ys, bs) => match bodyW DC 90 ys [] with
      | some (r, H') => some (ren (shift H.length) r, (if hasRo r || H'.any hasRoB then freeze H bs else H) ++ H'.map (renB (shift H.length)))
      | none => none
    | none => if d then none else bodyW DC 90 xs H := callW_body rfl rfl rfl
@[simp] theorem call91 (d : Bool) (xs : List V) (H : Heap) : callW DC d (.fn 91 []) xs H = match sealL H xs with
    | some (ys, bs) => match bodyW DC 91 ys [] with
      | some (r, H') => some (ren (shift H.length) r, (if hasRo r || H'.any hasRoB then freeze H bs else H) ++ H'.map (renB (shift H.length)))
      | none => none
    | none => if d then none else bodyW DC 91 xs H := callW_body rfl rfl rfl
@[simp] theorem call92 (d : Bool) (xs : List V) (H : Heap) : callW DC d (.fn 92 []) xs H = match sealL H xs with
    | some (ys, bs) => match bodyW DC 92 ys [] with
      | some (r, H') => some (ren (shift H.length) r, (if hasRo r || H'.any hasRoB then freeze H bs else H) ++ H'.map (renB (shift H.length)))
      | none => none
    | none => if d then none else bodyW DC 92 xs H := callW_body rfl rfl rfl
@[simp] theorem call93 (d : Bool) (xs : List V) (H : Heap) : callW DC d (.fn 93 []) xs H = match sealL H xs with
    | some (ys, bs) => match bodyW DC 93 ys [] with
      | some (r, H') => some (ren (shift H.length) r, (if hasRo r || H'.any hasRoB then freeze H bs else H) ++ H'.map (renB (shift H.length)))
      | none => none
    | none => if d then none else bodyW DC 93 xs H := callW_body rfl rfl rfl
@[simp] theorem call94 (d : Bool) (xs : List V) (H : Heap) : callW DC d (.fn 94 []) xs H = match sealL H xs with
    | some (ys, bs) => match bodyW DC 94 ys [] with
      | some (r, H') => some (ren (shift H.length) r, (if hasRo r || H'.any hasRoB then freeze H bs else H) ++ H'.map (renB (shift H.length)))
      | none => none
    | none => if d then none else bodyW DC 94 xs H := callW_body rfl rfl rfl
@[simp] theorem call95 (d : Bool) (xs : List V) (H : Heap) : callW DC d (.fn 95 []) xs H = match sealL H xs with
    | some (ys, bs) => match bodyW DC 95 ys [] with
      | some (r, H') => some (ren (shift H.length) r, (if hasRo r || H'.any hasRoB then freeze H bs else H) ++ H'.map (renB (shift H.length)))
      | none => none
    | none => if d then none else bodyW DC 95 xs H := callW_body rfl rfl rfl
@[simp] theorem call96 (d : Bool) (xs : List V) (H : Heap) : callW DC d (.fn 96 []) xs H = match sealL H xs with
    | some (ys, bs) => match bodyW DC 96 ys [] with
      | some (r, H') => some (ren (shift H.length) r, (if hasRo r || H'.any hasRoB then freeze H bs else H) ++ H'.map (renB (shift H.length)))
      | none => none
    | none => if d then none else bodyW DC 96 xs H := callW_body rfl rfl rfl
@[simp] theorem call97 (d : Bool) (xs : List V) (H : Heap) : callW DC d (.fn 97 []) xs H = match sealL H xs with
    | some (ys, bs) => match bodyW DC 97 ys [] with
      | some (r, H') => some (ren (shift H.length) r, (if hasRo r || H'.any hasRoB then freeze H bs else H) ++ H'.map (renB (shift H.length)))
      | none => none
    | none => if d then none else bodyW DC 97 xs H := callW_body rfl rfl rfl
@[simp] theorem call98 (d : Bool) (xs : List V) (H : Heap) : callW DC d (.fn 98 []) xs H = match sealL H xs with
    | some (ys, bs) => match bodyW DC 98 ys [] with
      | some (r, H') => some (ren (shift H.length) r, (if hasRo r || H'.any hasRoB then freeze H bs else H) ++ H'.map (renB (shift H.length)))
      | none => none
    | none => if d then none else bodyW DC 98 xs H := callW_body rfl rfl rfl
@[simp] theorem call99 (d : Bool) (xs : List V) (H : Heap) : callW DC d (.fn 99 []) xs H = match sealL H xs with
    | some (ys, bs) => match bodyW DC 99 ys [] with
      | some (r, H') => some (ren (shift H.length) r, (if hasRo r || H'.any hasRoB then freeze H bs else H) ++ H'.map (renB (shift H.length)))
      | none => none
    | none => if d then none else bodyW DC 99 xs H := callW_body rfl rfl rfl
@[simp] theorem call100 (d : Bool) (xs : List V) (H : Heap) : callW DC d (.fn 100 []) xs H = match sealL H xs with
    | some (ys, bs) => match bodyW DC 100 ys [] with
      | some (r, H') => some (ren (shift H.length) r, (if hasRo r || H'.any hasRoB then freeze H bs else H) ++ H'.map (renB (shift H.length)))
      | none => none
    | none => if d then none else bodyW DC 100 xs H := callW_body rfl rfl rfl
@[simp] theorem call101 (d : Bool) (xs : List V) (H : Heap) : callW DC d (.fn 101 []) xs H = match sealL H xs with
    | some (ys, bs) => match bodyW DC 101 ys [] with
      | some (r, H') => some (ren (shift H.length) r, (if hasRo r || H'.any hasRoB then freeze H bs else H) ++ H'.map (renB (shift H.length)))
      | none => none
    | none => if d then none else bodyW DC 101 xs H := callW_body rfl rfl rfl
@[simp] theorem call102 (d : Bool) (xs : List V) (H : Heap) : callW DC d (.fn 102 []) xs H = match sealL H xs with
    | some (ys, bs) => match bodyW DC 102 ys [] with
      | some (r, H') => some (ren (shift H.length) r, (if hasRo r || H'.any hasRoB then freeze H bs else H) ++ H'.map (renB (shift H.length)))
      | none => none
    | none => if d then none else bodyW DC 102 xs H := callW_body rfl rfl rfl
@[simp] theorem call103 (d : Bool) (xs : List V) (H : Heap) : callW DC d (.fn 103 []) xs H = match sealL H xs with
    | some (ys, bs) => match bodyW DC 103 ys [] with
      | some (r, H') => some (ren (shift H.length) r, (if hasRo r || H'.any hasRoB then freeze H bs else H) ++ H'.map (renB (shift H.length)))
      | none => none
    | none => if d then none else bodyW DC 103 xs H := callW_body rfl rfl rfl
@[simp] theorem call104 (d : Bool) (xs : List V) (H : Heap) : callW DC d (.fn 104 []) xs H = match sealL H xs with
    | some (ys, bs) => match bodyW DC 104 ys [] with
      | some (r, H') => some (ren (shift H.length) r, (if hasRo r || H'.any hasRoB then freeze H bs else H) ++ H'.map (renB (shift H.length)))
      | none => none
    | none => if d then none else bodyW DC 104 xs H := callW_body rfl rfl rfl
@[simp] theorem call105 (d : Bool) (xs : List V) (H : Heap) : callW DC d (.fn 105 []) xs H = match sealL H xs with
    | some (ys, bs) => match bodyW DC 105 ys [] with
      | some (r, H') => some (ren (shift H.length) r, (if hasRo r || H'.any hasRoB then freeze H bs else H) ++ H'.map (renB (shift H.length)))
      | none => none
    | none => if d then none else bodyW DC 105 xs H := callW_body rfl rfl rfl
@[simp] theorem call106 (d : Bool) (xs : List V) (H : Heap) : callW DC d (.fn 106 []) xs H = match sealL H xs with
    | some (ys, bs) => match bodyW DC 106 ys [] with
      | some (r, H') => some (ren (shift H.length) r, (if hasRo r || H'.any hasRoB then freeze H bs else H) ++ H'.map (renB (shift H.length)))
      | none => none
    | none => if d then none else bodyW DC 106 xs H := callW_body rfl rfl rfl
@[simp] theorem call107 (d : Bool) (xs : List V) (H : Heap) : callW DC d (.fn 107 []) xs H = match sealL H xs with
    | some (ys, bs) => match bodyW DC 107 ys [] with
      | some (r, H') => some (ren (shift H.length) r, (if hasRo r || H'.any hasRoB then freeze H bs else H) ++ H'.map (renB (shift H.length)))
      | none => none
    | none => if d then none else bodyW DC 107 xs H := callW_body rfl rfl rfl
@[simp] theorem call108 (d : Bool) (xs : List V) (H : Heap) : callW DC d (.fn 108 []) xs H = match sealL H xs with
    | some (ys, bs) => match bodyW DC 108 ys [] with
      | some (r, H') => some (ren (shift H.length) r, (if hasRo r || H'.any hasRoB then freeze H bs else H) ++ H'.map (renB (shift H.length)))
      | none => none
    | none => if d then none else bodyW DC 108 xs H := callW_body rfl rfl rfl
@[simp] theorem call109 (d : Bool) (xs : List V) (H : Heap) : callW DC d (.fn 109 []) xs H = match sealL H xs with
    | some (ys, bs) => match bodyW DC 109 ys [] with
      | some (r, H') => some (ren (shift H.length) r, (if hasRo r || H'.any hasRoB then freeze H bs else H) ++ H'.map (renB (shift H.length)))
      | none => none
    | none => if d then none else bodyW DC 109 xs H := callW_body rfl rfl rfl
@[simp] theorem call110 (d : Bool) (xs : List V) (H : Heap) : callW DC d (.fn 110 []) xs H = match sealL H xs with
    | some (ys, bs) => match bodyW DC 110 ys [] with
      | some (r, H') => some (ren (shift H.length) r, (if hasRo r || H'.any hasRoB then freeze H bs else H) ++ H'.map (renB (shift H.length)))
      | none => none
    | none => if d then none else bodyW DC 110 xs H := callW_body rfl rfl rfl
@[simp] theorem call111 (d : Bool) (xs : List V) (H : Heap) : callW DC d (.fn 111 []) xs H = match sealL H xs with
    | some (ys, bs) => match bodyW DC 111 ys [] with
      | some (r, H') => some (ren (shift H.length) r, (if hasRo r || H'.any hasRoB then freeze H bs else H) ++ H'.map (renB (shift H.length)))
      | none => none
    | none => if d then none else bodyW DC 111 xs H := callW_body rfl rfl rfl
@[simp] theorem call112 (d : Bool) (xs : List V) (H : Heap) : callW DC d (.fn 112 []) xs H = match sealL H xs with
    | some (ys, bs) => match bodyW DC 112 ys [] with
      | some (r, H') => some (ren (shift H.length) r, (if hasRo r || H'.any hasRoB then freeze H bs else H) ++ H'.map (renB (shift H.length)))
      | none => none
    | none => if d then none else bodyW DC 112 xs H := callW_body rfl rfl rfl
@[simp] theorem call113 (d : Bool) (xs : List V) (H : Heap) : callW DC d (.fn 113 []) xs H = match sealL H xs with
    | some (ys, bs) => match bodyW DC 113 ys [] with
      | some (r, H') => some (ren (shift H.length) r, (if hasRo r || H'.any hasRoB then freeze H bs else H) ++ H'.map (renB (shift H.length)))
      | none => none
    | none => if d then none else bodyW DC 113 xs H := callW_body rfl rfl rfl
@[simp] theorem call114 (d : Bool) (xs : List V) (H : Heap) : callW DC d (.fn 114 []) xs H = match sealL H xs with
    | some (ys, bs) => match bodyW DC 114 ys [] with
      | some (r, H') => some (ren (shift H.length) r, (if hasRo r || H'.any hasRoB then freeze H bs else H) ++ H'.map (renB (shift H.length)))
      | none => none
    | none => if d then none else bodyW DC 114 xs H := callW_body rfl rfl rfl
@[simp] theorem call115 (d : Bool) (xs : List V) (H : Heap) : callW DC d (.fn 115 []) xs H = match sealL H xs with
    | some (ys, bs) => match bodyW DC 115 ys [] with
      | some (r, H') => some (ren (shift H.length) r, (if hasRo r || H'.any hasRoB then freeze H bs else H) ++ H'.map (renB (shift H.length)))
      | none => none
    | none => if d then none else bodyW DC 115 xs H := callW_body rfl rfl rfl
@[simp] theorem call116 (d : Bool) (xs : List V) (H : Heap) : callW DC d (.fn 116 []) xs H = match sealL H xs with
    | some (ys, bs) => match bodyW DC 116 ys [] with
      | some (r, H') => some (ren (shift H.length) r, (if hasRo r || H'.any hasRoB then freeze H bs else H) ++ H'.map (renB (shift H.length)))
      | none => none
    | none => if d then none else bodyW DC 116 xs H := callW_body rfl rfl rfl
@[simp] theorem call117 (d : Bool) (xs : List V) (H : Heap) : callW DC d (.fn 117 []) xs H = match sealL H xs with
    | some (ys, bs) => match bodyW DC 117 ys [] with
      | some (r, H') => some (ren (shift H.length) r, (if hasRo r || H'.any hasRoB then freeze H bs else H) ++ H'.map (renB (shift H.length)))
      | none => none
    | none => if d then none else bodyW DC 117 xs H := callW_body rfl rfl rfl
@[simp] theorem call118 (d : Bool) (xs : List V) (H : Heap) : callW DC d (.fn 118 []) xs H = match sealL H xs with
    | some (ys, bs) => match bodyW DC 118 ys [] with
      | some (r, H') => some (ren (shift H.length) r, (if hasRo r || H'.any hasRoB then freeze H bs else H) ++ H'.map (renB (shift H.length)))
      | none => none
    | none => if d then none else bodyW DC 118 xs H := callW_body rfl rfl rfl
@[simp] theorem call119 (d : Bool) (xs : List V) (H : Heap) : callW DC d (.fn 119 []) xs H = match sealL H xs with
    | some (ys, bs) => match bodyW DC 119 ys [] with
      | some (r, H') => some (ren (shift H.length) r, (if hasRo r || H'.any hasRoB then freeze H bs else H) ++ H'.map (renB (shift H.length)))
      | none => none
    | none => if d then none else bodyW DC 119 xs H := callW_body rfl rfl rfl
@[simp] theorem call120 (d : Bool) (xs : List V) (H : Heap) : callW DC d (.fn 120 []) xs H = match sealL H xs with
    | some (ys, bs) => match bodyW DC 120 ys [] with
      | some (r, H') => some (ren (shift H.length) r, (if hasRo r || H'.any hasRoB then freeze H bs else H) ++ H'.map (renB (shift H.length)))
      | none => none
    | none => if d then none else bodyW DC 120 xs H := callW_body rfl rfl rfl
@[simp] theorem call121 (d : Bool) (xs : List V) (H : Heap) : callW DC d (.fn 121 []) xs H = match sealL H xs with
    | some (ys, bs) => match bodyW DC 121 ys [] with
      | some (r, H') => some (ren (shift H.length) r, (if hasRo r || H'.any hasRoB then freeze H bs else H) ++ H'.map (renB (shift H.length)))
      | none => none
    | none => if d then none else bodyW DC 121 xs H := callW_body rfl rfl rfl
@[simp] theorem call122 (d : Bool) (xs : List V) (H : Heap) : callW DC d (.fn 122 []) xs H = match sealL H xs with
    | some (ys, bs) => match bodyW DC 122 ys [] with
      | some (r, H') => some (ren (shift H.length) r, (if hasRo r || H'.any hasRoB then freeze H bs else H) ++ H'.map (renB (shift H.length)))
      | none => none
    | none => if d then none else bodyW DC 122 xs H := callW_body rfl rfl rfl
@[simp] theorem call124 (d : Bool) (xs : List V) (H : Heap) : callW DC d (.fn 124 []) xs H = match sealL H xs with
    | some (ys, bs) => match bodyW DC 124 ys [] with
      | some (r, H') => some (ren (shift H.length) r, (if hasRo r || H'.any hasRoB then freeze H bs else H) ++ H'.map (renB (shift H.length)))
      | none => none
    | none => if d then none else bodyW DC 124 xs H := callW_body rfl rfl rfl
@[simp] theorem call125 (d : Bool) (xs : List V) (H : Heap) : callW DC d (.fn 125 []) xs H = match sealL H xs with
    | some (ys, bs) => match bodyW DC 125 ys [] with
      | some (r, H') => some (ren (shift H.length) r, (if hasRo r || H'.any hasRoB then freeze H bs else H) ++ H'.map (renB (shift H.length)))
      | none => none
    | none => if d then none else bodyW DC 125 xs H := callW_body rfl rfl rfl
@[simp] theorem call126 (d : Bool) (xs : List V) (H : Heap) : callW DC d (.fn 126 []) xs H = match sealL H xs with
    | some (ys, bs) => match bodyW DC 126 ys [] with
      | some (r, H') => some (ren (shift H.length) r, (if hasRo r || H'.any hasRoB then freeze H bs else H) ++ H'.map (renB (shift H.length)))
      | none => none
    | none => if d then none else bodyW DC 126 xs H := callW_body rfl rfl rfl
@[simp] theorem call129 (d : Bool) (xs : List V) (H : Heap) : callW DC d (.fn 129 []) xs H = match sealL H xs with
    | some (ys, bs) => match bodyW DC 129 ys [] with
      | some (r, H') => some (ren (shift H.length) r, (if hasRo r || H'.any hasRoB then freeze H bs else H) ++ H'.map (renB (shift H.length)))
      | none => none
    | none => if d then none else bodyW DC 129 xs H := callW_body rfl rfl rfl
@[simp] theorem call130 (d : Bool) (xs : List V) (H : Heap) : callW DC d (.fn 130 []) xs H = match sealL H xs with
    | some (ys, bs) => match bodyW DC 130 ys [] with
      | some (r, H') => some (ren (shift H.length) r, (if hasRo r || H'.any hasRoB then freeze H bs else H) ++ H'.map (renB (shift H.length)))
      | none => none
    | none => if d then none else bodyW DC 130 xs H := callW_body rfl rfl rfl
@[simp] theorem call131 (d : Bool) (xs : List V) (H : Heap) : callW DC d (.fn 131 []) xs H = match sealL H xs with
    | some (ys, bs) => match bodyW DC 131 ys [] with
      | some (r, H') => some (ren (shift H.length) r, (if hasRo r || H'.any hasRoB then freeze H bs else H) ++ H'.map (renB (shift H.length)))
      | none => none
    | none => if d then none else bodyW DC 131 xs H := callW_body rfl rfl rfl
@[simp] theorem call132 (d : Bool) (xs : List V) (H : Heap) : callW DC d (.fn 132 []) xs H = match sealL H xs with
    | some (ys, bs) => match bodyW DC 132 ys [] with
      | some (r, H') => some (ren (shift H.length) r, (if hasRo r || H'.any hasRoB then freeze H bs else H) ++ H'.map (renB (shift H.length)))
      | none => none
    | none => if d then none else bodyW DC 132 xs H := callW_body rfl rfl rfl
@[simp] theorem call133 (d : Bool) (xs : List V) (H : Heap) : callW DC d (.fn 133 []) xs H = match sealL H xs with
    | some (ys, bs) => match bodyW DC 133 ys [] with
      | some (r, H') => some (ren (shift H.length) r, (if hasRo r || H'.any hasRoB then freeze H bs else H) ++ H'.map (renB (shift H.length)))
      | none => none
    | none => if d then none else bodyW DC 133 xs H := callW_body rfl rfl rfl
@[simp] theorem call134 (d : Bool) (xs : List V) (H : Heap) : callW DC d (.fn 134 []) xs H = match sealL H xs with
    | some (ys, bs) => match bodyW DC 134 ys [] with
      | some (r, H') => some (ren (shift H.length) r, (if hasRo r || H'.any hasRoB then freeze H bs else H) ++ H'.map (renB (shift H.length)))
      | none => none
    | none => if d then none else bodyW DC 134 xs H := callW_body rfl rfl rfl
@[simp] theorem call135 (d : Bool) (xs : List V) (H : Heap) : callW DC d (.fn 135 []) xs H = match sealL H xs with
    | some (ys, bs) => match bodyW DC 135 ys [] with
      | some (r, H') => some (ren (shift H.length) r, (if hasRo r || H'.any hasRoB then freeze H bs else H) ++ H'.map (renB (shift H.length)))
      | none => none
    | none => if d then none else bodyW DC 135 xs H := callW_body rfl rfl rfl
@[simp] theorem call136 (d : Bool) (xs : List V) (H : Heap) : callW DC d (.fn 136 []) xs H = match sealL H xs with
    | some (ys, bs) => match bodyW DC 136 ys [] with
      | some (r, H') => some (ren (shift H.length) r, (if hasRo r || H'.any hasRoB then freeze H bs else H) ++ H'.map (renB (shift H.length)))
      | none => none
    | none => if d then none else bodyW DC 136 xs H := callW_body rfl rfl rfl
@[simp] theorem call137 (d : Bool) (xs : List V) (H : Heap) : callW DC d (.fn 137 []) xs H = match sealL H xs with
    | some (ys, bs) => match bodyW DC 137 ys [] with
      | some (r, H') => some (ren (shift H.length) r, (if hasRo r || H'.any hasRoB then freeze H bs else H) ++ H'.map (renB (shift H.length)))
      | none => none
    | none => if d then none else bodyW DC 137 xs H := callW_body rfl rfl rfl
@[simp] theorem call138 (d : Bool) (xs : List V) (H : Heap) : callW DC d (.fn 138 []) xs H = match sealL H xs with
    | some (ys, bs) => match bodyW DC 138 ys [] with
      | some (r, H') => some (ren (shift H.length) r, (if hasRo r || H'.any hasRoB then freeze H bs else H) ++ H'.map (renB (shift H.length)))
      | none => none
    | none => if d then none else bodyW DC 138 xs H := callW_body rfl rfl rfl
@[simp] theorem call139 (d : Bool) (xs : List V) (H : Heap) : callW DC d (.fn 139 []) xs H = match sealL H xs with
    | some (ys, bs) => match bodyW DC 139 ys [] with
      | some (r, H') => some (ren (shift H.length) r, (if hasRo r || H'.any hasRoB then freeze H bs else H) ++ H'.map (renB (shift H.length)))
      | none => none
    | none => if d then none else bodyW DC 139 xs H := callW_body rfl rfl rfl
@[simp] theorem call140 (d : Bool) (xs : List V) (H : Heap) : callW DC d (.fn 140 []) xs H = match sealL H xs with
    | some (ys, bs) => match bodyW DC 140 ys [] with
      | some (r, H') => some (ren (shift H.length) r, (if hasRo r || H'.any hasRoB then freeze H bs else H) ++ H'.map (renB (shift H.length)))
      | none => none
    | none => if d then none else bodyW DC 140 xs H := callW_body rfl rfl rfl
@[simp] theorem call142 (d : Bool) (xs : List V) (H : Heap) : callW DC d (.fn 142 []) xs H = match sealL H xs with
    | some (ys, bs) => match bodyW DC 142 ys [] with
      | some (r, H') => some (ren (shift H.length) r, (if hasRo r || H'.any hasRoB then freeze H bs else H) ++ H'.map (renB (shift H.length)))
      | none => none
    | none => if d then none else bodyW DC 142 xs H := callW_body rfl rfl rfl
@[simp] theorem call143 (d : Bool) (xs : List V) (H : Heap) : callW DC d (.fn 143 []) xs H = match sealL H xs with
    | some (ys, bs) => match bodyW DC 143 ys [] with
      | some (r, H') => some (ren (shift H.length) r, (if hasRo r || H'.any hasRoB then freeze H bs else H) ++ H'.map (renB (shift H.length)))
      | none => none
    | none => if d then none else bodyW DC 143 xs H := callW_body rfl rfl rfl
@[simp] theorem call144 (d : Bool) (xs : List V) (H : Heap) : callW DC d (.fn 144 []) xs H = match sealL H xs with
    | some (ys, bs) => match bodyW DC 144 ys [] with
      | some (r, H') => some (ren (shift H.length) r, (if hasRo r || H'.any hasRoB then freeze H bs else H) ++ H'.map (renB (shift H.length)))
      | none => none
    | none => if d then none else bodyW DC 144 xs H := callW_body rfl rfl rfl
@[simp] theorem call145 (d : Bool) (xs : List V) (H : Heap) : callW DC d (.fn 145 []) xs H = match sealL H xs with
    | some (ys, bs) => match bodyW DC 145 ys [] with
      | some (r, H') => some (ren (shift H.length) r, (if hasRo r || H'.any hasRoB then freeze H bs else H) ++ H'.map (renB (shift H.length)))
      | none => none
    | none => if d then none else bodyW DC 145 xs H := callW_body rfl rfl rfl
@[simp] theorem call146 (d : Bool) (xs : List V) (H : Heap) : callW DC d (.fn 146 []) xs H = match sealL H xs with
    | some (ys, bs) => match bodyW DC 146 ys [] with
      | some (r, H') => some (ren (shift H.length) r, (if hasRo r || H'.any hasRoB then freeze H bs else H) ++ H'.map (renB (shift H.length)))
      | none => none
    | none => if d then none else bodyW DC 146 xs H := callW_body rfl rfl rfl
@[simp] theorem call147 (d : Bool) (xs : List V) (H : Heap) : callW DC d (.fn 147 []) xs H = match sealL H xs with
    | some (ys, bs) => match bodyW DC 147 ys [] with
      | some (r, H') => some (ren (shift H.length) r, (if hasRo r || H'.any hasRoB then freeze H bs else H) ++ H'.map (renB (shift H.length)))
      | none => none
    | none => if d then none else bodyW DC 147 xs H := callW_body rfl rfl rfl
@[simp] theorem call150 (d : Bool) (xs : List V) (H : Heap) : callW DC d (.fn 150 []) xs H = match sealL H xs with
    | some (ys, bs) => match bodyW DC 150 ys [] with
      | some (r, H') => some (ren (shift H.length) r, (if hasRo r || H'.any hasRoB then freeze H bs else H) ++ H'.map (renB (shift H.length)))
      | none => none
    | none => if d then none else bodyW DC 150 xs H := callW_body rfl rfl rfl
@[simp] theorem call151 (d : Bool) (xs : List V) (H : Heap) : callW DC d (.fn 151 []) xs H = match sealL H xs with
    | some (ys, bs) => match bodyW DC 151 ys [] with
      | some (r, H') => some (ren (shift H.length) r, (if hasRo r || H'.any hasRoB then freeze H bs else H) ++ H'.map (renB (shift H.length)))
      | none => none
    | none => if d then none else bodyW DC 151 xs H := callW_body rfl rfl rfl
@[simp] theorem call152 (d : Bool) (xs : List V) (H : Heap) : callW DC d (.fn 152 []) xs H = match sealL H xs with
    | some (ys, bs) => match bodyW DC 152 ys [] with
      | some (r, H') => some (ren (shift H.length) r, (if hasRo r || H'.any hasRoB then freeze H bs else H) ++ H'.map (renB (shift H.length)))
      | none => none
    | none => if d then none else bodyW DC 152 xs H := callW_body rfl rfl rfl
@[simp] theorem call153 (d : Bool) (xs : List V) (H : Heap) : callW DC d (.fn 153 []) xs H = match sealL H xs with
    | some (ys, bs) => match bodyW DC 153 ys [] with
      | some (r, H') => some (ren (shift H.length) r, (if hasRo r || H'.any hasRoB then freeze H bs else H) ++ H'.map (renB (shift H.length)))
      | none => none
    | none => if d then none else bodyW DC 153 xs H := callW_body rfl rfl rfl
@[simp] theorem call154 (d : Bool) (xs : List V) (H : Heap) : callW DC d (.fn 154 []) xs H = match sealL H xs with
    | some (ys, bs) => match bodyW DC 154 ys [] with
      | some (r, H') => some (ren (shift H.length) r, (if hasRo r || H'.any hasRoB then freeze H bs else H) ++ H'.map (renB (shift H.length)))
      | none => none
    | none => if d then none else bodyW DC 154 xs H := callW_body rfl rfl rfl
@[simp] theorem call155 (d : Bool) (xs : List V) (H : Heap) : callW DC d (.fn 155 []) xs H = match sealL H xs with
    | some (ys, bs) => match bodyW DC 155 ys [] with
      | some (r, H') => some (ren (shift H.length) r, (if hasRo r || H'.any hasRoB then freeze H bs else H) ++ H'.map (renB (shift H.length)))
      | none => none
    | none => if d then none else bodyW DC 155 xs H := callW_body rfl rfl rfl
@[simp] theorem call156 (d : Bool) (xs : List V) (H : Heap) : callW DC d (.fn 156 []) xs H = match sealL H xs with
    | some (ys, bs) => match bodyW DC 156 ys [] with
      | some (r, H') => some (ren (shift H.length) r, (if hasRo r || H'.any hasRoB then freeze H bs else H) ++ H'.map (renB (shift H.length)))
      | none => none
    | none => if d then none else bodyW DC 156 xs H := callW_body rfl rfl rfl
@[simp] theorem call157 (d : Bool) (xs : List V) (H : Heap) : callW DC d (.fn 157 []) xs H = match sealL H xs with
    | some (ys, bs) => match bodyW DC 157 ys [] with
      | some (r, H') => some (ren (shift H.length) r, (if hasRo r || H'.any hasRoB then freeze H bs else H) ++ H'.map (renB (shift H.length)))
      | none => none
    | none => if d then none else bodyW DC 157 xs H := callW_body rfl rfl rfl
@[simp] theorem call158 (d : Bool) (xs : List V) (H : Heap) : callW DC d (.fn 158 []) xs H = match sealL H xs with
    | some (ys, bs) => match bodyW DC 158 ys [] with
      | some (r, H') => some (ren (shift H.length) r, (if hasRo r || H'.any hasRoB then freeze H bs else H) ++ H'.map (renB (shift H.length)))
      | none => none
    | none => if d then none else bodyW DC 158 xs H := callW_body rfl rfl rfl
@[simp] theorem call159 (d : Bool) (xs : List V) (H : Heap) : callW DC d (.fn 159 []) xs H = match sealL H xs with
    | some (ys, bs) => match bodyW DC 159 ys [] with
      | some (r, H') => some (ren (shift H.length) r, (if hasRo r || H'.any hasRoB then freeze H bs else H) ++ H'.map (renB (shift H.length)))
      | none => none
    | none => if d then none else bodyW DC 159 xs H := callW_body rfl rfl rfl
@[simp] theorem call160 (d : Bool) (xs : List V) (H : Heap) : callW DC d (.fn 160 []) xs H = match sealL H xs with
    | some (ys, bs) => match bodyW DC 160 ys [] with
      | some (r, H') => some (ren (shift H.length) r, (if hasRo r || H'.any hasRoB then freeze H bs else H) ++ H'.map (renB (shift H.length)))
      | none => none
    | none => if d then none else bodyW DC 160 xs H := callW_body rfl rfl rfl
@[simp] theorem call161 (d : Bool) (xs : List V) (H : Heap) : callW DC d (.fn 161 []) xs H = match sealL H xs with
    | some (ys, bs) => match bodyW DC 161 ys [] with
      | some (r, H') => some (ren (shift H.length) r, (if hasRo r || H'.any hasRoB then freeze H bs else H) ++ H'.map (renB (shift H.length)))
      | none => none
    | none => if d then none else bodyW DC 161 xs H := callW_body rfl rfl rfl
@[simp] theorem call162 (d : Bool) (xs : List V) (H : Heap) : callW DC d (.fn 162 []) xs H = match sealL H xs with
    | some (ys, bs) => match bodyW DC 162 ys [] with
      | some (r, H') => some (ren (shift H.length) r, (if hasRo r || H'.any hasRoB then freeze H bs else H) ++ H'.map (renB (shift H.length)))
      | none => none
    | none => if d then none else bodyW DC 162 xs H := callW_body rfl rfl rfl
@[simp] theorem call163 (d : Bool) (xs : List V) (H : Heap) : callW DC d (.fn 163 []) xs H = match sealL H xs with
    | some (ys, bs) => match bodyW DC 163 ys [] with
      | some (r, H') => some (ren (shift H.length) r, (if hasRo r || H'.any hasRoB then freeze H bs else H) ++ H'.map (renB (shift H.length)))
      | none => none
    | none => if d then none else bodyW DC 163 xs H := callW_body rfl rfl rfl
@[simp] theorem call164 (d : Bool) (xs : List V) (H : Heap) : callW DC d (.fn 164 []) xs H = match sealL H xs with
    | some (ys, bs) => match bodyW DC 164 ys [] with
      | some (r, H') => some (ren (shift H.length) r, (if hasRo r || H'.any hasRoB then freeze H bs else H) ++ H'.map (renB (shift H.length)))
      | none => none
    | none => if d then none else bodyW DC 164 xs H := callW_body rfl rfl rfl
@[simp] theorem call165 (d : Bool) (xs : List V) (H : Heap) : callW DC d (.fn 165 []) xs H = match sealL H xs with
    | some (ys, bs) => match bodyW DC 165 ys [] with
      | some (r, H') => some (ren (shift H.length) r, (if hasRo r || H'.any hasRoB then freeze H bs else H) ++ H'.map (renB (shift H.length)))
      | none => none
    | none => if d then none else bodyW DC 165 xs H := callW_body rfl rfl rfl
@[simp] theorem call166 (d : Bool) (xs : List V) (H : Heap) : callW DC d (.fn 166 []) xs H = match sealL H xs with
    | some (ys, bs) => match bodyW DC 166 ys [] with
      | some (r, H') => some (ren (shift H.length) r, (if hasRo r || H'.any hasRoB then freeze H bs else H) ++ H'.map (renB (shift H.length)))
      | none => none
    | none => if d then none else bodyW DC 166 xs H := callW_body rfl rfl rfl
@[simp] theorem call167 (d : Bool) (xs : List V) (H : Heap) : callW DC d (.fn 167 []) xs H = match sealL H xs with
    | some (ys, bs) => match bodyW DC 167 ys [] with
      | some (r, H') => some (ren (shift H.length) r, (if hasRo r || H'.any hasRoB then freeze H bs else H) ++ H'.map (renB (shift H.length)))
      | none => none
    | none => if d then none else bodyW DC 167 xs H := callW_body rfl rfl rfl
@[simp] theorem call168 (d : Bool) (xs : List V) (H : Heap) : callW DC d (.fn 168 []) xs H = match sealL H xs with
    | some (ys, bs) => match bodyW DC 168 ys [] with
      | some (r, H') => some (ren (shift H.length) r, (if hasRo r || H'.any hasRoB then freeze H bs else H) ++ H'.map (renB (shift H.length)))
      | none => none
    | none => if d then none else bodyW DC 168 xs H := callW_body rfl rfl rfl
@[simp] theorem call169 (d : Bool) (xs : List V) (H : Heap) : callW DC d (.fn 169 []) xs H = match sealL H xs with
    | some (ys, bs) => match bodyW DC 169 ys [] with
      | some (r, H') => some (ren (shift H.length) r, (if hasRo r || H'.any hasRoB then freeze H bs else H) ++ H'.map (renB (shift H.length)))
      | none => none
    | none => if d then none else bodyW DC 169 xs H := callW_body rfl rfl rfl
@[simp] theorem call171 (d : Bool) (xs : List V) (H : Heap) : callW DC d (.fn 171 []) xs H = match sealL H xs with
    | some (ys, bs) => match bodyW DC 171 ys [] with
      | some (r, H') => some (ren (shift H.length) r, (if hasRo r || H'.any hasRoB then freeze H bs else H) ++ H'.map (renB (shift H.length)))
      | none => none
    | none => if d then none else bodyW DC 171 xs H := callW_body rfl rfl rfl
@[simp] theorem call172 (d : Bool) (xs : List V) (H : Heap) : callW DC d (.fn 172 []) xs H = match sealL H xs with
    | some (ys, bs) => match bodyW DC 172 ys [] with
      | some (r, H') => some (ren (shift H.length) r, (if hasRo r || H'.any hasRoB then freeze H bs else H) ++ H'.map (renB (shift H.length)))
      | none => none
    | none => if d then none else bodyW DC 172 xs H := callW_body rfl rfl rfl
@[simp] theorem call173 (d : Bool) (xs : List V) (H : Heap) : callW DC d (.fn 173 []) xs H = match sealL H xs with
    | some (ys, bs) => match bodyW DC 173 ys [] with
      | some (r, H') => some (ren (shift H.length) r, (if hasRo r || H'.any hasRoB then freeze H bs else H) ++ H'.map (renB (shift H.length)))
      | none => none
    | none => if d then none else bodyW DC 173 xs H := callW_body rfl rfl rfl
@[simp] theorem call175 (d : Bool) (xs : List V) (H : Heap) : callW DC d (.fn 175 []) xs H = match sealL H xs with
    | some (ys, bs) => match bodyW DC 175 ys [] with
      | some (r, H') => some (ren (shift H.length) r, (if hasRo r || H'.any hasRoB then freeze H bs else H) ++ H'.map (renB (shift H.length)))
      | none => none
    | none => if d then none else bodyW DC 175 xs H := callW_body rfl rfl rfl
@[simp] theorem call176 (d : Bool) (xs : List V) (H : Heap) : callW DC d (.fn 176 []) xs H = match sealL H xs with
    | some (ys, bs) => match bodyW DC 176 ys [] with
      | some (r, H') => some (ren (shift H.length) r, (if hasRo r || H'.any hasRoB then freeze H bs else H) ++ H'.map (renB (shift H.length)))
      | none => none
    | none => if d then none else bodyW DC 176 xs H := callW_body rfl rfl rfl
@[simp] theorem call179 (d : Bool) (xs : List V) (H : Heap) : callW DC d (.fn 179 []) xs H = match sealL H xs with
    | some (ys, bs) => match bodyW DC 179 ys [] with
      | some (r, H') => some (ren (shift H.length) r, (if hasRo r || H'.any hasRoB then freeze H bs else H) ++ H'.map (renB (shift H.length)))
      | none => none
    | none => if d then none else bodyW DC 179 xs H := callW_body rfl rfl rfl
@[simp] theorem call180 (d : Bool) (xs : List V) (H : Heap) : callW DC d (.fn 180 []) xs H = match sealL H xs with
    | some (ys, bs) => match bodyW DC 180 ys [] with
      | some (r, H') => some (ren (shift H.length) r, (if hasRo r || H'.any hasRoB then freeze H bs else H) ++ H'.map (renB (shift H.length)))
      | none => none
    | none => if d then none else bodyW DC 180 xs H := callW_body rfl rfl rfl
@[simp] theorem call181 (d : Bool) (xs : List V) (H : Heap) : callW DC d (.fn 181 []) xs H = match sealL H xs with
    | some (ys, bs) => match bodyW DC 181 ys [] with
      | some (r, H') => some (ren (shift H.length) r, (if hasRo r || H'.any hasRoB then freeze H bs else H) ++ H'.map (renB (shift H.length)))
      | none => none
    | none => if d then none else bodyW DC 181 xs H := callW_body rfl rfl rfl
@[simp] theorem call182 (d : Bool) (xs : List V) (H : Heap) : callW DC d (.fn 182 []) xs H = match sealL H xs with
    | some (ys, bs) => match bodyW DC 182 ys [] with
      | some (r, H') => some (ren (shift H.length) r, (if hasRo r || H'.any hasRoB then freeze H bs else H) ++ H'.map (renB (shift H.length)))
      | none => none
    | none => if d then none else bodyW DC 182 xs H := callW_body rfl rfl rfl
@[simp] theorem call183 (d : Bool) (xs : List V) (H : Heap) : callW DC d (.fn 183 []) xs H = match sealL H xs with
    | some (ys, bs) => match bodyW DC 183 ys [] with
      | some (r, H') => some (ren (shift H.length) r, (if hasRo r || H'.any hasRoB then freeze H bs else H) ++ H'.map (renB (shift H.length)))
      | none => none
    | none => if d then none else bodyW DC 183 xs H := callW_body rfl rfl rfl
@[simp] theorem call184 (d : Bool) (xs : List V) (H : Heap) : callW DC d (.fn 184 []) xs H = match sealL H xs with
    | some (ys, bs) => match bodyW DC 184 ys [] with
      | some (r, H') => some (ren (shift H.length) r, (if hasRo r || H'.any hasRoB then freeze H bs else H) ++ H'.map (renB (shift H.length)))
      | none => none
    | none => if d then none else bodyW DC 184 xs H := callW_body rfl rfl rfl
@[simp] theorem call185 (d : Bool) (xs : List V) (H : Heap) : callW DC d (.fn 185 []) xs H = match sealL H xs with
    | some (ys, bs) => match bodyW DC 185 ys [] with
      | some (r, H') => some (ren (shift H.length) r, (if hasRo r || H'.any hasRoB then freeze H bs else H) ++ H'.map (renB (shift H.length)))
      | none => none
    | none => if d then none else bodyW DC 185 xs H := callW_body rfl rfl rfl
@[simp] theorem call186 (d : Bool) (xs : List V) (H : Heap) : callW DC d (.fn 186 []) xs H = match sealL H xs with
    | some (ys, bs) => match bodyW DC 186 ys [] with
      | some (r, H') => some (ren (shift H.length) r, (if hasRo r || H'.any hasRoB then freeze H bs else H) ++ H'.map (renB (shift H.length)))
      | none => none
    | none => if d then none else bodyW DC 186 xs H := callW_body rfl rfl rfl
@[simp] theorem call187 (d : Bool) (xs : List V) (H : Heap) : callW DC d (.fn 187 []) xs H = match sealL H xs with
    | some (ys, bs) => match bodyW DC 187 ys [] with
      | some (r, H') => some (ren (shift H.length) r, (if hasRo r || H'.any hasRoB then freeze H bs else H) ++ H'.map (renB (shift H.length)))
      | none => none
    | none => if d then none else bodyW DC 187 xs H := callW_body rfl rfl rfl
@[simp] theorem call188 (d : Bool) (xs : List V) (H : Heap) : callW DC d (.fn 188 []) xs H = match sealL H xs with
    | some (ys, bs) => match bodyW DC 188 ys [] with
      | some (r, H') => some (ren (shift H.length) r, (if hasRo r || H'.any hasRoB then freeze H bs else H) ++ H'.map (renB (shift H.length)))
      | none => none
    | none => if d then none else bodyW DC 188 xs H := callW_body rfl rfl rfl
@[simp] theorem call189 (d : Bool) (xs : List V) (H : Heap) : callW DC d (.fn 189 []) xs H = match sealL H xs with
    | some (ys, bs) => match bodyW DC 189 ys [] with
      | some (r, H') => some (ren (shift H.length) r, (if hasRo r || H'.any hasRoB then freeze H bs else H) ++ H'.map (renB (shift H.length)))
      | none => none
    | none => if d then none else bodyW DC 189 xs H := callW_body rfl rfl rfl
@[simp] theorem call190 (d : Bool) (xs : List V) (H : Heap) : callW DC d (.fn 190 []) xs H = match sealL H xs with
    | some (ys, bs) => match bodyW DC 190 ys [] with
      | some (r, H') => some (ren (shift H.length) r, (if hasRo r || H'.any hasRoB then freeze H bs else H) ++ H'.map (renB (shift H.length)))
      | none => none
    | none => if d then none else bodyW DC 190 xs H := callW_body rfl rfl rfl
@[simp] theorem call191 (d : Bool) (xs : List V) (H : Heap) : callW DC d (.fn 191 []) xs H = match sealL H xs with
    | some (ys, bs) => match bodyW DC 191 ys [] with
      | some (r, H') => some (ren (shift H.length) r, (if hasRo r || H'.any hasRoB then freeze H bs else H) ++ H'.map (renB (shift H.length)))
      | none => none
    | none => if d then none else bodyW DC 191 xs H := callW_body rfl rfl rfl
@[simp] theorem call192 (d : Bool) (xs : List V) (H : Heap) : callW DC d (.fn 192 []) xs H = match sealL H xs with
    | some (ys, bs) => match bodyW DC 192 ys [] with
      | some (r, H') => some (ren (shift H.length) r, (if hasRo r || H'.any hasRoB then freeze H bs else H) ++ H'.map (renB (shift H.length)))
      | none => none
    | none => if d then none else bodyW DC 192 xs H := callW_body rfl rfl rfl
@[simp] theorem call193 (d : Bool) (xs : List V) (H : Heap) : callW DC d (.fn 193 []) xs H = match sealL H xs with
    | some (ys, bs) => match bodyW DC 193 ys [] with
      | some (r, H') => some (ren (shift H.length) r, (if hasRo r || H'.any hasRoB then freeze H bs else H) ++ H'.map (renB (shift H.length)))
      | none => none
    | none => if d then none else bodyW DC 193 xs H := callW_body rfl rfl rfl
@[simp] theorem call194 (d : Bool) (xs : List V) (H : Heap) : callW DC d (.fn 194 []) xs H = match sealL H xs with
    | some (ys, bs) => match bodyW DC 194 ys [] with
      | some (r, H') => some (ren (shift H.length) r, (if hasRo r || H'.any hasRoB then freeze H bs else H) ++ H'.map (renB (shift H.length)))
      | none => none
    | none => if d then none else bodyW DC 194 xs H := callW_body rfl rfl rfl
@[simp] theorem call195 (d : Bool) (xs : List V) (H : Heap) : callW DC d (.fn 195 []) xs H = match sealL H xs with
    | some (ys, bs) => match bodyW DC 195 ys [] with
      | some (r, H') => some (ren (shift H.length) r, (if hasRo r || H'.any hasRoB then freeze H bs else H) ++ H'.map (renB (shift H.length)))
      | none => none
    | none => if d then none else bodyW DC 195 xs H := callW_body rfl rfl rfl
@[simp] theorem call196 (d : Bool) (xs : List V) (H : Heap) : callW DC d (.fn 196 []) xs H = match sealL H xs with
    | some (ys, bs) => match bodyW DC 196 ys [] with
      | some (r, H') => some (ren (shift H.length) r, (if hasRo r || H'.any hasRoB then freeze H bs else H) ++ H'.map (renB (shift H.length)))
      | none => none
    | none => if d then none else bodyW DC 196 xs H := callW_body rfl rfl rfl
@[simp] theorem call197 (d : Bool) (xs : List V) (H : Heap) : callW DC d (.fn 197 []) xs H = match sealL H xs with
    | some (ys, bs) => match bodyW DC 197 ys [] with
      | some (r, H') => some (ren (shift H.length) r, (if hasRo r || H'.any hasRoB then freeze H bs else H) ++ H'.map (renB (shift H.length)))
      | none => none
    | none => if d then none else bodyW DC 197 xs H := callW_body rfl rfl rfl
@[simp] theorem call199 (d : Bool) (xs : List V) (H : Heap) : callW DC d (.fn 199 []) xs H = match sealL H xs with
    | some (ys, bs) => match bodyW DC 199 ys [] with
      | some (r, H') => some (ren (shift H.length) r, (if hasRo r || H'.any hasRoB then freeze H bs else H) ++ H'.map (renB (shift H.length)))
      | none => none
    | none => if d then none else bodyW DC 199 xs H := callW_body rfl rfl rfl
@[simp] theorem call200 (d : Bool) (xs : List V) (H : Heap) : callW DC d (.fn 200 []) xs H = match sealL H xs with
    | some (ys, bs) => match bodyW DC 200 ys [] with
      | some (r, H') => some (ren (shift H.length) r, (if hasRo r || H'.any hasRoB then freeze H bs else H) ++ H'.map (renB (shift H.length)))
      | none => none
    | none => if d then none else bodyW DC 200 xs H := callW_body rfl rfl rfl
@[simp] theorem call201 (d : Bool) (xs : List V) (H : Heap) : callW DC d (.fn 201 []) xs H = match sealL H xs with
    | some (ys, bs) => match bodyW DC 201 ys [] with
      | some (r, H') => some (ren (shift H.length) r, (if hasRo r || H'.any hasRoB then freeze H bs else H) ++ H'.map (renB (shift H.length)))
      | none => none
    | none => if d then none else bodyW DC 201 xs H := callW_body rfl rfl rfl
@[simp] theorem call202 (d : Bool) (xs : List V) (H : Heap) : callW DC d (.fn 202 []) xs H = match sealL H xs with
    | some (ys, bs) => match bodyW DC 202 ys [] with
      | some (r, H') => some (ren (shift H.length) r, (if hasRo r || H'.any hasRoB then freeze H bs else H) ++ H'.map (renB (shift H.length)))
      | none => none
    | none => if d then none else bodyW DC 202 xs H := callW_body rfl rfl rfl
@[simp] theorem call203 (d : Bool) (xs : List V) (H : Heap) : callW DC d (.fn 203 []) xs H = match sealL H xs with
    | some (ys, bs) => match bodyW DC 203 ys [] with
      | some (r, H') => some (ren (shift H.length) r, (if hasRo r || H'.any hasRoB then freeze H bs else H) ++ H'.map (renB (shift H.length)))
      | none => none
    | none => if d then none else bodyW DC 203 xs H := callW_body rfl rfl rfl
@[simp] theorem call204 (d : Bool) (xs : List V) (H : Heap) : callW DC d (.fn 204 []) xs H = match sealL H xs with
    | some (ys, bs) => match bodyW DC 204 ys [] with
      | some (r, H') => some (ren (shift H.length) r, (if hasRo r || H'.any hasRoB then freeze H bs else H) ++ H'.map (renB (shift H.length)))
      | none => none
    | none => if d then none else bodyW DC 204 xs H := callW_body rfl rfl rfl
@[simp] theorem call205 (d : Bool) (xs : List V) (H : Heap) : callW DC d (.fn 205 []) xs H = match sealL H xs with
    | some (ys, bs) => match bodyW DC 205 ys [] with
      | some (r, H') => some (ren (shift H.length) r, (if hasRo r || H'.any hasRoB then freeze H bs else H) ++ H'.map (renB (shift H.length)))
      | none => none
    | none => if d then none else bodyW DC 205 xs H := callW_body rfl rfl rfl
@[simp] theorem call206 (d : Bool) (xs : List V) (H : Heap) : callW DC d (.fn 206 []) xs H = match sealL H xs with
    | some (ys, bs) => match bodyW DC 206 ys [] with
      | some (r, H') => some (ren (shift H.length) r, (if hasRo r || H'.any hasRoB then freeze H bs else H) ++ H'.map (renB (shift H.length)))
      | none => none
    | none => if d then none else bodyW DC 206 xs H := callW_body rfl rfl rfl
@[simp] theorem call207 (d : Bool) (xs : List V) (H : Heap) : callW DC d (.fn 207 []) xs H = match sealL H xs with
    | some (ys, bs) => match bodyW DC 207 ys [] with
      | some (r, H') => some (ren (shift H.length) r, (if hasRo r || H'.any hasRoB then freeze H bs else H) ++ H'.map (renB (shift H.length)))
      | none => none
    | none => if d then none else bodyW DC 207 xs H := callW_body rfl rfl rfl
@[simp] theorem call208 (d : Bool) (xs : List V) (H : Heap) : callW DC d (.fn 208 []) xs H = match sealL H xs with
    | some (ys, bs) => match bodyW DC 208 ys [] with
      | some (r, H') => some (ren (shift H.length) r, (if hasRo r || H'.any hasRoB then freeze H bs else H) ++ H'.map (renB (shift H.length)))
      | none => none
    | none => if d then none else bodyW DC 208 xs H := callW_body rfl rfl rfl
@[simp] theorem call209 (d : Bool) (xs : List V) (H : Heap) : callW DC d (.fn 209 []) xs H = match sealL H xs with
    | some (ys, bs) => match bodyW DC 209 ys [] with
      | some (r, H') => some (ren (shift H.length) r, (if hasRo r || H'.any hasRoB then freeze H bs else H) ++ H'.map (renB (shift H.length)))
      | none => none
    | none => if d then none else bodyW DC 209 xs H := callW_body rfl rfl rfl
@[simp] theorem call210 (d : Bool) (xs : List V) (H : Heap) : callW DC d (.fn 210 []) xs H = match sealL H xs with
    | some (ys, bs) => match bodyW DC 210 ys [] with
      | some (r, H') => some (ren (shift H.length) r, (if hasRo r || H'.any hasRoB then freeze H bs else H) ++ H'.map (renB (shift H.length)))
      | none => none
    | none => if d then none else bodyW DC 210 xs H := callW_body rfl rfl rfl
@[simp] theorem call212 (d : Bool) (xs : List V) (H : Heap) : callW DC d (.fn 212 []) xs H = match sealL H xs with
    | some (ys, bs) => match bodyW DC 212 ys [] with
      | some (r, H') => some (ren (shift H.length) r, (if hasRo r || H'.any hasRoB then freeze H bs else H) ++ H'.map (renB (shift H.length)))
      | none => none
    | none => if d then none else bodyW DC 212 xs H := callW_body rfl rfl rfl
@[simp] theorem call216 (d : Bool) (xs : List V) (H : Heap) : callW DC d (.fn 216 []) xs H = match sealL H xs with
    | some (ys, bs) => match bodyW DC 216 ys [] with
      | some (r, H') => some (ren (shift H.length) r, (if hasRo r || H'.any hasRoB then freeze H bs else H) ++ H'.map (renB (shift H.length)))
      | none => none
    | none => if d then none else bodyW DC 216 xs H := callW_body rfl rfl rfl
@[simp] theorem call217 (d : Bool) (xs : List V) (H : Heap) : callW DC d (.fn 217 []) xs H = match sealL H xs with
    | some (ys, bs) => match bodyW DC 217 ys [] with
      | some (r, H') => some (ren (shift H.length) r, (if hasRo r || H'.any hasRoB then freeze H bs else H) ++ H'.map (renB (shift H.length)))
      | none => none
    | none => if d then none else bodyW DC 217 xs H := callW_body rfl rfl rfl
@[simp] theorem call218 (d : Bool) (xs : List V) (H : Heap) : callW DC d (.fn 218 []) xs H = match sealL H xs with
    | some (ys, bs) => match bodyW DC 218 ys [] with
      | some (r, H') => some (ren (shift H.length) r, (if hasRo r || H'.any hasRoB then freeze H bs else H) ++ H'.map (renB (shift H.length)))
      | none => none
    | none => if d then none else bodyW DC 218 xs H := callW_body rfl rfl rfl
@[simp] theorem call222 (d : Bool) (xs : List V) (H : Heap) : callW DC d (.fn 222 []) xs H = match sealL H xs with
    | some (ys, bs) => match bodyW DC 222 ys [] with
      | some (r, H') => some (ren (shift H.length) r, (if hasRo r || H'.any hasRoB then freeze H bs else H) ++ H'.map (renB (shift H.length)))
      | none => none
    | none => if d then none else bodyW DC 222 xs H := callW_body rfl rfl rfl
@[simp] theorem call223 (d : Bool) (xs : List V) (H : Heap) : callW DC d (.fn 223 []) xs H = match sealL H xs with
    | some (ys, bs) => match bodyW DC 223 ys [] with
      | some (r, H') => some (ren (shift H.length) r, (if hasRo r || H'.any hasRoB then freeze H bs else H) ++ H'.map (renB (shift H.length)))
      | none => none
    | none => if d then none else bodyW DC 223 xs H := callW_body rfl rfl rfl
@[simp] theorem call224 (d : Bool) (xs : List V) (H : Heap) : callW DC d (.fn 224 []) xs H = match sealL H xs with
    | some (ys, bs) => match bodyW DC 224 ys [] with
      | some (r, H') => some (ren (shift H.length) r, (if hasRo r || H'.any hasRoB then freeze H bs else H) ++ H'.map (renB (shift H.length)))
      | none => none
    | none => if d then none else bodyW DC 224 xs H := callW_body rfl rfl rfl
@[simp] theorem call225 (d : Bool) (xs : List V) (H : Heap) : callW DC d (.fn 225 []) xs H = match sealL H xs with
    | some (ys, bs) => match bodyW DC 225 ys [] with
      | some (r, H') => some (ren (shift H.length) r, (if hasRo r || H'.any hasRoB then freeze H bs else H) ++ H'.map (renB (shift H.length)))
      | none => none
    | none => if d then none else bodyW DC 225 xs H := callW_body rfl rfl rfl
@[simp] theorem call226 (d : Bool) (xs : List V) (H : Heap) : callW DC d (.fn 226 []) xs H = match sealL H xs with
    | some (ys, bs) => match bodyW DC 226 ys [] with
      | some (r, H') => some (ren (shift H.length) r, (if hasRo r || H'.any hasRoB then freeze H bs else H) ++ H'.map (renB (shift H.length)))
      | none => none
    | none => if d then none else bodyW DC 226 xs H := callW_body rfl rfl rfl
@[simp] theorem call228 (d : Bool) (xs : List V) (H : Heap) : callW DC d (.fn 228 []) xs H = match sealL H xs with
    | some (ys, bs) => match bodyW DC 228 ys [] with
      | some (r, H') => some (ren (shift H.length) r, (if hasRo r || H'.any hasRoB then freeze H bs else H) ++ H'.map (renB (shift H.length)))
      | none => none
    | none => if d then none else bodyW DC 228 xs H := callW_body rfl rfl rfl
@[simp] theorem call123 (d : Bool) (xs : List V) (H : Heap) : callW DC d (.fn 123 []) xs H = match sealL H xs with
    | some (ys, bs) => match splitX ys with
      | some (r, H') => some (ren (shift H.length) r, (if hasRo r || H'.any hasRoB then freeze H bs else H) ++ H'.map (renB (shift H.length)))
      | none => none
    | none => if d then none else bodyW DC 123 xs H := callW_ext rfl rfl rfl
@[simp] theorem call128 (d : Bool) (xs : List V) (H : Heap) : callW DC d (.fn 128 []) xs H = match sealL H xs with
    | some (ys, bs) => match cloneX 2 24 ys with
      | some (r, H') => some (ren (shift H.length) r, (if hasRo r || H'.any hasRoB then freeze H bs else H) ++ H'.map (renB (shift H.length)))
      | none => none
    | none => if d then none else bodyW DC 128 xs H := callW_ext rfl rfl rfl
@[simp] theorem call148 (d : Bool) (xs : List V) (H : Heap) : callW DC d (.fn 148 []) xs H = match sealL H xs with
    | some (ys, bs) => match repeatX ys with
      | some (r, H') => some (ren (shift H.length) r, (if hasRo r || H'.any hasRoB then freeze H bs else H) ++ H'.map (renB (shift H.length)))
      | none => none
    | none => if d then none else bodyW DC 148 xs H := callW_ext rfl rfl rfl
@[simp] theorem call170 (d : Bool) (xs : List V) (H : Heap) : callW DC d (.fn 170 []) xs H = match sealL H xs with
    | some (ys, bs) => match compareX ys with
      | some (r, H') => some (ren (shift H.length) r, (if hasRo r || H'.any hasRoB then freeze H bs else H) ++ H'.map (renB (shift H.length)))
      | none => none
    | none => if d then none else bodyW DC 170 xs H := callW_ext rfl rfl rfl
@[simp] theorem call178 (d : Bool) (xs : List V) (H : Heap) : callW DC d (.fn 178 []) xs H = match sealL H xs with
    | some (ys, bs) => match mulX ys with
      | some (r, H') => some (ren (shift H.length) r, (if hasRo r || H'.any hasRoB then freeze H bs else H) ++ H'.map (renB (shift H.length)))
      | none => none
    | none => if d then none else bodyW DC 178 xs H := callW_ext rfl rfl rfl
@[simp] theorem call213 (d : Bool) (xs : List V) (H : Heap) : callW DC d (.fn 213 []) xs H = match sealL H xs with
    | some (ys, bs) => match cloneX 1 16 ys with
      | some (r, H') => some (ren (shift H.length) r, (if hasRo r || H'.any hasRoB then freeze H bs else H) ++ H'.map (renB (shift H.length)))
      | none => none
    | none => if d then none else bodyW DC 213 xs H := callW_ext rfl rfl rfl
@[simp] theorem call214 (d : Bool) (xs : List V) (H : Heap) : callW DC d (.fn 214 []) xs H = match sealL H xs with
    | some (ys, bs) => match cloneX 1 8 ys with
      | some (r, H') => some (ren (shift H.length) r, (if hasRo r || H'.any hasRoB then freeze H bs else H) ++ H'.map (renB (shift H.length)))
      | none => none
    | none => if d then none else bodyW DC 214 xs H := callW_ext rfl rfl rfl
@[simp] theorem call220 (d : Bool) (xs : List V) (H : Heap) : callW DC d (.fn 220 []) xs H = match sealL H xs with
    | some (ys, bs) => match indexByteX ys with
      | some (r, H') => some (ren (shift H.length) r, (if hasRo r || H'.any hasRoB then freeze H bs else H) ++ H'.map (renB (shift H.length)))
      | none => none
    | none => if d then none else bodyW DC 220 xs H := callW_ext rfl rfl rfl
@[simp] theorem call141 (xs : List V) (H : Heap) : callW DC false (.fn 141 []) xs H = insAtX 24 xs H := callW_extE rfl
@[simp] theorem call149 (xs : List V) (H : Heap) : callW DC false (.fn 149 []) xs H = strX 185 5 xs H := callW_extE rfl
@[simp] theorem call177 (xs : List V) (H : Heap) : callW DC false (.fn 177 []) xs H = copyX 185 xs H := callW_extE rfl
theorem DCB0_ok (f : FuncId) (b : Body) (h : DCB0 f = some b) : ∃ fn, DC.P.funcs[f]? = some fn ∧ fn.name ≠ "runtime.NumGoroutine" ∧ fn.body = some b.code ∧ fn.results.toList = b.results ∧ fn.ntmps = b.ntmps ∧ codeOk DC.P DC.loud (DC.free f) b.ntmps b.code = true := by
  unfold DCB0 at h
  split at h
  · exact good_body Tryz.func3 (by decide) (by kernel_rfl) h
  · exact good_body Tryz.func4 (by decide) (by kernel_rfl) h
  · exact good_body Tryz.func5 (by decide) (by kernel_rfl) h
  · exact good_body Tryz.func6 (by decide) (by kernel_rfl) h
  · exact good_body Tryz.func7 (by decide) (by kernel_rfl) h
  · exact good_body Tryz.func8 (by decide) (by kernel_rfl) h
  · exact good_body Tryz.func9 (by decide) (by kernel_rfl) h
  · exact good_body Tryz.func10 (by decide) (by kernel_rfl) h
  · exact good_body Tryz.func11 (by decide) (by kernel_rfl) h
  · exact good_body Tryz.func12 (by decide) (by kernel_rfl) h
  · exact good_body Tryz.func13 (by decide) (by kernel_rfl) h
  · exact good_body Tryz.func14 (by decide) (by kernel_rfl) h
  · exact good_body Tryz.func15 (by decide) (by kernel_rfl) h
  · exact good_body Tryz.func16 (by decide) (by kernel_rfl) h
  · exact good_body Tryz.func17 (by decide) (by kernel_rfl) h
  · exact good_body Tryz.func18 (by decide) (by kernel_rfl) h
  · exact good_body Tryz.func19 (by decide) (by kernel_rfl) h
  · exact good_body Tryz.func20 (by decide) (by kernel_rfl) h
  · exact good_body Tryz.func21 (by decide) (by kernel_rfl) h
  · exact good_body Tryz.func22 (by decide) (by kernel_rfl) h
  · exact good_body Tryz.func23 (by decide) (by kernel_rfl) h
  · exact good_body Tryz.func24 (by decide) (by kernel_rfl) h
  · exact good_body Tryz.func25 (by decide) (by kernel_rfl) h
  · exact good_body Tryz.func26 (by decide) (by kernel_rfl) h
  · exact good_body Tryz.func27 (by decide) (by kernel_rfl) h
  · exact good_body Tryz.func28 (by decide) (by kernel_rfl) h
  · exact good_body Tryz.func29 (by decide) (by kernel_rfl) h
  · exact good_body Tryz.func30 (by decide) (by kernel_rfl) h
  · exact good_body Tryz.func31 (by decide) (by kernel_rfl) h
  · exact good_body Tryz.func32 (by decide) (by kernel_rfl) h
  · exact good_body Tryz.func33 (by decide) (by kernel_rfl) h
  · exact good_body Tryz.func34 (by decide) (by kernel_rfl) h
  · exact good_body Tryz.func35 (by decide) (by kernel_rfl) h
  · exact good_body Tryz.func36 (by decide) (by kernel_rfl) h
  · exact good_body Tryz.func37 (by decide) (by kernel_rfl) h
  · exact good_body Tryz.func38 (by decide) (by kernel_rfl) h
  · exact good_body Tryz.func39 (by decide) (by kernel_rfl) h
  · exact good_body Tryz.func40 (by decide) (by kernel_rfl) h
  · exact good_body Tryz.func41 (by decide) (by kernel_rfl) h
  · exact good_body Tryz.func42 (by decide) (by kernel_rfl) h
  · cases h
theorem DCB1_ok (f : FuncId) (b : Body) (h : DCB1 f = some b) : ∃ fn, DC.P.funcs[f]? = some fn ∧ fn.name ≠ "runtime.NumGoroutine" ∧ fn.body = some b.code ∧ fn.results.toList = b.results ∧ fn.ntmps = b.ntmps ∧ codeOk DC.P DC.loud (DC.free f) b.ntmps b.code = true := by
  unfold DCB1 at h
  split at h
  · exact good_body Tryz.func43 (by decide) (by kernel_rfl) h
  · exact good_body Tryz.func44 (by decide) (by kernel_rfl) h
  · exact good_body Tryz.func45 (by decide) (by kernel_rfl) h
  · exact good_body Tryz.func46 (by decide) (by kernel_rfl) h
  · exact good_body Tryz.func47 (by decide) (by kernel_rfl) h
  · exact good_body Tryz.func48 (by decide) (by kernel_rfl) h
  · exact good_body Tryz.func49 (by decide) (by kernel_rfl) h
  · exact good_body Tryz.func50 (by decide) (by kernel_rfl) h
  · exact good_body Tryz.func51 (by decide) (by kernel_rfl) h
  · exact good_body Tryz.func53 (by decide) (by kernel_rfl) h
  · exact good_body Tryz.func54 (by decide) (by kernel_rfl) h
  · exact good_body Tryz.func55 (by decide) (by kernel_rfl) h
  · exact good_body Tryz.func56 (by decide) (by kernel_rfl) h
  · exact good_body Tryz.func57 (by decide) (by kernel_rfl) h
  · exact good_body Tryz.func58 (by decide) (by kernel_rfl) h
  · exact good_body Tryz.func59 (by decide) (by kernel_rfl) h
  · exact good_body Tryz.func60 (by decide) (by kernel_rfl) h
  · exact good_body Tryz.func61 (by decide) (by kernel_rfl) h
  · exact good_body Tryz.func62 (by decide) (by kernel_rfl) h
  · exact good_body Tryz.func63 (by decide) (by kernel_rfl) h
  · exact good_body Tryz.func64 (by decide) (by kernel_rfl) h
  · exact good_body Tryz.func65 (by decide) (by kernel_rfl) h
  · exact good_body Tryz.func66 (by decide) (by kernel_rfl) h
  · exact good_body Tryz.func67 (by decide) (by kernel_rfl) h
  · exact good_body Tryz.func68 (by decide) (by kernel_rfl) h
  · exact good_body Tryz.func69 (by decide) (by kernel_rfl) h
  · exact good_body Tryz.func70 (by decide) (by kernel_rfl) h
  · exact good_body Tryz.func71 (by decide) (by kernel_rfl) h
  · exact good_body Tryz.func72 (by decide) (by kernel_rfl) h
  · exact good_body Tryz.func73 (by decide) (by kernel_rfl) h
  · exact good_body Tryz.func74 (by decide) (by kernel_rfl) h
  · exact good_body Tryz.func75 (by decide) (by kernel_rfl) h
  · exact good_body Tryz.func76 (by decide) (by kernel_rfl) h
  · exact good_body Tryz.func77 (by decide) (by kernel_rfl) h
  · exact good_body Tryz.func78 (by decide) (by kernel_rfl) h
  · exact good_body Tryz.func79 (by decide) (by kernel_rfl) h
  · exact good_body Tryz.func80 (by decide) (by kernel_rfl) h
  · exact good_body Tryz.func81 (by decide) (by kernel_rfl) h
  · exact good_body Tryz.func82 (by decide) (by kernel_rfl) h
  · exact good_body Tryz.func83 (by decide) (by kernel_rfl) h
  · cases h
theorem DCB2_ok (f : FuncId) (b : Body) (h : DCB2 f = some b) : ∃ fn, DC.P.funcs[f]? = some fn ∧ fn.name ≠ "runtime.NumGoroutine" ∧ fn.body = some b.code ∧ fn.results.toList = b.results ∧ fn.ntmps = b.ntmps ∧ codeOk DC.P DC.loud (DC.free f) b.ntmps b.code = true := by
  unfold DCB2 at h
  split at h
  · exact good_body Tryz.func84 (by decide) (by kernel_rfl) h
  · exact good_body Tryz.func85 (by decide) (by kernel_rfl) h
  · exact good_body Tryz.func86 (by decide) (by kernel_rfl) h
  · exact good_body Tryz.func87 (by decide) (by kernel_rfl) h
  · exact good_body Tryz.func88 (by decide) (by kernel_rfl) h
  · exact good_body Tryz.func89 (by decide) (by kernel_rfl) h
  · exact good_body Tryz.func90 (by decide) (by kernel_rfl) h
  · exact good_body Tryz.func91 (by decide) (by kernel_rfl) h
  · exact good_body Tryz.func92 (by decide) (by kernel_rfl) h
  · exact good_body Tryz.func93 (by decide) (by kernel_rfl) h
  · exact good_body Tryz.func94 (by decide) (by kernel_rfl) h
  · exact good_body Tryz.func95 (by decide) (by kernel_rfl) h
  · exact good_body Tryz.func96 (by decide) (by kernel_rfl) h
  · exact good_body Tryz.func97 (by decide) (by kernel_rfl) h
  · exact good_body Tryz.func98 (by decide) (by kernel_rfl) h
  · exact good_body Tryz.func99 (by decide) (by kernel_rfl) h
  · exact good_body Tryz.func100 (by decide) (by kernel_rfl) h
  · exact good_body Tryz.func101 (by decide) (by kernel_rfl) h
  · exact good_body Tryz.func102 (by decide) (by kernel_rfl) h
  · exact good_body Tryz.func103 (by decide) (by kernel_rfl) h
  · exact good_body Tryz.func104 (by decide) (by kernel_rfl) h
  · exact good_body Tryz.func105 (by decide) (by kernel_rfl) h
  · exact good_body Tryz.func106 (by decide) (by kernel_rfl) h
  · exact good_body Tryz.func107 (by decide) (by kernel_rfl) h
  · exact good_body Tryz.func108 (by decide) (by kernel_rfl) h
  · exact good_body Tryz.func109 (by decide) (by kernel_rfl) h
  · exact good_body Tryz.func110 (by decide) (by kernel_rfl) h
  · exact good_body Tryz.func111 (by decide) (by kernel_rfl) h
  · exact good_body Tryz.func112 (by decide) (by kernel_rfl) h
  · exact good_body Tryz.func113 (by decide) (by kernel_rfl) h
  · exact good_body Tryz.func114 (by decide) (by kernel_rfl) h
  · exact good_body Tryz.func115 (by decide) (by kernel_rfl) h
  · exact good_body Tryz.func116 (by decide) (by kernel_rfl) h
  · exact good_body Tryz.func117 (by decide) (by kernel_rfl) h
  · exact good_body Tryz.func118 (by decide) (by kernel_rfl) h
  · exact good_body Tryz.func119 (by decide) (by kernel_rfl) h
  · exact good_body Tryz.func120 (by decide) (by kernel_rfl) h
  · exact good_body Tryz.func121 (by decide) (by kernel_rfl) h
  · exact good_body Tryz.func122 (by decide) (by kernel_rfl) h
  · exact good_body Tryz.func124 (by decide) (by kernel_rfl) h
  · cases h
theorem DCB3_ok (f : FuncId) (b : Body) (h : DCB3 f = some b) : ∃ fn, DC.P.funcs[f]? = some fn ∧ fn.name ≠ "runtime.NumGoroutine" ∧ fn.body = some b.code ∧ fn.results.toList = b.results ∧ fn.ntmps = b.ntmps ∧ codeOk DC.P DC.loud (DC.free f) b.ntmps b.code = true := by
  unfold DCB3 at h
  split at h
  · exact good_body Tryz.func125 (by decide) (by kernel_rfl) h
  · exact good_body Tryz.func126 (by decide) (by kernel_rfl) h
  · exact good_body Tryz.func127 (by decide) (by kernel_rfl) h
  · exact good_body Tryz.func129 (by decide) (by kernel_rfl) h
  · exact good_body Tryz.func130 (by decide) (by kernel_rfl) h
  · exact good_body Tryz.func131 (by decide) (by kernel_rfl) h
  · exact good_body Tryz.func132 (by decide) (by kernel_rfl) h
  · exact good_body Tryz.func133 (by decide) (by kernel_rfl) h
  · exact good_body Tryz.func134 (by decide) (by kernel_rfl) h
  · exact good_body Tryz.func135 (by decide) (by kernel_rfl) h
  · exact good_body Tryz.func136 (by decide) (by kernel_rfl) h
  · exact good_body Tryz.func137 (by decide) (by kernel_rfl) h
  · exact good_body Tryz.func138 (by decide) (by kernel_rfl) h
  · exact good_body Tryz.func139 (by decide) (by kernel_rfl) h
  · exact good_body Tryz.func140 (by decide) (by kernel_rfl) h
  · exact good_body Tryz.func142 (by decide) (by kernel_rfl) h
  · exact good_body Tryz.func143 (by decide) (by kernel_rfl) h
  · exact good_body Tryz.func144 (by decide) (by kernel_rfl) h
  · exact good_body Tryz.func145 (by decide) (by kernel_rfl) h
  · exact good_body Tryz.func146 (by decide) (by kernel_rfl) h
  · exact good_body Tryz.func147 (by decide) (by kernel_rfl) h
  · exact good_body Tryz.func150 (by decide) (by kernel_rfl) h
  · exact good_body Tryz.func151 (by decide) (by kernel_rfl) h
  · exact good_body Tryz.func152 (by decide) (by kernel_rfl) h
  · exact good_body Tryz.func153 (by decide) (by kernel_rfl) h
  · exact good_body Tryz.func154 (by decide) (by kernel_rfl) h
  · exact good_body Tryz.func155 (by decide) (by kernel_rfl) h
  · exact good_body Tryz.func156 (by decide) (by kernel_rfl) h
  · exact good_body Tryz.func157 (by decide) (by kernel_rfl) h
  · exact good_body Tryz.func158 (by decide) (by kernel_rfl) h
  · exact good_body Tryz.func159 (by decide) (by kernel_rfl) h
  · exact good_body Tryz.func160 (by decide) (by kernel_rfl) h
  · exact good_body Tryz.func161 (by decide) (by kernel_rfl) h
  · exact good_body Tryz.func162 (by decide) (by kernel_rfl) h
  · exact good_body Tryz.func163 (by decide) (by kernel_rfl) h
  · exact good_body Tryz.func164 (by decide) (by kernel_rfl) h
  · exact good_body Tryz.func165 (by decide) (by kernel_rfl) h
  · exact good_body Tryz.func166 (by decide) (by kernel_rfl) h
  · exact good_body Tryz.func167 (by decide) (by kernel_rfl) h
  · exact good_body Tryz.func168 (by decide) (by kernel_rfl) h
  · cases h
theorem DCB4_ok (f : FuncId) (b : Body) (h : DCB4 f = some b) : ∃ fn, DC.P.funcs[f]? = some fn ∧ fn.name ≠ "runtime.NumGoroutine" ∧ fn.body = some b.code ∧ fn.results.toList = b.results ∧ fn.ntmps = b.ntmps ∧ codeOk DC.P DC.loud (DC.free f) b.ntmps b.code = true := by
  unfold DCB4 at h
  split at h
  · exact good_body Tryz.func169 (by decide) (by kernel_rfl) h
  · exact good_body Tryz.func171 (by decide) (by kernel_rfl) h
  · exact good_body Tryz.func172 (by decide) (by kernel_rfl) h
  · exact good_body Tryz.func173 (by decide) (by kernel_rfl) h
  · exact good_body Tryz.func175 (by decide) (by kernel_rfl) h
  · exact good_body Tryz.func176 (by decide) (by kernel_rfl) h
  · exact good_body Tryz.func179 (by decide) (by kernel_rfl) h
  · exact good_body Tryz.func180 (by decide) (by kernel_rfl) h
  · exact good_body Tryz.func181 (by decide) (by kernel_rfl) h
  · exact good_body Tryz.func182 (by decide) (by kernel_rfl) h
  · exact good_body Tryz.func183 (by decide) (by kernel_rfl) h
  · exact good_body Tryz.func184 (by decide) (by kernel_rfl) h
  · exact good_body Tryz.func185 (by decide) (by kernel_rfl) h
  · exact good_body Tryz.func186 (by decide) (by kernel_rfl) h
  · exact good_body Tryz.func187 (by decide) (by kernel_rfl) h
  · exact good_body Tryz.func188 (by decide) (by kernel_rfl) h
  · exact good_body Tryz.func189 (by decide) (by kernel_rfl) h
  · exact good_body Tryz.func190 (by decide) (by kernel_rfl) h
  · exact good_body Tryz.func191 (by decide) (by kernel_rfl) h
  · exact good_body Tryz.func192 (by decide) (by kernel_rfl) h
  · exact good_body Tryz.func193 (by decide) (by kernel_rfl) h
  · exact good_body Tryz.func194 (by decide) (by kernel_rfl) h
  · exact good_body Tryz.func195 (by decide) (by kernel_rfl) h
  · exact good_body Tryz.func196 (by decide) (by kernel_rfl) h
  · exact good_body Tryz.func197 (by decide) (by kernel_rfl) h
  · exact good_body Tryz.func199 (by decide) (by kernel_rfl) h
  · exact good_body Tryz.func200 (by decide) (by kernel_rfl) h
  · exact good_body Tryz.func201 (by decide) (by kernel_rfl) h
  · exact good_body Tryz.func202 (by decide) (by kernel_rfl) h
  · exact good_body Tryz.func203 (by decide) (by kernel_rfl) h
  · exact good_body Tryz.func204 (by decide) (by kernel_rfl) h
  · exact good_body Tryz.func205 (by decide) (by kernel_rfl) h
  · exact good_body Tryz.func206 (by decide) (by kernel_rfl) h
  · exact good_body Tryz.func207 (by decide) (by kernel_rfl) h
  · exact good_body Tryz.func208 (by decide) (by kernel_rfl) h
  · exact good_body Tryz.func209 (by decide) (by kernel_rfl) h
  · exact good_body Tryz.func210 (by decide) (by kernel_rfl) h
  · exact good_body Tryz.func212 (by decide) (by kernel_rfl) h
  · exact good_body Tryz.func216 (by decide) (by kernel_rfl) h
  · exact good_body Tryz.func217 (by decide) (by kernel_rfl) h
  · cases h
theorem DCB5_ok (f : FuncId) (b : Body) (h : DCB5 f = some b) : ∃ fn, DC.P.funcs[f]? = some fn ∧ fn.name ≠ "runtime.NumGoroutine" ∧ fn.body = some b.code ∧ fn.results.toList = b.results ∧ fn.ntmps = b.ntmps ∧ codeOk DC.P DC.loud (DC.free f) b.ntmps b.code = true := by
  unfold DCB5 at h
  split at h
  · exact good_body Tryz.func218 (by decide) (by kernel_rfl) h
  · exact good_body Tryz.func222 (by decide) (by kernel_rfl) h
  · exact good_body Tryz.func223 (by decide) (by kernel_rfl) h
  · exact good_body Tryz.func224 (by decide) (by kernel_rfl) h
  · exact good_body Tryz.func225 (by decide) (by kernel_rfl) h
  · exact good_body Tryz.func226 (by decide) (by kernel_rfl) h
  · exact good_body Tryz.func228 (by decide) (by kernel_rfl) h
  · cases h
theorem DC_body (f : FuncId) (b : Body) (h : DC.body f = some b) : ∃ fn, DC.P.funcs[f]? = some fn ∧ fn.name ≠ "runtime.NumGoroutine" ∧ fn.body = some b.code ∧ fn.results.toList = b.results ∧ fn.ntmps = b.ntmps ∧ codeOk DC.P DC.loud (DC.free f) b.ntmps b.code = true := by
  have hb : DC.body f = (bif Nat.ble f 42 then DCB0 f else bif Nat.ble f 83 then DCB1 f else bif Nat.ble f 124 then DCB2 f else bif Nat.ble f 168 then DCB3 f else bif Nat.ble f 217 then DCB4 f else DCB5 f) := rfl
  rw [hb] at h
  cases h0 : Nat.ble f 42 with
  | true => rw [h0] at h; exact DCB0_ok f b h
  | false =>
  rw [h0] at h; simp only [cond_false] at h
  cases h1 : Nat.ble f 83 with
  | true => rw [h1] at h; exact DCB1_ok f b h
  | false =>
  rw [h1] at h; simp only [cond_false] at h
  cases h2 : Nat.ble f 124 with
  | true => rw [h2] at h; exact DCB2_ok f b h
  | false =>
  rw [h2] at h; simp only [cond_false] at h
  cases h3 : Nat.ble f 168 with
  | true => rw [h3] at h; exact DCB3_ok f b h
  | false =>
  rw [h3] at h; simp only [cond_false] at h
  cases h4 : Nat.ble f 217 with
  | true => rw [h4] at h; exact DCB4_ok f b h
  | false =>
  rw [h4] at h; simp only [cond_false] at h
  exact DCB5_ok f b h
theorem DC_fn123 : FnOk DC.P 123 := ⟨_, Tryz.func123, by decide, by simp [Tryz.f123]⟩
theorem DC_fn128 : FnOk DC.P 128 := ⟨_, Tryz.func128, by decide, by simp [Tryz.f128]⟩
theorem DC_fn141 : FnOk DC.P 141 := ⟨_, Tryz.func141, by decide, by simp [Tryz.f141]⟩
theorem DC_fn148 : FnOk DC.P 148 := ⟨_, Tryz.func148, by decide, by simp [Tryz.f148]⟩
theorem DC_fn149 : FnOk DC.P 149 := ⟨_, Tryz.func149, by decide, by simp [Tryz.f149]⟩
theorem DC_fn170 : FnOk DC.P 170 := ⟨_, Tryz.func170, by decide, by simp [Tryz.f170]⟩
theorem DC_fn177 : FnOk DC.P 177 := ⟨_, Tryz.func177, by decide, by simp [Tryz.f177]⟩
theorem DC_fn178 : FnOk DC.P 178 := ⟨_, Tryz.func178, by decide, by simp [Tryz.f178]⟩
theorem DC_fn213 : FnOk DC.P 213 := ⟨_, Tryz.func213, by decide, by simp [Tryz.f213]⟩
theorem DC_fn214 : FnOk DC.P 214 := ⟨_, Tryz.func214, by decide, by simp [Tryz.f214]⟩
theorem DC_fn220 : FnOk DC.P 220 := ⟨_, Tryz.func220, by decide, by simp [Tryz.f220]⟩
end Go.Abs
