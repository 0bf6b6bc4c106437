/- Proved here: what functions of the program compute, over the evaluator. No condition but those that each theorem states. -/
import Derived.Test.YtfgikfagblhkiaaGreatDoorM4
import Derived.Test.YtfgikfagblhkiaaGreatDoorM6
import Derived.Test.YtfgikfagblhkiaaGreatDoorTF
import Derived.Test.YtfgikfagblhkiaaGreatDoorM3
namespace Go.Abs
open Go.Proofs
set_option maxRecDepth 100000
set_option linter.unusedSimpArgs false
set_option linter.unusedVariables false

/-- The parts of inode n. -/
def ikN (S : List (List UInt8)) (B : List Int) (n : Int) : Int := wd (inoS S B n) 0
def ilN (S : List (List UInt8)) (B : List Int) (n : Int) : Int := wd (inoS S B n) 1
def izN (S : List (List UInt8)) (B : List Int) (n : Int) : Int := wd (inoS S B n) 2
def iLN (S : List (List UInt8)) (B : List Int) (n : Int) : List Int := wdL (inoS S B n)
structure GetOk (S : List (List UInt8)) (B : List Int) (n : Int) : Prop where
  vol : VolP S B
  val : getV S B n = inoV (ikN S B n) (ilN S B n) (izN S B n) (iLN S B n)
  len : (iLN S B n).length = 8
  ok : validI (ikN S B n) (ilN S B n) (izN S B n) (iLN S B n)
  siz : 0 ≤ izN S B n ∧ izN S B n ≤ 1024
theorem get_ok {S : List (List UInt8)} {B : List Int} {n : Int} (h : getE S B n = 0) : GetOk S B n := by
  unfold getE at h
  by_cases he : (secS S B n).2 = 0
  · rw [if_pos he] at h
    have ho : okS (inoS S B n) := by
      unfold parseE at h
      by_cases hc : okS (inoS S B n)
      · exact hc
      · rw [if_neg hc] at h; cases h
    have hv : VolP S B := by
      by_cases hc : VolP S B
      · exact hc
      · unfold secS at he; rw [if_neg hc] at he; cases he
    refine ⟨hv, ?_, ?_, ho.2.1, ?_⟩
    · unfold getV parseV
      rw [if_pos he, if_pos ho]
      rfl
    · unfold iLN wdL; rfl
    · have := ho.2.1
      unfold validI at this
      unfold izN
      split at this
      · rw [this.2.1]; omega
      · exact ⟨this.2.2.2.1, this.2.2.2.2.1⟩
  · rw [if_neg he] at h
    exact absurd h he
theorem getV_no {S : List (List UInt8)} {B : List Int} {n : Int} (h : getE S B n ≠ 0) : getV S B n = ino0 := by
  unfold getE at h
  unfold getV
  by_cases he : (secS S B n).2 = 0
  · rw [if_pos he] at h ⊢
    unfold parseE at h
    unfold parseV
    by_cases hc : okS (inoS S B n)
    · rw [if_pos hc] at h; exact absurd rfl h
    · rw [if_neg hc]
  · rw [if_neg he]

/-- The contents of inode n. -/
def conN (S : List (List UInt8)) (B : List Int) (n : Int) : List UInt8 × Int := contV S B (iLN S B n) (izN S B n)
theorem conN_len {S : List (List UInt8)} {B : List Int} {n : Int} (h : GetOk S B n) : (conN S B n).1.length ≤ 1024 := by
  unfold conN contV
  simp only [List.length_take]
  have := h.siz
  omega

/-- The entries of a directory, or the error. -/
def dirR (S : List (List UInt8)) (B : List Int) (n : Int) : List (List UInt8 × Int) × Int :=
  if getE S B n ≠ 0 then ([], getE S B n) else if ikN S B n ≠ 2 then ([], 15) else if (conN S B n).2 ≠ 0 then ([], (conN S B n).2)
  else if parE (conN S B n).1 = 0 then (decL (conN S B n).1 ((conN S B n).1.length / 16), 0) else ([], 9)

theorem parE_two (s : List UInt8) : parE s = 0 ∨ parE s = 9 := by
  unfold parE
  split
  · exact .inr rfl
  · split
    · exact .inl rfl
    · exact .inr rfl

theorem directory_eq (S : List (List UInt8)) (B : List Int) (hB : B.length ≤ maxLen) (n : Int) :
    bodyW DC 68 [drv S B, .int .i64 n] [] = some (.tuple [.own 0 (dirR S B n).1.length 0 (dirR S B n).1.length, .int .i64 (dirR S B n).2], [.dat true 2 ((dirR S B n).1.map entV)]) := by
  have v1 := Get38_eq S B hB n
  unfold dirR
  by_cases h1 : getE S B n = 0
  case neg =>
    rw [if_pos h1]
    rw [getV_no h1] at v1
    generalize getE S B n = e at v1 h1
    (refine gives_iff ?_; refine go_func Tryz.f68 rfl rfl (by simp [Tryz.f68]) ?_; dsimp only [codeL, Tryz.f68, scL, sopsL, guardL, dstAt, loopKey])
    (repeat (first
    | (apply is_ok; (case hw => simp [v1, h1]); (case he => simp [v1, h1]; exact is_rfl))
    | (apply op_no; (case hw => simp [v1, h1]))
    | refine op_nil ?_ | refine next_normal ?_ | refine go_seq ?_ | refine go_region ?_ | refine go_skip ?_ | refine go_block ?_ | refine inb_normal ?_
    | (apply go_yes; (case hc => simp [v1, h1])) | (apply go_no; (case hc => simp [v1, h1]))
    | refine go_exit ?_ | refine next_exit ?_ | refine inb_here ?_ | refine inb_past (by decide) ?_ | refine go_ret ?_ | refine next_ret ?_ | refine inb_ret ?_))
    (apply ends_ok; (case h1 => simp; exact is_rfl); (case h2 => simp; exact is_rfl))
    simp
  have g := get_ok h1
  rw [if_neg (by simpa using h1)]
  rw [h1, g.val] at v1
  have hl := g.len
  by_cases h2 : ikN S B n = 2
  case neg =>
    rw [if_pos h2]
    generalize ikN S B n = k at v1 h2
    generalize iLN S B n = L at v1 hl
    (refine gives_iff ?_; refine go_func Tryz.f68 rfl rfl (by simp [Tryz.f68]) ?_; dsimp only [codeL, Tryz.f68, scL, sopsL, guardL, dstAt, loopKey])
    (repeat (first
    | (apply is_ok; (case hw => simp [v1, h2, hl]); (case he => simp [v1, h2, hl]; exact is_rfl))
    | (apply op_no; (case hw => simp [v1, h2, hl]))
    | refine op_nil ?_ | refine next_normal ?_ | refine go_seq ?_ | refine go_region ?_ | refine go_skip ?_ | refine go_block ?_ | refine inb_normal ?_
    | (apply go_yes; (case hc => simp [v1, h2, hl])) | (apply go_no; (case hc => simp [v1, h2, hl]))
    | refine go_exit ?_ | refine next_exit ?_ | refine inb_here ?_ | refine inb_past (by decide) ?_ | refine go_ret ?_ | refine next_ret ?_ | refine inb_ret ?_))
    (apply ends_ok; (case h1 => simp; exact is_rfl); (case h2 => simp; exact is_rfl))
    simp
  rw [if_neg (by simpa using h2)]
  have v2 := contents_eq S B g.vol.1 hB (ikN S B n) (ilN S B n) (izN S B n) (iLN S B n) g.len g.siz
  have hcl := conN_len g
  change bodyW DC _ _ _ = some (V.tuple [.str (conN S B n).1, .int .i64 (conN S B n).2], []) at v2
  by_cases h3 : (conN S B n).2 = 0
  case neg =>
    rw [if_pos h3]
    generalize (conN S B n).1 = t at v2
    generalize (conN S B n).2 = e at v2 h3
    generalize iLN S B n = L at v1 v2 hl
    rw [h2] at v1 v2
    (refine gives_iff ?_; refine go_func Tryz.f68 rfl rfl (by simp [Tryz.f68]) ?_; dsimp only [codeL, Tryz.f68, scL, sopsL, guardL, dstAt, loopKey])
    (repeat (first
    | (apply is_ok; (case hw => simp [v1, v2, h3, hl]); (case he => simp [v1, v2, h3, hl]; exact is_rfl))
    | (apply op_no; (case hw => simp [v1, v2, h3, hl]))
    | refine op_nil ?_ | refine next_normal ?_ | refine go_seq ?_ | refine go_region ?_ | refine go_skip ?_ | refine go_block ?_ | refine inb_normal ?_
    | (apply go_yes; (case hc => simp [v1, v2, h3, hl])) | (apply go_no; (case hc => simp [v1, v2, h3, hl]))
    | refine go_exit ?_ | refine next_exit ?_ | refine inb_here ?_ | refine inb_past (by decide) ?_ | refine go_ret ?_ | refine next_ret ?_ | refine inb_ret ?_))
    (apply ends_ok; (case h1 => simp; exact is_rfl); (case h2 => simp; exact is_rfl))
    simp
  rw [if_neg (by simpa using h3)]
  rw [h3] at v2
  have v3 := dParse_eq (conN S B n).1 (by omega)
  generalize (conN S B n).1 = t at v2 v3
  generalize iLN S B n = L at v1 v2 hl
  rw [h2] at v1 v2
  rcases parE_two t with h4 | h4
  · rw [if_pos h4]
    rw [parR_ok h4] at v3
    have hdl := decL_length t (t.length / 16)
    generalize decL t (t.length / 16) = D at v3 hdl
    rw [← hdl] at v3
    (refine gives_iff ?_; refine go_func Tryz.f68 rfl rfl (by simp [Tryz.f68]) ?_; dsimp only [codeL, Tryz.f68, scL, sopsL, guardL, dstAt, loopKey])
    (repeat (first
    | (apply is_ok; (case hw => simp [v1, v2, v3, hl]); (case he => simp [v1, v2, v3, hl]; exact is_rfl))
    | (apply op_no; (case hw => simp [v1, v2, v3, hl]))
    | refine op_nil ?_ | refine next_normal ?_ | refine go_seq ?_ | refine go_region ?_ | refine go_skip ?_ | refine go_block ?_ | refine inb_normal ?_
    | (apply go_yes; (case hc => simp [v1, v2, v3, hl])) | (apply go_no; (case hc => simp [v1, v2, v3, hl]))
    | refine go_exit ?_ | refine next_exit ?_ | refine inb_here ?_ | refine inb_past (by decide) ?_ | refine go_ret ?_ | refine next_ret ?_ | refine inb_ret ?_))
    (apply ends_ok; (case h1 => simp; exact is_rfl); (case h2 => simp; exact is_rfl))
    simp
  · rw [if_neg (by rw [h4]; decide)]
    rw [parR_err h4] at v3
    (refine gives_iff ?_; refine go_func Tryz.f68 rfl rfl (by simp [Tryz.f68]) ?_; dsimp only [codeL, Tryz.f68, scL, sopsL, guardL, dstAt, loopKey])
    (repeat (first
    | (apply is_ok; (case hw => simp [v1, v2, v3, hl]); (case he => simp [v1, v2, v3, hl]; exact is_rfl))
    | (apply op_no; (case hw => simp [v1, v2, v3, hl]))
    | refine op_nil ?_ | refine next_normal ?_ | refine go_seq ?_ | refine go_region ?_ | refine go_skip ?_ | refine go_block ?_ | refine inb_normal ?_
    | (apply go_yes; (case hc => simp [v1, v2, v3, hl])) | (apply go_no; (case hc => simp [v1, v2, v3, hl]))
    | refine go_exit ?_ | refine next_exit ?_ | refine inb_here ?_ | refine inb_past (by decide) ?_ | refine go_ret ?_ | refine next_ret ?_ | refine inb_ret ?_))
    (apply ends_ok; (case h1 => simp; exact is_rfl); (case h2 => simp; exact is_rfl))
    simp

theorem entries_eq (S : List (List UInt8)) (B : List Int) (hB : B.length ≤ maxLen) (n : Int) :
    bodyW DC 80 [drv S B, .int .i64 n] [] = some (.tuple [.own 0 (dirR S B n).1.length 0 (dirR S B n).1.length, .int .i64 (dirR S B n).2], [.dat true 2 ((dirR S B n).1.map entV)]) := by
  have v1 := Get38R_eq S B hB n
  unfold dirR
  by_cases h1 : getE S B n = 0
  case neg =>
    rw [if_pos h1]
    rw [getV_no h1] at v1
    generalize getE S B n = e at v1 h1
    (refine gives_iff ?_; refine go_func Tryz.f80 rfl rfl (by simp [Tryz.f80]) ?_; dsimp only [codeL, Tryz.f80, scL, sopsL, guardL, dstAt, loopKey])
    (repeat (first
    | (apply is_ok; (case hw => simp [v1, h1]); (case he => simp [v1, h1]; exact is_rfl))
    | (apply op_no; (case hw => simp [v1, h1]))
    | refine op_nil ?_ | refine next_normal ?_ | refine go_seq ?_ | refine go_region ?_ | refine go_skip ?_ | refine go_block ?_ | refine inb_normal ?_
    | (apply go_yes; (case hc => simp [v1, h1])) | (apply go_no; (case hc => simp [v1, h1]))
    | refine go_exit ?_ | refine next_exit ?_ | refine inb_here ?_ | refine inb_past (by decide) ?_ | refine go_ret ?_ | refine next_ret ?_ | refine inb_ret ?_))
    (apply ends_ok; (case h1 => simp; exact is_rfl); (case h2 => simp; exact is_rfl))
    simp
  have g := get_ok h1
  rw [if_neg (by simpa using h1)]
  rw [h1, g.val] at v1
  have hl := g.len
  by_cases h2 : ikN S B n = 2
  case neg =>
    rw [if_pos h2]
    generalize ikN S B n = k at v1 h2
    generalize iLN S B n = L at v1 hl
    (refine gives_iff ?_; refine go_func Tryz.f80 rfl rfl (by simp [Tryz.f80]) ?_; dsimp only [codeL, Tryz.f80, scL, sopsL, guardL, dstAt, loopKey])
    (repeat (first
    | (apply is_ok; (case hw => simp [v1, h2, hl]); (case he => simp [v1, h2, hl]; exact is_rfl))
    | (apply op_no; (case hw => simp [v1, h2, hl]))
    | refine op_nil ?_ | refine next_normal ?_ | refine go_seq ?_ | refine go_region ?_ | refine go_skip ?_ | refine go_block ?_ | refine inb_normal ?_
    | (apply go_yes; (case hc => simp [v1, h2, hl])) | (apply go_no; (case hc => simp [v1, h2, hl]))
    | refine go_exit ?_ | refine next_exit ?_ | refine inb_here ?_ | refine inb_past (by decide) ?_ | refine go_ret ?_ | refine next_ret ?_ | refine inb_ret ?_))
    (apply ends_ok; (case h1 => simp; exact is_rfl); (case h2 => simp; exact is_rfl))
    simp
  rw [if_neg (by simpa using h2)]
  have v2 := contentsR_eq S B g.vol.1 hB (ikN S B n) (ilN S B n) (izN S B n) (iLN S B n) g.len g.siz
  have hcl := conN_len g
  change bodyW DC _ _ _ = some (V.tuple [.str (conN S B n).1, .int .i64 (conN S B n).2], []) at v2
  by_cases h3 : (conN S B n).2 = 0
  case neg =>
    rw [if_pos h3]
    generalize (conN S B n).1 = t at v2
    generalize (conN S B n).2 = e at v2 h3
    generalize iLN S B n = L at v1 v2 hl
    rw [h2] at v1 v2
    (refine gives_iff ?_; refine go_func Tryz.f80 rfl rfl (by simp [Tryz.f80]) ?_; dsimp only [codeL, Tryz.f80, scL, sopsL, guardL, dstAt, loopKey])
    (repeat (first
    | (apply is_ok; (case hw => simp [v1, v2, h3, hl]); (case he => simp [v1, v2, h3, hl]; exact is_rfl))
    | (apply op_no; (case hw => simp [v1, v2, h3, hl]))
    | refine op_nil ?_ | refine next_normal ?_ | refine go_seq ?_ | refine go_region ?_ | refine go_skip ?_ | refine go_block ?_ | refine inb_normal ?_
    | (apply go_yes; (case hc => simp [v1, v2, h3, hl])) | (apply go_no; (case hc => simp [v1, v2, h3, hl]))
    | refine go_exit ?_ | refine next_exit ?_ | refine inb_here ?_ | refine inb_past (by decide) ?_ | refine go_ret ?_ | refine next_ret ?_ | refine inb_ret ?_))
    (apply ends_ok; (case h1 => simp; exact is_rfl); (case h2 => simp; exact is_rfl))
    simp
  rw [if_neg (by simpa using h3)]
  rw [h3] at v2
  have v3 := dParseR_eq (conN S B n).1 (by omega)
  generalize (conN S B n).1 = t at v2 v3
  generalize iLN S B n = L at v1 v2 hl
  rw [h2] at v1 v2
  rcases parE_two t with h4 | h4
  · rw [if_pos h4]
    rw [parR_ok h4] at v3
    have hdl := decL_length t (t.length / 16)
    generalize decL t (t.length / 16) = D at v3 hdl
    rw [← hdl] at v3
    (refine gives_iff ?_; refine go_func Tryz.f80 rfl rfl (by simp [Tryz.f80]) ?_; dsimp only [codeL, Tryz.f80, scL, sopsL, guardL, dstAt, loopKey])
    (repeat (first
    | (apply is_ok; (case hw => simp [v1, v2, v3, hl]); (case he => simp [v1, v2, v3, hl]; exact is_rfl))
    | (apply op_no; (case hw => simp [v1, v2, v3, hl]))
    | refine op_nil ?_ | refine next_normal ?_ | refine go_seq ?_ | refine go_region ?_ | refine go_skip ?_ | refine go_block ?_ | refine inb_normal ?_
    | (apply go_yes; (case hc => simp [v1, v2, v3, hl])) | (apply go_no; (case hc => simp [v1, v2, v3, hl]))
    | refine go_exit ?_ | refine next_exit ?_ | refine inb_here ?_ | refine inb_past (by decide) ?_ | refine go_ret ?_ | refine next_ret ?_ | refine inb_ret ?_))
    (apply ends_ok; (case h1 => simp; exact is_rfl); (case h2 => simp; exact is_rfl))
    simp
  · rw [if_neg (by rw [h4]; decide)]
    rw [parR_err h4] at v3
    (refine gives_iff ?_; refine go_func Tryz.f80 rfl rfl (by simp [Tryz.f80]) ?_; dsimp only [codeL, Tryz.f80, scL, sopsL, guardL, dstAt, loopKey])
    (repeat (first
    | (apply is_ok; (case hw => simp [v1, v2, v3, hl]); (case he => simp [v1, v2, v3, hl]; exact is_rfl))
    | (apply op_no; (case hw => simp [v1, v2, v3, hl]))
    | refine op_nil ?_ | refine next_normal ?_ | refine go_seq ?_ | refine go_region ?_ | refine go_skip ?_ | refine go_block ?_ | refine inb_normal ?_
    | (apply go_yes; (case hc => simp [v1, v2, v3, hl])) | (apply go_no; (case hc => simp [v1, v2, v3, hl]))
    | refine go_exit ?_ | refine next_exit ?_ | refine inb_here ?_ | refine inb_past (by decide) ?_ | refine go_ret ?_ | refine next_ret ?_ | refine inb_ret ?_))
    (apply ends_ok; (case h1 => simp; exact is_rfl); (case h2 => simp; exact is_rfl))
    simp
end Go.Abs

namespace Go.Abs
open Go.Proofs
set_option maxRecDepth 100000
set_option linter.unusedSimpArgs false
set_option linter.unusedVariables false

theorem dirR_len (S : List (List UInt8)) (B : List Int) (n : Int) : (dirR S B n).1.length ≤ 64 := by
  unfold dirR
  split
  · simp
  split
  · simp
  split
  · simp
  split
  · rename_i h1 h2 h3 h4
    have g := get_ok (S := S) (B := B) (n := n) (by simpa using h1)
    have := conN_len g
    simp only [decL_length]
    omega
  · simp

/-- Where names lead from an inode. -/
def walkR (S : List (List UInt8)) (B : List Int) : List (List UInt8) → Int → Int × Int
  | [], n => (n, 0)
  | s :: r, n => if (dirR S B n).2 ≠ 0 then (0, (dirR S B n).2) else match idxE s (dirR S B n).1 with
    | some i => walkR S B r ((dirR S B n).1.getD i ([], 0)).2
    | none => (0, 13)

theorem walk_eq (S : List (List UInt8)) (B : List Int) (hB : B.length ≤ maxLen) (n : Int) (N : List (List UInt8)) (hN : N.length ≤ 1000000) :
    bodyW DC 66 [drv S B, .int .i64 n, .sl (strs N)] [] = some (.tuple [.int .i64 (walkR S B N n).1, .int .i64 (walkR S B N n).2], []) := by
  generalize hR : walkR S B N n = R
  (refine gives_iff ?_; refine go_func Tryz.f66 rfl rfl (by simp [Tryz.f66]) ?_; dsimp only [codeL, Tryz.f66, scL, sopsL, guardL, dstAt, loopKey])
  (repeat (first
    | (apply is_ok; (case hw => simp); (case he => simp; exact is_rfl))
    | (apply op_no; (case hw => simp))
    | refine op_nil ?_ | refine next_normal ?_ | refine go_seq ?_ | refine go_region ?_ | refine go_skip ?_ | refine go_block ?_ | refine inb_normal ?_
    | (apply go_yes; (case hc => simp)) | (apply go_no; (case hc => simp))
    | refine go_exit ?_ | refine next_exit ?_ | refine inb_here ?_ | refine inb_past (by decide) ?_ | refine go_ret ?_ | refine next_ret ?_ | refine inb_ret ?_))
  refine go_while (σ := Nat × Int) (fun q => [(1, .int .i64 q.2), (3, .ptr 0 1 0 0), (14, .sl (strs N)), (15, .int .i64 N.length), (16, .int .i64 q.1)]) (fun q => [.box (drv S B)])
    (fun q => q.1 ≤ N.length ∧ walkR S B (N.drop q.1) q.2 = R) (fun q => N.length - q.1) (0, n) (by simp) ⟨by simp, by simpa using hR⟩ fun q hq => ?_
  obtain ⟨i, m⟩ := q
  obtain ⟨h1, h2⟩ := hq
  simp only at h1 h2 ⊢
  by_cases hlt : i < N.length
  · have g1 : (i : Int) < N.length := by omega
    have g2 : N[i]? = some N[i] := List.getElem?_eq_getElem hlt
    have w1 : IntKind.i64.wrap ((i : Int) + 1) = (i : Int) + 1 := wrap_id (by omega) (by omega)
    have v1 := directory_eq S B hB m
    have hl := dirR_len S B m
    rw [List.drop_eq_getElem_cons hlt, walkR] at h2
    generalize (dirR S B m).1 = l at v1 hl h2
    generalize (dirR S B m).2 = e at v1 h2
    by_cases he : e = 0
    · rw [if_neg (by simpa using he)] at h2
      have v2 := Find_eq l (by unfold maxLen; omega) N[i]
      unfold findV at v2
      subst he
      cases hx : idxE N[i] l with
      | some j =>
        rw [hx] at v2 h2
        simp only at v2 h2
        generalize (l.getD j ([], 0)).2 = z at v2 h2
        (repeat (first
    | (apply is_ok; (case hw => simp [g1, g2, hlt, v1, v2, w1]); (case he => simp [g1, g2, hlt, v1, v2, w1]; exact is_rfl))
    | (apply op_no; (case hw => simp [g1, g2, hlt, v1, v2, w1]))
    | refine op_nil ?_ | refine next_normal ?_ | refine go_seq ?_ | refine go_region ?_ | refine go_skip ?_ | refine go_block ?_ | refine inb_normal ?_
    | (apply go_yes; (case hc => simp [g1, g2, hlt, v1, v2, w1])) | (apply go_no; (case hc => simp [g1, g2, hlt, v1, v2, w1]))
    | refine go_exit ?_ | refine next_exit ?_ | refine inb_here ?_ | refine inb_past (by decide) ?_ | refine go_ret ?_ | refine next_ret ?_ | refine inb_ret ?_))
        exact ⟨(i + 1, z), by simp [w1], by show N.length - (i + 1) < N.length - i; omega, by show i + 1 ≤ N.length; omega, h2⟩
      | none =>
        rw [hx] at v2 h2
        simp only at v2 h2
        subst h2
        (repeat (first
    | (apply is_ok; (case hw => simp [g1, g2, hlt, v1, v2, w1]); (case he => simp [g1, g2, hlt, v1, v2, w1]; exact is_rfl))
    | (apply op_no; (case hw => simp [g1, g2, hlt, v1, v2, w1]))
    | refine op_nil ?_ | refine next_normal ?_ | refine go_seq ?_ | refine go_region ?_ | refine go_skip ?_ | refine go_block ?_ | refine inb_normal ?_
    | (apply go_yes; (case hc => simp [g1, g2, hlt, v1, v2, w1])) | (apply go_no; (case hc => simp [g1, g2, hlt, v1, v2, w1]))
    | refine go_exit ?_ | refine next_exit ?_ | refine inb_here ?_ | refine inb_past (by decide) ?_ | refine go_ret ?_ | refine next_ret ?_ | refine inb_ret ?_))
        (apply ends_ok; (case h1 => simp; exact is_rfl); (case h2 => simp; exact is_rfl))
        simp
    · rw [if_pos he] at h2
      subst h2
      (repeat (first
    | (apply is_ok; (case hw => simp [g1, g2, hlt, v1, he, w1]); (case he => simp [g1, g2, hlt, v1, he, w1]; exact is_rfl))
    | (apply op_no; (case hw => simp [g1, g2, hlt, v1, he, w1]))
    | refine op_nil ?_ | refine next_normal ?_ | refine go_seq ?_ | refine go_region ?_ | refine go_skip ?_ | refine go_block ?_ | refine inb_normal ?_
    | (apply go_yes; (case hc => simp [g1, g2, hlt, v1, he, w1])) | (apply go_no; (case hc => simp [g1, g2, hlt, v1, he, w1]))
    | refine go_exit ?_ | refine next_exit ?_ | refine inb_here ?_ | refine inb_past (by decide) ?_ | refine go_ret ?_ | refine next_ret ?_ | refine inb_ret ?_))
      (apply ends_ok; (case h1 => simp; exact is_rfl); (case h2 => simp; exact is_rfl))
      simp
  · have g1 : ¬ (i : Int) < N.length := by omega
    rw [List.drop_of_length_le (by omega), walkR] at h2
    subst h2
    (repeat (first
    | (apply is_ok; (case hw => simp [g1, hlt]); (case he => simp [g1, hlt]; exact is_rfl))
    | (apply op_no; (case hw => simp [g1, hlt]))
    | refine op_nil ?_ | refine next_normal ?_ | refine go_seq ?_ | refine go_region ?_ | refine go_skip ?_ | refine go_block ?_ | refine inb_normal ?_
    | (apply go_yes; (case hc => simp [g1, hlt])) | (apply go_no; (case hc => simp [g1, hlt]))
    | refine go_exit ?_ | refine next_exit ?_ | refine inb_here ?_ | refine inb_past (by decide) ?_ | refine go_ret ?_ | refine next_ret ?_ | refine inb_ret ?_))
    (apply ends_ok; (case h1 => simp; exact is_rfl); (case h2 => simp; exact is_rfl))
    simp

theorem walkRef_eq (S : List (List UInt8)) (B : List Int) (hB : B.length ≤ maxLen) (n : Int) (N : List (List UInt8)) (hN : N.length ≤ 1000000) :
    bodyW DC 64 [drv S B, .int .i64 n, .sl (strs N)] [] = some (.tuple [.int .i64 (walkR S B N n).1, .int .i64 (walkR S B N n).2], []) := by
  generalize hR : walkR S B N n = R
  (refine gives_iff ?_; refine go_func Tryz.f64 rfl rfl (by simp [Tryz.f64]) ?_; dsimp only [codeL, Tryz.f64, scL, sopsL, guardL, dstAt, loopKey])
  (repeat (first
    | (apply is_ok; (case hw => simp); (case he => simp; exact is_rfl))
    | (apply op_no; (case hw => simp))
    | refine op_nil ?_ | refine next_normal ?_ | refine go_seq ?_ | refine go_region ?_ | refine go_skip ?_ | refine go_block ?_ | refine inb_normal ?_
    | (apply go_yes; (case hc => simp)) | (apply go_no; (case hc => simp))
    | refine go_exit ?_ | refine next_exit ?_ | refine inb_here ?_ | refine inb_past (by decide) ?_ | refine go_ret ?_ | refine next_ret ?_ | refine inb_ret ?_))
  refine go_while (σ := Nat × Int) (fun q => [(1, .int .i64 q.2), (2, .sl (strs N)), (3, .ptr 0 1 0 0), (8, .int .i64 q.1)]) (fun q => [.box (drv S B)])
    (fun q => q.1 ≤ N.length ∧ walkR S B (N.drop q.1) q.2 = R) (fun q => N.length - q.1) (0, n) (by simp) ⟨by simp, by simpa using hR⟩ fun q hq => ?_
  obtain ⟨i, m⟩ := q
  obtain ⟨h1, h2⟩ := hq
  simp only at h1 h2 ⊢
  by_cases hlt : i < N.length
  · have g1 : (i : Int) < N.length := by omega
    have g2 : N[i]? = some N[i] := List.getElem?_eq_getElem hlt
    have w1 : IntKind.i64.wrap ((i : Int) + 1) = (i : Int) + 1 := wrap_id (by omega) (by omega)
    have v1 := entries_eq S B hB m
    have hl := dirR_len S B m
    rw [List.drop_eq_getElem_cons hlt, walkR] at h2
    generalize (dirR S B m).1 = l at v1 hl h2
    generalize (dirR S B m).2 = e at v1 h2
    by_cases he : e = 0
    · rw [if_neg (by simpa using he)] at h2
      have v2 := FindR_eq l (by unfold maxLen; omega) N[i]
      unfold findV at v2
      subst he
      cases hx : idxE N[i] l with
      | some j =>
        rw [hx] at v2 h2
        simp only at v2 h2
        generalize (l.getD j ([], 0)).2 = z at v2 h2
        (repeat (first
    | (apply is_ok; (case hw => simp [g1, g2, hlt, v1, v2, w1]); (case he => simp [g1, g2, hlt, v1, v2, w1]; exact is_rfl))
    | (apply op_no; (case hw => simp [g1, g2, hlt, v1, v2, w1]))
    | refine op_nil ?_ | refine next_normal ?_ | refine go_seq ?_ | refine go_region ?_ | refine go_skip ?_ | refine go_block ?_ | refine inb_normal ?_
    | (apply go_yes; (case hc => simp [g1, g2, hlt, v1, v2, w1])) | (apply go_no; (case hc => simp [g1, g2, hlt, v1, v2, w1]))
    | refine go_exit ?_ | refine next_exit ?_ | refine inb_here ?_ | refine inb_past (by decide) ?_ | refine go_ret ?_ | refine next_ret ?_ | refine inb_ret ?_))
        exact ⟨(i + 1, z), by simp [w1], by show N.length - (i + 1) < N.length - i; omega, by show i + 1 ≤ N.length; omega, h2⟩
      | none =>
        rw [hx] at v2 h2
        simp only at v2 h2
        subst h2
        (repeat (first
    | (apply is_ok; (case hw => simp [g1, g2, hlt, v1, v2, w1]); (case he => simp [g1, g2, hlt, v1, v2, w1]; exact is_rfl))
    | (apply op_no; (case hw => simp [g1, g2, hlt, v1, v2, w1]))
    | refine op_nil ?_ | refine next_normal ?_ | refine go_seq ?_ | refine go_region ?_ | refine go_skip ?_ | refine go_block ?_ | refine inb_normal ?_
    | (apply go_yes; (case hc => simp [g1, g2, hlt, v1, v2, w1])) | (apply go_no; (case hc => simp [g1, g2, hlt, v1, v2, w1]))
    | refine go_exit ?_ | refine next_exit ?_ | refine inb_here ?_ | refine inb_past (by decide) ?_ | refine go_ret ?_ | refine next_ret ?_ | refine inb_ret ?_))
        (apply ends_ok; (case h1 => simp; exact is_rfl); (case h2 => simp; exact is_rfl))
        simp
    · rw [if_pos he] at h2
      subst h2
      (repeat (first
    | (apply is_ok; (case hw => simp [g1, g2, hlt, v1, he, w1]); (case he => simp [g1, g2, hlt, v1, he, w1]; exact is_rfl))
    | (apply op_no; (case hw => simp [g1, g2, hlt, v1, he, w1]))
    | refine op_nil ?_ | refine next_normal ?_ | refine go_seq ?_ | refine go_region ?_ | refine go_skip ?_ | refine go_block ?_ | refine inb_normal ?_
    | (apply go_yes; (case hc => simp [g1, g2, hlt, v1, he, w1])) | (apply go_no; (case hc => simp [g1, g2, hlt, v1, he, w1]))
    | refine go_exit ?_ | refine next_exit ?_ | refine inb_here ?_ | refine inb_past (by decide) ?_ | refine go_ret ?_ | refine next_ret ?_ | refine inb_ret ?_))
      (apply ends_ok; (case h1 => simp; exact is_rfl); (case h2 => simp; exact is_rfl))
      simp
  · have g1 : ¬ (i : Int) < N.length := by omega
    rw [List.drop_of_length_le (by omega), walkR] at h2
    subst h2
    (repeat (first
    | (apply is_ok; (case hw => simp [g1, hlt]); (case he => simp [g1, hlt]; exact is_rfl))
    | (apply op_no; (case hw => simp [g1, hlt]))
    | refine op_nil ?_ | refine next_normal ?_ | refine go_seq ?_ | refine go_region ?_ | refine go_skip ?_ | refine go_block ?_ | refine inb_normal ?_
    | (apply go_yes; (case hc => simp [g1, hlt])) | (apply go_no; (case hc => simp [g1, hlt]))
    | refine go_exit ?_ | refine next_exit ?_ | refine inb_here ?_ | refine inb_past (by decide) ?_ | refine go_ret ?_ | refine next_ret ?_ | refine inb_ret ?_))
    (apply ends_ok; (case h1 => simp; exact is_rfl); (case h2 => simp; exact is_rfl))
    simp
end Go.Abs

namespace Go.Abs
open Go.Proofs
set_option maxRecDepth 100000
set_option linter.unusedSimpArgs false
set_option linter.unusedVariables false

/-- The names of the rest of a path, with the part that was begun. -/
def runS : List UInt8 → List UInt8 → List (List UInt8) → Option (List (List UInt8))
  | cur, [], L => if cur = [] then some L else if nameOk cur = true then some (L ++ [cur]) else none
  | cur, c :: r, L => if c ≠ 47 then runS (cur ++ [c]) r L else if cur = [] then runS [] r L else if nameOk cur = true then runS [] r (L ++ [cur]) else none

theorem cutA_all {a b : List UInt8} (h : ∀ x ∈ a, x ≠ 47) : cutA (a ++ 47 :: b) = a ∧ cutB (a ++ 47 :: b) = b := by
  induction a with
  | nil => simp [cutA, cutB]
  | cons x a ih =>
    have hx := h x (by simp)
    have := ih fun y hy => h y (by simp [hy])
    simp only [cutA, cutB] at this ⊢
    simp [hx, this]
theorem cutA_end {a : List UInt8} (h : ∀ x ∈ a, x ≠ 47) : cutA a = a ∧ cutB a = [] := by
  induction a with
  | nil => simp [cutA, cutB]
  | cons x a ih =>
    have hx := h x (by simp)
    have := ih fun y hy => h y (by simp [hy])
    simp only [cutA, cutB] at this ⊢
    simp [hx, this]

theorem runS_eq : ∀ (rest cur : List UInt8) (L : List (List UInt8)) (n : Nat), (∀ x ∈ cur, x ≠ 47) → cur.length + rest.length ≤ n →
    runS cur rest L = if (partsF n (cur ++ rest)).all nameOk then some (L ++ partsF n (cur ++ rest)) else none
  | [], cur, L, n, hc, hn => by
    rw [List.append_nil, runS]
    cases n with
    | zero =>
      have : cur = [] := List.length_eq_zero_iff.1 (by omega)
      subst this
      simp [partsF]
    | succ n =>
      rw [partsF, (cutA_end hc).1, (cutA_end hc).2]
      by_cases h0 : cur = []
      · simp [h0]
      · rw [if_neg h0, if_neg h0, if_neg h0]
        have : partsF n [] = [] := by cases n <;> simp [partsF]
        rw [this]
        by_cases hk : nameOk cur = true <;> simp [hk]
  | c :: r, cur, L, n, hc, hn => by
    rw [runS]
    by_cases h47 : c = 47
    · subst h47
      simp only [ne_eq, not_true_eq_false, if_false]
      cases n with
      | zero => simp at hn
      | succ n =>
        rw [List.length_cons] at hn
        rw [partsF, (cutA_all hc).1, (cutA_all hc).2, if_neg (show ¬ cur ++ 47 :: r = [] by simp)]
        by_cases h0 : cur = []
        · subst h0
          rw [if_pos rfl, if_pos rfl]
          exact runS_eq r [] L n (by simp) (by simp at hn ⊢; omega)
        · rw [if_neg h0, if_neg h0]
          by_cases hk : nameOk cur = true
          · rw [if_pos hk, runS_eq r [] (L ++ [cur]) n (by simp) (by simp; omega)]
            simp [hk]
          · simp [hk]
    · rw [if_pos h47, runS_eq r (cur ++ [c]) L n (fun x hx => by
        rcases List.mem_append.1 hx with h | h
        · exact hc x h
        · simp at h; subst h; exact h47) (by simp at hn ⊢; omega)]
      simp

theorem sub_snoc {s : List UInt8} {j i : Nat} (hj : j ≤ i) (hi : i < s.length) : (s.take i).drop j ++ [s[i]] = (s.take (i + 1)).drop j := by
  rw [List.take_succ_eq_append_getElem hi, List.drop_append_of_le_length (by simp; omega)]

def splitR (s : List UInt8) : V × Heap := if s = [] then (.tuple [.bool false, .own 0 0 0 0, .int .i64 4], [.dat true 1 []]) else if 256 < s.length then (.tuple [.bool false, .own 0 0 0 0, .int .i64 7], [.dat true 1 []])
  else match runS [] s [] with
    | some L => (.tuple [.bool (s.head? == some 47), .own 0 L.length 0 L.length, .int .i64 0], [.dat true 1 (L.map V.str)])
    | none => (.tuple [.bool false, .own 0 0 0 0, .int .i64 4], [.dat true 1 []])

theorem refSplit_eq (s : List UInt8) : bodyW DC 63 [.str s] [] = some (splitR s) := by
  unfold splitR
  by_cases h0 : s = []
  · subst h0
    (refine gives_iff ?_; refine go_func Tryz.f63 rfl rfl (by simp [Tryz.f63]) ?_; dsimp only [codeL, Tryz.f63, scL, sopsL, guardL, dstAt, loopKey])
    (repeat (first
    | (apply is_ok; (case hw => simp); (case he => simp; exact is_rfl))
    | (apply op_no; (case hw => simp))
    | refine op_nil ?_ | refine next_normal ?_ | refine go_seq ?_ | refine go_region ?_ | refine go_skip ?_ | refine go_block ?_ | refine inb_normal ?_
    | (apply go_yes; (case hc => simp)) | (apply go_no; (case hc => simp))
    | refine go_exit ?_ | refine next_exit ?_ | refine inb_here ?_ | refine inb_past (by decide) ?_ | refine go_ret ?_ | refine next_ret ?_ | refine inb_ret ?_))
    (apply ends_ok; (case h1 => simp; exact is_rfl); (case h2 => simp; exact is_rfl))
    simp
  rw [if_neg h0]
  by_cases h1 : 256 < s.length
  · rw [if_pos h1]
    have h1' : (256 : Int) < s.length := by omega
    (refine gives_iff ?_; refine go_func Tryz.f63 rfl rfl (by simp [Tryz.f63]) ?_; dsimp only [codeL, Tryz.f63, scL, sopsL, guardL, dstAt, loopKey])
    (repeat (first
    | (apply is_ok; (case hw => simp [h0, h1']); (case he => simp [h0, h1']; exact is_rfl))
    | (apply op_no; (case hw => simp [h0, h1']))
    | refine op_nil ?_ | refine next_normal ?_ | refine go_seq ?_ | refine go_region ?_ | refine go_skip ?_ | refine go_block ?_ | refine inb_normal ?_
    | (apply go_yes; (case hc => simp [h0, h1'])) | (apply go_no; (case hc => simp [h0, h1']))
    | refine go_exit ?_ | refine next_exit ?_ | refine inb_here ?_ | refine inb_past (by decide) ?_ | refine go_ret ?_ | refine next_ret ?_ | refine inb_ret ?_))
    (apply ends_ok; (case h1 => simp; exact is_rfl); (case h2 => simp; exact is_rfl))
    simp
  rw [if_neg h1]
  have h1' : ¬ (256 : Int) < s.length := by omega
  generalize hR : runS [] s [] = R
  (refine gives_iff ?_; refine go_func Tryz.f63 rfl rfl (by simp [Tryz.f63]) ?_; dsimp only [codeL, Tryz.f63, scL, sopsL, guardL, dstAt, loopKey])
  (repeat (first
    | (apply is_ok; (case hw => simp [h0, h1']); (case he => simp [h0, h1']; exact is_rfl))
    | (apply op_no; (case hw => simp [h0, h1']))
    | refine op_nil ?_ | refine next_normal ?_ | refine go_seq ?_ | refine go_region ?_ | refine go_skip ?_ | refine go_block ?_ | refine inb_normal ?_
    | (apply go_yes; (case hc => simp [h0, h1'])) | (apply go_no; (case hc => simp [h0, h1']))
    | refine go_exit ?_ | refine next_exit ?_ | refine inb_here ?_ | refine inb_past (by decide) ?_ | refine go_ret ?_ | refine next_ret ?_ | refine inb_ret ?_))
  refine go_while (σ := Nat × Nat × List (List UInt8)) (fun q => [(0, .str s), (5, .own 0 q.2.2.length 0 q.2.2.length), (6, .int .i64 q.2.1), (7, .int .i64 q.1)]) (fun q => [.dat true 1 (q.2.2.map V.str)])
    (fun q => q.2.2.length ≤ q.1 ∧ (q.1 ≤ s.length ∧ q.2.1 ≤ q.1 ∧ runS ((s.take q.1).drop q.2.1) (s.drop q.1) q.2.2 = R ∨ q.1 = s.length + 1 ∧ R = some q.2.2)) (fun q => s.length + 1 - q.1) (0, 0, []) (by simp) ⟨by simp, .inl ⟨by simp, by simp, by simpa using hR⟩⟩ fun q hq => ?_
  obtain ⟨i, j, L⟩ := q
  obtain ⟨hL, hq⟩ := hq
  simp only at hL hq
  rcases hq with ⟨hi, hj, hq⟩ | ⟨hi, hq⟩
  case inr =>
    subst hi
    subst hq
    have g1 : ¬ ((s.length : Int) + 1) ≤ s.length := by omega
    have g2 : 0 < s.length := List.length_pos_iff.2 h0
    have g3 : s[0]? = some s[0] := List.getElem?_eq_getElem g2
    (repeat (first
    | (apply is_ok; (case hw => simp [g1, g2, g3]); (case he => simp [g1, g2, g3]; exact is_rfl))
    | (apply op_no; (case hw => simp [g1, g2, g3]))
    | refine op_nil ?_ | refine next_normal ?_ | refine go_seq ?_ | refine go_region ?_ | refine go_skip ?_ | refine go_block ?_ | refine inb_normal ?_
    | (apply go_yes; (case hc => simp [g1, g2, g3])) | (apply go_no; (case hc => simp [g1, g2, g3]))
    | refine go_exit ?_ | refine next_exit ?_ | refine inb_here ?_ | refine inb_past (by decide) ?_ | refine go_ret ?_ | refine next_ret ?_ | refine inb_ret ?_))
    (apply ends_ok; (case h1 => simp; exact is_rfl); (case h2 => simp; exact is_rfl))
    have g5 : ((s[0].toNat : Int) == 47) = (s.head? == some 47) := by
      cases s with
      | nil => exact absurd rfl h0
      | cons c r =>
        rw [Bool.eq_iff_iff]
        simp only [List.getElem_cons_zero, List.head?_cons, beq_iff_eq, Option.some.injEq]
        rw [← UInt8.toNat_inj]
        show _ ↔ c.toNat = 47
        omega
    exact ⟨by rw [g5], rfl⟩
  have g1 : (i : Int) ≤ s.length := by omega
  have w1 : IntKind.i64.wrap ((i : Int) + 1) = (i : Int) + 1 := wrap_id (by omega) (by omega)
  have stp : (i < s.length ∧ s[i]? ≠ some 47) ∨ (runS ((s.take i).drop j) (s.drop i) L = if (s.take i).drop j = [] then (if i < s.length then runS [] (s.drop (i + 1)) L else some L) else if nameOk ((s.take i).drop j) = true then (if i < s.length then runS [] (s.drop (i + 1)) (L ++ [(s.take i).drop j]) else some (L ++ [(s.take i).drop j])) else none) := by
    by_cases hlt : i < s.length
    · rw [List.drop_eq_getElem_cons hlt, runS, List.getElem?_eq_getElem hlt]
      by_cases h47 : s[i] = 47
      · right
        rw [if_neg (by simpa using h47), if_pos hlt, if_pos hlt]
      · left
        exact ⟨hlt, by simpa using h47⟩
    · right
      rw [show s.drop i = [] from List.drop_eq_nil_of_le (by omega), runS, if_neg hlt, if_neg hlt]
  by_cases hA : i < s.length ∧ s[i]? ≠ some 47
  · obtain ⟨hlt, h47⟩ := hA
    have g2 : (i : Int) < s.length := by omega
    have g3 : s[i]? = some s[i] := List.getElem?_eq_getElem hlt
    have g4 : ¬ (s[i].toNat : Int) = 47 := fun h => h47 (by rw [g3]; congr 1; apply UInt8.toNat_inj.1; show _ = 47; omega)
    have g5 : ¬ s[i] = 47 := fun h => h47 (by rw [g3, h])
    have g6 : runS ((s.take i).drop j) (s.drop i) L = runS ((s.take (i + 1)).drop j) (s.drop (i + 1)) L := by
      rw [List.drop_eq_getElem_cons hlt, runS, if_pos g5, sub_snoc hj hlt]
    (repeat (first
    | (apply is_ok; (case hw => simp [g1, g2, g3, g4, hlt]); (case he => simp [g1, g2, g3, g4, hlt]; exact is_rfl))
    | (apply op_no; (case hw => simp [g1, g2, g3, g4, hlt]))
    | refine op_nil ?_ | refine next_normal ?_ | refine go_seq ?_ | refine go_region ?_ | refine go_skip ?_ | refine go_block ?_ | refine inb_normal ?_
    | (apply go_yes; (case hc => simp [g1, g2, g3, g4, hlt])) | (apply go_no; (case hc => simp [g1, g2, g3, g4, hlt]))
    | refine go_exit ?_ | refine next_exit ?_ | refine inb_here ?_ | refine inb_past (by decide) ?_ | refine go_ret ?_ | refine next_ret ?_ | refine inb_ret ?_))
    exact ⟨(i + 1, j, L), by simp [w1], by simp; omega, by simp; omega, .inl ⟨by simp only; omega, by simp only; omega, by rw [← g6]; exact hq⟩⟩
  have hB := stp.resolve_left hA
  rw [hq] at hB
  have q1 : (j : Int) ≤ i := by omega
  have q2 : (0 : Int) ≤ j := by omega
  have q3 : ((i : Int) + 1).toNat = i + 1 := by omega
  have r1 : L.length + 1 ≤ room := by unfold room; omega
  have r2 : (L.length + 1) * 16 ≤ room := by unfold room; omega
  generalize hp : (s.take i).drop j = p at hB hq
  by_cases hlt : i < s.length
  · have g2 : (i : Int) < s.length := by omega
    have g3 : s[i]? = some s[i] := List.getElem?_eq_getElem hlt
    have g4 : (s[i].toNat : Int) = 47 := by
      have : s[i]? = some 47 := Classical.byContradiction fun h => hA ⟨hlt, h⟩
      rw [g3] at this
      have := Option.some.inj this
      rw [this]; rfl
    rw [if_pos hlt, if_pos hlt] at hB
    by_cases hp0 : p = []
    · rw [if_pos hp0] at hB
      subst hp0
      (repeat (first
    | (apply is_ok; (case hw => simp [g1, g2, g3, g4, hlt, hi, hj, q1, q2, hp, w1, q3]); (case he => simp [g1, g2, g3, g4, hlt, hi, hj, q1, q2, hp, w1, q3]; exact is_rfl))
    | (apply op_no; (case hw => simp [g1, g2, g3, g4, hlt, hi, hj, q1, q2, hp, w1, q3]))
    | refine op_nil ?_ | refine next_normal ?_ | refine go_seq ?_ | refine go_region ?_ | refine go_skip ?_ | refine go_block ?_ | refine inb_normal ?_
    | (apply go_yes; (case hc => simp [g1, g2, g3, g4, hlt, hi, hj, q1, q2, hp, w1, q3])) | (apply go_no; (case hc => simp [g1, g2, g3, g4, hlt, hi, hj, q1, q2, hp, w1, q3]))
    | refine go_exit ?_ | refine next_exit ?_ | refine inb_here ?_ | refine inb_past (by decide) ?_ | refine go_ret ?_ | refine next_ret ?_ | refine inb_ret ?_))
      exact ⟨(i + 1, i + 1, L), by simp [w1], by simp; omega, by simp; omega, .inl ⟨by simp only; omega, by simp, by rw [hB]; simp⟩⟩
    rw [if_neg hp0] at hB
    by_cases hk : nameOk p = true
    · rw [if_pos hk] at hB
      have hv := refValid_eq p
      rw [hk] at hv
      (repeat (first
    | (apply is_ok; (case hw => simp [g1, g2, g3, g4, hlt, hi, hj, q1, q2, hp, hp0, hv, w1, q3, r1, r2]); (case he => simp [g1, g2, g3, g4, hlt, hi, hj, q1, q2, hp, hp0, hv, w1, q3, r1, r2]; exact is_rfl))
    | (apply op_no; (case hw => simp [g1, g2, g3, g4, hlt, hi, hj, q1, q2, hp, hp0, hv, w1, q3, r1, r2]))
    | refine op_nil ?_ | refine next_normal ?_ | refine go_seq ?_ | refine go_region ?_ | refine go_skip ?_ | refine go_block ?_ | refine inb_normal ?_
    | (apply go_yes; (case hc => simp [g1, g2, g3, g4, hlt, hi, hj, q1, q2, hp, hp0, hv, w1, q3, r1, r2])) | (apply go_no; (case hc => simp [g1, g2, g3, g4, hlt, hi, hj, q1, q2, hp, hp0, hv, w1, q3, r1, r2]))
    | refine go_exit ?_ | refine next_exit ?_ | refine inb_here ?_ | refine inb_past (by decide) ?_ | refine go_ret ?_ | refine next_ret ?_ | refine inb_ret ?_))
      exact ⟨(i + 1, i + 1, L ++ [p]), by simp [w1], by simp; omega, by simp; omega, .inl ⟨by simp only; omega, by simp, by rw [hB]; simp⟩⟩
    · rw [if_neg hk] at hB
      have hv := refValid_eq p
      rw [show nameOk p = false by simpa using hk] at hv
      (repeat (first
    | (apply is_ok; (case hw => simp [g1, g2, g3, g4, hlt, hi, hj, q1, q2, hp, hp0, hv, w1, q3]); (case he => simp [g1, g2, g3, g4, hlt, hi, hj, q1, q2, hp, hp0, hv, w1, q3]; exact is_rfl))
    | (apply op_no; (case hw => simp [g1, g2, g3, g4, hlt, hi, hj, q1, q2, hp, hp0, hv, w1, q3]))
    | refine op_nil ?_ | refine next_normal ?_ | refine go_seq ?_ | refine go_region ?_ | refine go_skip ?_ | refine go_block ?_ | refine inb_normal ?_
    | (apply go_yes; (case hc => simp [g1, g2, g3, g4, hlt, hi, hj, q1, q2, hp, hp0, hv, w1, q3])) | (apply go_no; (case hc => simp [g1, g2, g3, g4, hlt, hi, hj, q1, q2, hp, hp0, hv, w1, q3]))
    | refine go_exit ?_ | refine next_exit ?_ | refine inb_here ?_ | refine inb_past (by decide) ?_ | refine go_ret ?_ | refine next_ret ?_ | refine inb_ret ?_))
      (apply ends_ok; (case h1 => simp; exact is_rfl); (case h2 => simp; exact is_rfl))
      simp [hB]
  · have g2 : ¬ (i : Int) < s.length := by omega
    rw [if_neg hlt, if_neg hlt] at hB
    by_cases hp0 : p = []
    · rw [if_pos hp0] at hB
      subst hp0
      (repeat (first
    | (apply is_ok; (case hw => simp [g1, g2, hlt, hi, hj, q1, q2, hp, w1, q3]); (case he => simp [g1, g2, hlt, hi, hj, q1, q2, hp, w1, q3]; exact is_rfl))
    | (apply op_no; (case hw => simp [g1, g2, hlt, hi, hj, q1, q2, hp, w1, q3]))
    | refine op_nil ?_ | refine next_normal ?_ | refine go_seq ?_ | refine go_region ?_ | refine go_skip ?_ | refine go_block ?_ | refine inb_normal ?_
    | (apply go_yes; (case hc => simp [g1, g2, hlt, hi, hj, q1, q2, hp, w1, q3])) | (apply go_no; (case hc => simp [g1, g2, hlt, hi, hj, q1, q2, hp, w1, q3]))
    | refine go_exit ?_ | refine next_exit ?_ | refine inb_here ?_ | refine inb_past (by decide) ?_ | refine go_ret ?_ | refine next_ret ?_ | refine inb_ret ?_))
      exact ⟨(i + 1, i + 1, L), by simp [w1], by simp; omega, by simp; omega, .inr ⟨by simp only; omega, hB⟩⟩
    rw [if_neg hp0] at hB
    by_cases hk : nameOk p = true
    · rw [if_pos hk] at hB
      have hv := refValid_eq p
      rw [hk] at hv
      (repeat (first
    | (apply is_ok; (case hw => simp [g1, g2, hlt, hi, hj, q1, q2, hp, hp0, hv, w1, q3, r1, r2]); (case he => simp [g1, g2, hlt, hi, hj, q1, q2, hp, hp0, hv, w1, q3, r1, r2]; exact is_rfl))
    | (apply op_no; (case hw => simp [g1, g2, hlt, hi, hj, q1, q2, hp, hp0, hv, w1, q3, r1, r2]))
    | refine op_nil ?_ | refine next_normal ?_ | refine go_seq ?_ | refine go_region ?_ | refine go_skip ?_ | refine go_block ?_ | refine inb_normal ?_
    | (apply go_yes; (case hc => simp [g1, g2, hlt, hi, hj, q1, q2, hp, hp0, hv, w1, q3, r1, r2])) | (apply go_no; (case hc => simp [g1, g2, hlt, hi, hj, q1, q2, hp, hp0, hv, w1, q3, r1, r2]))
    | refine go_exit ?_ | refine next_exit ?_ | refine inb_here ?_ | refine inb_past (by decide) ?_ | refine go_ret ?_ | refine next_ret ?_ | refine inb_ret ?_))
      exact ⟨(i + 1, i + 1, L ++ [p]), by simp [w1], by simp; omega, by simp; omega, .inr ⟨by simp only; omega, hB⟩⟩
    · rw [if_neg hk] at hB
      have hv := refValid_eq p
      rw [show nameOk p = false by simpa using hk] at hv
      (repeat (first
    | (apply is_ok; (case hw => simp [g1, g2, hlt, hi, hj, q1, q2, hp, hp0, hv, w1, q3]); (case he => simp [g1, g2, hlt, hi, hj, q1, q2, hp, hp0, hv, w1, q3]; exact is_rfl))
    | (apply op_no; (case hw => simp [g1, g2, hlt, hi, hj, q1, q2, hp, hp0, hv, w1, q3]))
    | refine op_nil ?_ | refine next_normal ?_ | refine go_seq ?_ | refine go_region ?_ | refine go_skip ?_ | refine go_block ?_ | refine inb_normal ?_
    | (apply go_yes; (case hc => simp [g1, g2, hlt, hi, hj, q1, q2, hp, hp0, hv, w1, q3])) | (apply go_no; (case hc => simp [g1, g2, hlt, hi, hj, q1, q2, hp, hp0, hv, w1, q3]))
    | refine go_exit ?_ | refine next_exit ?_ | refine inb_here ?_ | refine inb_past (by decide) ?_ | refine go_ret ?_ | refine next_ret ?_ | refine inb_ret ?_))
      (apply ends_ok; (case h1 => simp; exact is_rfl); (case h2 => simp; exact is_rfl))
      simp [hB]
end Go.Abs

namespace Go.Abs
open Go.Proofs
set_option maxRecDepth 100000
set_option linter.unusedSimpArgs false
set_option linter.unusedVariables false

theorem partsF_length : ∀ (n : Nat) (s : List UInt8), (partsF n s).length ≤ n
  | 0, _ => by simp [partsF]
  | n + 1, s => by
    have := partsF_length n (cutB s)
    rw [partsF]
    split
    · simp
    · split
      · omega
      · rw [List.length_cons]; omega

end Go.Abs

namespace Go.Abs
open Go.Proofs
set_option maxRecDepth 100000
set_option linter.unusedSimpArgs false
set_option linter.unusedVariables false

/-- The names of a path, and its error. -/
def nmE (s : List UInt8) : Int := if s = [] then 4 else if 256 < s.length then 7 else if (partsF s.length s).all nameOk then 0 else 4
def nmL (s : List UInt8) : List (List UInt8) := if nmE s = 0 then partsF s.length s else []
def nmR (s : List UInt8) : Bool := if nmE s = 0 then s.head? == some 47 else false
theorem nmE_len {s : List UInt8} (h : nmE s = 0) : s.length ≤ 256 := by
  unfold nmE at h
  by_cases h1 : s = []
  · rw [if_pos h1] at h; cases h
  · rw [if_neg h1] at h
    by_cases h2 : 256 < s.length
    · rw [if_pos h2] at h; cases h
    · omega
theorem nmL_len (s : List UInt8) : (nmL s).length ≤ 256 := by
  unfold nmL
  by_cases h : nmE s = 0
  · rw [if_pos h]
    have := partsF_length s.length s
    have := nmE_len h
    omega
  · rw [if_neg h]; simp
theorem split_val (s : List UInt8) : splitX [.str s] = some (if nmE s = 0 then (.tuple [.bool (nmR s), .own 0 (nmL s).length 0 (nmL s).length, .int .i64 0], [.dat true 1 (strs (nmL s))]) else (.tuple [.bool false, .nils, .int .i64 (nmE s)], [])) := by
  unfold nmL nmR
  simp only [splitX]
  by_cases h1 : s = []
  · have e : nmE s = 4 := by unfold nmE; rw [if_pos h1]
    rw [if_pos h1, e, if_neg (by decide)]
  rw [if_neg h1]
  by_cases h2 : 256 < s.length
  · have e : nmE s = 7 := by unfold nmE; rw [if_neg h1, if_pos h2]
    rw [if_pos h2, e, if_neg (by decide)]
  rw [if_neg h2]
  by_cases h3 : (partsF s.length s).all nameOk = true
  · have e : nmE s = 0 := by unfold nmE; rw [if_neg h1, if_neg h2, if_pos h3]
    rw [if_pos h3, if_pos e, if_pos e, if_pos e]
  · have e : nmE s = 4 := by unfold nmE; rw [if_neg h1, if_neg h2, if_neg h3]
    rw [if_neg h3, e, if_neg (by decide)]
theorem splitR_val (s : List UInt8) : splitR s = (.tuple [.bool (nmR s), .own 0 (nmL s).length 0 (nmL s).length, .int .i64 (nmE s)], [.dat true 1 (strs (nmL s))]) := by
  unfold nmL nmR splitR
  by_cases h1 : s = []
  · have e : nmE s = 4 := by unfold nmE; rw [if_pos h1]
    rw [if_pos h1, e]
    rfl
  rw [if_neg h1]
  by_cases h2 : 256 < s.length
  · have e : nmE s = 7 := by unfold nmE; rw [if_neg h1, if_pos h2]
    rw [if_pos h2, e]
    rfl
  rw [if_neg h2, runS_eq s [] [] s.length (by simp) (by simp), List.nil_append]
  by_cases h3 : (partsF s.length s).all nameOk = true
  · have e : nmE s = 0 := by unfold nmE; rw [if_neg h1, if_neg h2, if_pos h3]
    rw [if_pos h3, if_pos e, if_pos e, e]
    rfl
  · have e : nmE s = 4 := by unfold nmE; rw [if_neg h1, if_neg h2, if_neg h3]
    rw [if_neg h3, e]
    rfl

theorem fsSplit_eq (a : Int) (s : List UInt8) : bodyW DC 65 [.int .i64 a, .str s] [] = some (.tuple [.int .i64 (if nmR s = true then 1 else a), .own 0 (nmL s).length 0 (nmL s).length, .int .i64 (nmE s)], [.dat true 1 (strs (nmL s))]) := by
  have v := split_val s
  by_cases h : nmE s = 0
  · rw [if_pos h] at v
    rw [h]
    generalize nmL s = N at v
    cases hr : nmR s <;>
    · rw [hr] at v
      (refine gives_iff ?_; refine go_func Tryz.f65 rfl rfl (by simp [Tryz.f65]) ?_; dsimp only [codeL, Tryz.f65, scL, sopsL, guardL, dstAt, loopKey])
      (repeat (first
    | (apply is_ok; (case hw => simp [v]); (case he => simp [v]; exact is_rfl))
    | (apply op_no; (case hw => simp [v]))
    | refine op_nil ?_ | refine next_normal ?_ | refine go_seq ?_ | refine go_region ?_ | refine go_skip ?_ | refine go_block ?_ | refine inb_normal ?_
    | (apply go_yes; (case hc => simp [v])) | (apply go_no; (case hc => simp [v]))
    | refine go_exit ?_ | refine next_exit ?_ | refine inb_here ?_ | refine inb_past (by decide) ?_ | refine go_ret ?_ | refine next_ret ?_ | refine inb_ret ?_))
      (apply ends_ok; (case h1 => simp; exact is_rfl); (case h2 => simp; exact is_rfl))
      simp
  · rw [if_neg h] at v
    have e1 : nmL s = [] := if_neg h
    have e2 : nmR s = false := if_neg h
    rw [e1, e2]
    generalize nmE s = e at v
    (refine gives_iff ?_; refine go_func Tryz.f65 rfl rfl (by simp [Tryz.f65]) ?_; dsimp only [codeL, Tryz.f65, scL, sopsL, guardL, dstAt, loopKey])
    (repeat (first
    | (apply is_ok; (case hw => simp [v]); (case he => simp [v]; exact is_rfl))
    | (apply op_no; (case hw => simp [v]))
    | refine op_nil ?_ | refine next_normal ?_ | refine go_seq ?_ | refine go_region ?_ | refine go_skip ?_ | refine go_block ?_ | refine inb_normal ?_
    | (apply go_yes; (case hc => simp [v])) | (apply go_no; (case hc => simp [v]))
    | refine go_exit ?_ | refine next_exit ?_ | refine inb_here ?_ | refine inb_past (by decide) ?_ | refine go_ret ?_ | refine next_ret ?_ | refine inb_ret ?_))
    (apply ends_ok; (case h1 => simp; exact is_rfl); (case h2 => simp; exact is_rfl))
    simp

def layE (S : List (List UInt8)) (B : List Int) : Int := if VolP S B then 0 else 9
theorem checked_eq (S : List (List UInt8)) (B : List Int) (hB : B.length ≤ maxLen) : bodyW DC 39 [drv S B] [] = some (.int .i64 (layE S B), []) := by
  have v := Layout_eq S B hB
  unfold layE
  by_cases h : VolP S B
  · rw [layV_yes h] at v
    rw [if_pos h]
    (refine gives_iff ?_; refine go_func Tryz.f39 rfl rfl (by simp [Tryz.f39]) ?_; dsimp only [codeL, Tryz.f39, scL, sopsL, guardL, dstAt, loopKey])
    (repeat (first
    | (apply is_ok; (case hw => simp [v]); (case he => simp [v]; exact is_rfl))
    | (apply op_no; (case hw => simp [v]))
    | refine op_nil ?_ | refine next_normal ?_ | refine go_seq ?_ | refine go_region ?_ | refine go_skip ?_ | refine go_block ?_ | refine inb_normal ?_
    | (apply go_yes; (case hc => simp [v])) | (apply go_no; (case hc => simp [v]))
    | refine go_exit ?_ | refine next_exit ?_ | refine inb_here ?_ | refine inb_past (by decide) ?_ | refine go_ret ?_ | refine next_ret ?_ | refine inb_ret ?_))
    (apply ends_ok; (case h1 => simp; exact is_rfl); (case h2 => simp; exact is_rfl))
    simp
  · rw [layV_no h] at v
    rw [if_neg h]
    (refine gives_iff ?_; refine go_func Tryz.f39 rfl rfl (by simp [Tryz.f39]) ?_; dsimp only [codeL, Tryz.f39, scL, sopsL, guardL, dstAt, loopKey])
    (repeat (first
    | (apply is_ok; (case hw => simp [v]); (case he => simp [v]; exact is_rfl))
    | (apply op_no; (case hw => simp [v]))
    | refine op_nil ?_ | refine next_normal ?_ | refine go_seq ?_ | refine go_region ?_ | refine go_skip ?_ | refine go_block ?_ | refine inb_normal ?_
    | (apply go_yes; (case hc => simp [v])) | (apply go_no; (case hc => simp [v]))
    | refine go_exit ?_ | refine next_exit ?_ | refine inb_here ?_ | refine inb_past (by decide) ?_ | refine go_ret ?_ | refine next_ret ?_ | refine inb_ret ?_))
    (apply ends_ok; (case h1 => simp; exact is_rfl); (case h2 => simp; exact is_rfl))
    simp
theorem begin_eq (S : List (List UInt8)) (B : List Int) (hB : B.length ≤ maxLen) : bodyW DC 47 [drv S B] [] = some (.agg [.sl (strs S), .sl (ints B), .nils, .int .i64 (layE S B)], []) := by
  have v := LayoutR_eq S B hB
  unfold layE
  by_cases h : VolP S B
  · rw [layV_yes h] at v
    rw [if_pos h]
    (refine gives_iff ?_; refine go_func Tryz.f47 rfl rfl (by simp [Tryz.f47]) ?_; dsimp only [codeL, Tryz.f47, scL, sopsL, guardL, dstAt, loopKey])
    (repeat (first
    | (apply is_ok; (case hw => simp [v]); (case he => simp [v]; exact is_rfl))
    | (apply op_no; (case hw => simp [v]))
    | refine op_nil ?_ | refine next_normal ?_ | refine go_seq ?_ | refine go_region ?_ | refine go_skip ?_ | refine go_block ?_ | refine inb_normal ?_
    | (apply go_yes; (case hc => simp [v])) | (apply go_no; (case hc => simp [v]))
    | refine go_exit ?_ | refine next_exit ?_ | refine inb_here ?_ | refine inb_past (by decide) ?_ | refine go_ret ?_ | refine next_ret ?_ | refine inb_ret ?_))
    (apply ends_ok; (case h1 => simp; exact is_rfl); (case h2 => simp; exact is_rfl))
    simp
  · rw [layV_no h] at v
    rw [if_neg h]
    (refine gives_iff ?_; refine go_func Tryz.f47 rfl rfl (by simp [Tryz.f47]) ?_; dsimp only [codeL, Tryz.f47, scL, sopsL, guardL, dstAt, loopKey])
    (repeat (first
    | (apply is_ok; (case hw => simp [v]); (case he => simp [v]; exact is_rfl))
    | (apply op_no; (case hw => simp [v]))
    | refine op_nil ?_ | refine next_normal ?_ | refine go_seq ?_ | refine go_region ?_ | refine go_skip ?_ | refine go_block ?_ | refine inb_normal ?_
    | (apply go_yes; (case hc => simp [v])) | (apply go_no; (case hc => simp [v]))
    | refine go_exit ?_ | refine next_exit ?_ | refine inb_here ?_ | refine inb_past (by decide) ?_ | refine go_ret ?_ | refine next_ret ?_ | refine inb_ret ?_))
    (apply ends_ok; (case h1 => simp; exact is_rfl); (case h2 => simp; exact is_rfl))
    simp

/-- The inode of a path. -/
noncomputable def resR (S : List (List UInt8)) (B : List Int) (a : Int) (s : List UInt8) : Int × Int := if layE S B ≠ 0 then (0, layE S B) else if nmE s ≠ 0 then (0, nmE s) else walkR S B (nmL s) (if nmR s = true then 1 else a)

theorem Resolve_eq (S : List (List UInt8)) (B : List Int) (hB : B.length ≤ maxLen) (a : Int) (s : List UInt8) : bodyW DC 21 [drv S B, .int .i64 a, .str s] [] = some (.tuple [.int .i64 (resR S B a s).1, .int .i64 (resR S B a s).2], []) := by
  have v1 := checked_eq S B hB
  have v2 := fsSplit_eq a s
  have hn := nmL_len s
  have v3 := walk_eq S B hB (if nmR s = true then 1 else a) (nmL s) (by omega)
  unfold resR
  generalize layE S B = e1 at v1
  generalize nmE s = e2 at v2
  by_cases h1 : e1 = 0
  · rw [if_neg (by simpa using h1)]
    subst h1
    by_cases h2 : e2 = 0
    · rw [if_neg (by simpa using h2)]
      subst h2
      generalize (if nmR s = true then 1 else a) = c at v2 v3
      generalize walkR S B (nmL s) c = w at v3
      generalize nmL s = N at v2 v3
      (refine gives_iff ?_; refine go_func Tryz.f21 rfl rfl (by simp [Tryz.f21]) ?_; dsimp only [codeL, Tryz.f21, scL, sopsL, guardL, dstAt, loopKey])
      (repeat (first
    | (apply is_ok; (case hw => simp [v1, v2, v3]); (case he => simp [v1, v2, v3]; exact is_rfl))
    | (apply op_no; (case hw => simp [v1, v2, v3]))
    | refine op_nil ?_ | refine next_normal ?_ | refine go_seq ?_ | refine go_region ?_ | refine go_skip ?_ | refine go_block ?_ | refine inb_normal ?_
    | (apply go_yes; (case hc => simp [v1, v2, v3])) | (apply go_no; (case hc => simp [v1, v2, v3]))
    | refine go_exit ?_ | refine next_exit ?_ | refine inb_here ?_ | refine inb_past (by decide) ?_ | refine go_ret ?_ | refine next_ret ?_ | refine inb_ret ?_))
      (apply ends_ok; (case h1 => simp; exact is_rfl); (case h2 => simp; exact is_rfl))
      simp
    · rw [if_pos h2]
      generalize (if nmR s = true then 1 else a) = c at v2
      generalize nmL s = N at v2
      (refine gives_iff ?_; refine go_func Tryz.f21 rfl rfl (by simp [Tryz.f21]) ?_; dsimp only [codeL, Tryz.f21, scL, sopsL, guardL, dstAt, loopKey])
      (repeat (first
    | (apply is_ok; (case hw => simp [v1, v2, h2]); (case he => simp [v1, v2, h2]; exact is_rfl))
    | (apply op_no; (case hw => simp [v1, v2, h2]))
    | refine op_nil ?_ | refine next_normal ?_ | refine go_seq ?_ | refine go_region ?_ | refine go_skip ?_ | refine go_block ?_ | refine inb_normal ?_
    | (apply go_yes; (case hc => simp [v1, v2, h2])) | (apply go_no; (case hc => simp [v1, v2, h2]))
    | refine go_exit ?_ | refine next_exit ?_ | refine inb_here ?_ | refine inb_past (by decide) ?_ | refine go_ret ?_ | refine next_ret ?_ | refine inb_ret ?_))
      (apply ends_ok; (case h1 => simp; exact is_rfl); (case h2 => simp; exact is_rfl))
      simp
  · rw [if_pos h1]
    (refine gives_iff ?_; refine go_func Tryz.f21 rfl rfl (by simp [Tryz.f21]) ?_; dsimp only [codeL, Tryz.f21, scL, sopsL, guardL, dstAt, loopKey])
    (repeat (first
    | (apply is_ok; (case hw => simp [v1, h1]); (case he => simp [v1, h1]; exact is_rfl))
    | (apply op_no; (case hw => simp [v1, h1]))
    | refine op_nil ?_ | refine next_normal ?_ | refine go_seq ?_ | refine go_region ?_ | refine go_skip ?_ | refine go_block ?_ | refine inb_normal ?_
    | (apply go_yes; (case hc => simp [v1, h1])) | (apply go_no; (case hc => simp [v1, h1]))
    | refine go_exit ?_ | refine next_exit ?_ | refine inb_here ?_ | refine inb_past (by decide) ?_ | refine go_ret ?_ | refine next_ret ?_ | refine inb_ret ?_))
    (apply ends_ok; (case h1 => simp; exact is_rfl); (case h2 => simp; exact is_rfl))
    simp

theorem ResolveR_eq (S : List (List UInt8)) (B : List Int) (hB : B.length ≤ maxLen) (a : Int) (s : List UInt8) : bodyW DC 20 [drv S B, .int .i64 a, .str s] [] = some (.tuple [.int .i64 (resR S B a s).1, .int .i64 (resR S B a s).2], []) := by
  have v1 := begin_eq S B hB
  have v2 := refSplit_eq s
  rw [splitR_val] at v2
  have hn := nmL_len s
  have v3 := walkRef_eq S B hB (if nmR s = true then 1 else a) (nmL s) (by omega)
  unfold resR
  generalize layE S B = e1 at v1
  generalize nmE s = e2 at v2
  by_cases h1 : e1 = 0
  · rw [if_neg (by simpa using h1)]
    subst h1
    by_cases h2 : e2 = 0
    · rw [if_neg (by simpa using h2)]
      subst h2
      cases hr : nmR s <;>
      · rw [hr] at v2 v3
        simp only [if_true, if_false, Bool.false_eq_true] at v3 ⊢
        generalize walkR S B (nmL s) _ = w at v3
        generalize nmL s = N at v2 v3
        (refine gives_iff ?_; refine go_func Tryz.f20 rfl rfl (by simp [Tryz.f20]) ?_; dsimp only [codeL, Tryz.f20, scL, sopsL, guardL, dstAt, loopKey])
        (repeat (first
    | (apply is_ok; (case hw => simp [v1, v2, v3]); (case he => simp [v1, v2, v3]; exact is_rfl))
    | (apply op_no; (case hw => simp [v1, v2, v3]))
    | refine op_nil ?_ | refine next_normal ?_ | refine go_seq ?_ | refine go_region ?_ | refine go_skip ?_ | refine go_block ?_ | refine inb_normal ?_
    | (apply go_yes; (case hc => simp [v1, v2, v3])) | (apply go_no; (case hc => simp [v1, v2, v3]))
    | refine go_exit ?_ | refine next_exit ?_ | refine inb_here ?_ | refine inb_past (by decide) ?_ | refine go_ret ?_ | refine next_ret ?_ | refine inb_ret ?_))
        (apply ends_ok; (case h1 => simp; exact is_rfl); (case h2 => simp; exact is_rfl))
        simp
    · rw [if_pos h2]
      generalize nmL s = N at v2
      generalize nmR s = r at v2
      (refine gives_iff ?_; refine go_func Tryz.f20 rfl rfl (by simp [Tryz.f20]) ?_; dsimp only [codeL, Tryz.f20, scL, sopsL, guardL, dstAt, loopKey])
      (repeat (first
    | (apply is_ok; (case hw => simp [v1, v2, h2]); (case he => simp [v1, v2, h2]; exact is_rfl))
    | (apply op_no; (case hw => simp [v1, v2, h2]))
    | refine op_nil ?_ | refine next_normal ?_ | refine go_seq ?_ | refine go_region ?_ | refine go_skip ?_ | refine go_block ?_ | refine inb_normal ?_
    | (apply go_yes; (case hc => simp [v1, v2, h2])) | (apply go_no; (case hc => simp [v1, v2, h2]))
    | refine go_exit ?_ | refine next_exit ?_ | refine inb_here ?_ | refine inb_past (by decide) ?_ | refine go_ret ?_ | refine next_ret ?_ | refine inb_ret ?_))
      (apply ends_ok; (case h1 => simp; exact is_rfl); (case h2 => simp; exact is_rfl))
      simp
  · rw [if_pos h1]
    (refine gives_iff ?_; refine go_func Tryz.f20 rfl rfl (by simp [Tryz.f20]) ?_; dsimp only [codeL, Tryz.f20, scL, sopsL, guardL, dstAt, loopKey])
    (repeat (first
    | (apply is_ok; (case hw => simp [v1, h1]); (case he => simp [v1, h1]; exact is_rfl))
    | (apply op_no; (case hw => simp [v1, h1]))
    | refine op_nil ?_ | refine next_normal ?_ | refine go_seq ?_ | refine go_region ?_ | refine go_skip ?_ | refine go_block ?_ | refine inb_normal ?_
    | (apply go_yes; (case hc => simp [v1, h1])) | (apply go_no; (case hc => simp [v1, h1]))
    | refine go_exit ?_ | refine next_exit ?_ | refine inb_here ?_ | refine inb_past (by decide) ?_ | refine go_ret ?_ | refine next_ret ?_ | refine inb_ret ?_))
    (apply ends_ok; (case h1 => simp; exact is_rfl); (case h2 => simp; exact is_rfl))
    simp

/-- Bytes of a file. -/
def readF (S : List (List UInt8)) (B : List Int) (n o m : Int) : List UInt8 × Int :=
  if getE S B n ≠ 0 then ([], getE S B n) else if ikN S B n = 0 then ([], 13) else if m < 0 then ([], 1) else if o < 0 then ([], 2)
  else (((conN S B n).1.drop o.toNat).take m.toNat, (conN S B n).2)

theorem fsRead_eq (S : List (List UInt8)) (B : List Int) (hB : B.length ≤ maxLen) (n o m : Int) :
    bodyW DC 19 [drv S B, .int .i64 n, .int .i64 o, .int .i64 m] [] = some (.tuple [.str (readF S B n o m).1, .int .i64 (readF S B n o m).2], []) := by
  have v1 := Get38_eq S B hB n
  unfold readF
  by_cases h1 : getE S B n = 0
  case neg =>
    rw [if_pos h1]
    rw [getV_no h1] at v1
    generalize getE S B n = e at v1 h1
    (refine gives_iff ?_; refine go_func Tryz.f19 rfl rfl (by simp [Tryz.f19]) ?_; dsimp only [codeL, Tryz.f19, scL, sopsL, guardL, dstAt, loopKey])
    (repeat (first
    | (apply is_ok; (case hw => simp [v1, h1]); (case he => simp [v1, h1]; exact is_rfl))
    | (apply op_no; (case hw => simp [v1, h1]))
    | refine op_nil ?_ | refine next_normal ?_ | refine go_seq ?_ | refine go_region ?_ | refine go_skip ?_ | refine go_block ?_ | refine inb_normal ?_
    | (apply go_yes; (case hc => simp [v1, h1])) | (apply go_no; (case hc => simp [v1, h1]))
    | refine go_exit ?_ | refine next_exit ?_ | refine inb_here ?_ | refine inb_past (by decide) ?_ | refine go_ret ?_ | refine next_ret ?_ | refine inb_ret ?_))
    (apply ends_ok; (case h1 => simp; exact is_rfl); (case h2 => simp; exact is_rfl))
    simp
  have g := get_ok h1
  rw [if_neg (by simpa using h1)]
  rw [h1, g.val] at v1
  have hl := g.len
  have v2 := contents_eq S B g.vol.1 hB (ikN S B n) (ilN S B n) (izN S B n) (iLN S B n) g.len g.siz
  have hcl := conN_len g
  change bodyW DC _ _ _ = some (V.tuple [.str (conN S B n).1, .int .i64 (conN S B n).2], []) at v2
  generalize iLN S B n = L at v1 v2 hl
  by_cases h2 : ikN S B n = 0
  · rw [if_pos h2]
    rw [h2] at v1
    (refine gives_iff ?_; refine go_func Tryz.f19 rfl rfl (by simp [Tryz.f19]) ?_; dsimp only [codeL, Tryz.f19, scL, sopsL, guardL, dstAt, loopKey])
    (repeat (first
    | (apply is_ok; (case hw => simp [v1, hl]); (case he => simp [v1, hl]; exact is_rfl))
    | (apply op_no; (case hw => simp [v1, hl]))
    | refine op_nil ?_ | refine next_normal ?_ | refine go_seq ?_ | refine go_region ?_ | refine go_skip ?_ | refine go_block ?_ | refine inb_normal ?_
    | (apply go_yes; (case hc => simp [v1, hl])) | (apply go_no; (case hc => simp [v1, hl]))
    | refine go_exit ?_ | refine next_exit ?_ | refine inb_here ?_ | refine inb_past (by decide) ?_ | refine go_ret ?_ | refine next_ret ?_ | refine inb_ret ?_))
    (apply ends_ok; (case h1 => simp; exact is_rfl); (case h2 => simp; exact is_rfl))
    simp
  rw [if_neg h2]
  generalize ikN S B n = k at v1 v2 h2
  by_cases h3 : m < 0
  · rw [if_pos h3]
    (refine gives_iff ?_; refine go_func Tryz.f19 rfl rfl (by simp [Tryz.f19]) ?_; dsimp only [codeL, Tryz.f19, scL, sopsL, guardL, dstAt, loopKey])
    (repeat (first
    | (apply is_ok; (case hw => simp [v1, h2, h3, hl]); (case he => simp [v1, h2, h3, hl]; exact is_rfl))
    | (apply op_no; (case hw => simp [v1, h2, h3, hl]))
    | refine op_nil ?_ | refine next_normal ?_ | refine go_seq ?_ | refine go_region ?_ | refine go_skip ?_ | refine go_block ?_ | refine inb_normal ?_
    | (apply go_yes; (case hc => simp [v1, h2, h3, hl])) | (apply go_no; (case hc => simp [v1, h2, h3, hl]))
    | refine go_exit ?_ | refine next_exit ?_ | refine inb_here ?_ | refine inb_past (by decide) ?_ | refine go_ret ?_ | refine next_ret ?_ | refine inb_ret ?_))
    (apply ends_ok; (case h1 => simp; exact is_rfl); (case h2 => simp; exact is_rfl))
    simp
  rw [if_neg h3]
  by_cases h4 : o < 0
  · rw [if_pos h4]
    (refine gives_iff ?_; refine go_func Tryz.f19 rfl rfl (by simp [Tryz.f19]) ?_; dsimp only [codeL, Tryz.f19, scL, sopsL, guardL, dstAt, loopKey])
    (repeat (first
    | (apply is_ok; (case hw => simp [v1, h2, h3, h4, hl]); (case he => simp [v1, h2, h3, h4, hl]; exact is_rfl))
    | (apply op_no; (case hw => simp [v1, h2, h3, h4, hl]))
    | refine op_nil ?_ | refine next_normal ?_ | refine go_seq ?_ | refine go_region ?_ | refine go_skip ?_ | refine go_block ?_ | refine inb_normal ?_
    | (apply go_yes; (case hc => simp [v1, h2, h3, h4, hl])) | (apply go_no; (case hc => simp [v1, h2, h3, h4, hl]))
    | refine go_exit ?_ | refine next_exit ?_ | refine inb_here ?_ | refine inb_past (by decide) ?_ | refine go_ret ?_ | refine next_ret ?_ | refine inb_ret ?_))
    (apply ends_ok; (case h1 => simp; exact is_rfl); (case h2 => simp; exact is_rfl))
    simp
  rw [if_neg h4]
  generalize (conN S B n).1 = t at v2 hcl
  generalize (conN S B n).2 = e at v2
  obtain ⟨p, hp⟩ : ∃ p, p = min o.toNat t.length := ⟨_, rfl⟩
  have e1 : min o (t.length : Int) = (p : Int) := by omega
  have hpl : p ≤ t.length := by omega
  have e2 : t.drop o.toNat = t.drop p := by
    by_cases hc : o.toNat ≤ t.length
    · rw [show p = o.toNat by omega]
    · rw [List.drop_of_length_le (by omega), List.drop_of_length_le (by omega)]
  have hdl : (t.drop p).length = t.length - p := List.length_drop
  rw [e2]
  generalize hu : t.drop p = u at hdl
  obtain ⟨q, hq⟩ : ∃ q, q = min m.toNat u.length := ⟨_, rfl⟩
  have e3 : min m (u.length : Int) = (q : Int) := by omega
  have hql : q ≤ u.length := by omega
  have e4 : u.take m.toNat = u.take q := by
    by_cases hc : m.toNat ≤ u.length
    · rw [show q = m.toNat by omega]
    · rw [List.take_of_length_le (by omega), List.take_of_length_le (by omega)]
  rw [e4]
  (refine gives_iff ?_; refine go_func Tryz.f19 rfl rfl (by simp [Tryz.f19]) ?_; dsimp only [codeL, Tryz.f19, scL, sopsL, guardL, dstAt, loopKey])
  (repeat (first
    | (apply is_ok; (case hw => simp [v1, v2, h2, h3, h4, hl, e1, hpl, hu, e3, hql]); (case he => simp [v1, v2, h2, h3, h4, hl, e1, hpl, hu, e3, hql]; exact is_rfl))
    | (apply op_no; (case hw => simp [v1, v2, h2, h3, h4, hl, e1, hpl, hu, e3, hql]))
    | refine op_nil ?_ | refine next_normal ?_ | refine go_seq ?_ | refine go_region ?_ | refine go_skip ?_ | refine go_block ?_ | refine inb_normal ?_
    | (apply go_yes; (case hc => simp [v1, v2, h2, h3, h4, hl, e1, hpl, hu, e3, hql])) | (apply go_no; (case hc => simp [v1, v2, h2, h3, h4, hl, e1, hpl, hu, e3, hql]))
    | refine go_exit ?_ | refine next_exit ?_ | refine inb_here ?_ | refine inb_past (by decide) ?_ | refine go_ret ?_ | refine next_ret ?_ | refine inb_ret ?_))
  (apply ends_ok; (case h1 => simp; exact is_rfl); (case h2 => simp; exact is_rfl))
  simp

theorem fsReadR_eq (S : List (List UInt8)) (B : List Int) (hB : B.length ≤ maxLen) (n o m : Int) :
    bodyW DC 17 [drv S B, .int .i64 n, .int .i64 o, .int .i64 m] [] = some (.tuple [.str (readF S B n o m).1, .int .i64 (readF S B n o m).2], []) := by
  have v0 := begin_eq S B hB
  by_cases h0 : layE S B = 0
  case neg =>
    have hv : ¬ VolP S B := fun h => h0 (if_pos h)
    have e9 : layE S B = 9 := if_neg hv
    have g9 : getE S B n = 9 := by unfold getE secS; rw [if_neg hv]; rfl
    unfold readF
    rw [g9, if_pos (by decide)]
    rw [e9] at v0
    (refine gives_iff ?_; refine go_func Tryz.f17 rfl rfl (by simp [Tryz.f17]) ?_; dsimp only [codeL, Tryz.f17, scL, sopsL, guardL, dstAt, loopKey])
    (repeat (first
    | (apply is_ok; (case hw => simp [v0]); (case he => simp [v0]; exact is_rfl))
    | (apply op_no; (case hw => simp [v0]))
    | refine op_nil ?_ | refine next_normal ?_ | refine go_seq ?_ | refine go_region ?_ | refine go_skip ?_ | refine go_block ?_ | refine inb_normal ?_
    | (apply go_yes; (case hc => simp [v0])) | (apply go_no; (case hc => simp [v0]))
    | refine go_exit ?_ | refine next_exit ?_ | refine inb_here ?_ | refine inb_past (by decide) ?_ | refine go_ret ?_ | refine next_ret ?_ | refine inb_ret ?_))
    (apply ends_ok; (case h1 => simp; exact is_rfl); (case h2 => simp; exact is_rfl))
    simp
  rw [h0] at v0
  have v1 := Get38R_eq S B hB n
  unfold readF
  by_cases h1 : getE S B n = 0
  case neg =>
    rw [if_pos h1]
    rw [getV_no h1] at v1
    generalize getE S B n = e at v1 h1
    (refine gives_iff ?_; refine go_func Tryz.f17 rfl rfl (by simp [Tryz.f17]) ?_; dsimp only [codeL, Tryz.f17, scL, sopsL, guardL, dstAt, loopKey])
    (repeat (first
    | (apply is_ok; (case hw => simp [v0, v1, h1]); (case he => simp [v0, v1, h1]; exact is_rfl))
    | (apply op_no; (case hw => simp [v0, v1, h1]))
    | refine op_nil ?_ | refine next_normal ?_ | refine go_seq ?_ | refine go_region ?_ | refine go_skip ?_ | refine go_block ?_ | refine inb_normal ?_
    | (apply go_yes; (case hc => simp [v0, v1, h1])) | (apply go_no; (case hc => simp [v0, v1, h1]))
    | refine go_exit ?_ | refine next_exit ?_ | refine inb_here ?_ | refine inb_past (by decide) ?_ | refine go_ret ?_ | refine next_ret ?_ | refine inb_ret ?_))
    (apply ends_ok; (case h1 => simp; exact is_rfl); (case h2 => simp; exact is_rfl))
    simp
  have g := get_ok h1
  rw [if_neg (by simpa using h1)]
  rw [h1, g.val] at v1
  have hl := g.len
  have v2 := contentsR_eq S B g.vol.1 hB (ikN S B n) (ilN S B n) (izN S B n) (iLN S B n) g.len g.siz
  have hcl := conN_len g
  have hce : (conN S B n).2 ≠ 0 → (conN S B n).1 = [] := fun h => by
    unfold conN contV
    simp only
    rw [contR_err _ _ h]
    simp
  change bodyW DC _ _ _ = some (V.tuple [.str (conN S B n).1, .int .i64 (conN S B n).2], []) at v2
  generalize iLN S B n = L at v1 v2 hl
  by_cases h2 : ikN S B n = 0
  · rw [if_pos h2]
    rw [h2] at v1
    (refine gives_iff ?_; refine go_func Tryz.f17 rfl rfl (by simp [Tryz.f17]) ?_; dsimp only [codeL, Tryz.f17, scL, sopsL, guardL, dstAt, loopKey])
    (repeat (first
    | (apply is_ok; (case hw => simp [v0, v1, hl]); (case he => simp [v0, v1, hl]; exact is_rfl))
    | (apply op_no; (case hw => simp [v0, v1, hl]))
    | refine op_nil ?_ | refine next_normal ?_ | refine go_seq ?_ | refine go_region ?_ | refine go_skip ?_ | refine go_block ?_ | refine inb_normal ?_
    | (apply go_yes; (case hc => simp [v0, v1, hl])) | (apply go_no; (case hc => simp [v0, v1, hl]))
    | refine go_exit ?_ | refine next_exit ?_ | refine inb_here ?_ | refine inb_past (by decide) ?_ | refine go_ret ?_ | refine next_ret ?_ | refine inb_ret ?_))
    (apply ends_ok; (case h1 => simp; exact is_rfl); (case h2 => simp; exact is_rfl))
    simp
  rw [if_neg h2]
  generalize ikN S B n = k at v1 v2 h2
  by_cases h3 : m < 0
  · rw [if_pos h3]
    (refine gives_iff ?_; refine go_func Tryz.f17 rfl rfl (by simp [Tryz.f17]) ?_; dsimp only [codeL, Tryz.f17, scL, sopsL, guardL, dstAt, loopKey])
    (repeat (first
    | (apply is_ok; (case hw => simp [v0, v1, h2, h3, hl]); (case he => simp [v0, v1, h2, h3, hl]; exact is_rfl))
    | (apply op_no; (case hw => simp [v0, v1, h2, h3, hl]))
    | refine op_nil ?_ | refine next_normal ?_ | refine go_seq ?_ | refine go_region ?_ | refine go_skip ?_ | refine go_block ?_ | refine inb_normal ?_
    | (apply go_yes; (case hc => simp [v0, v1, h2, h3, hl])) | (apply go_no; (case hc => simp [v0, v1, h2, h3, hl]))
    | refine go_exit ?_ | refine next_exit ?_ | refine inb_here ?_ | refine inb_past (by decide) ?_ | refine go_ret ?_ | refine next_ret ?_ | refine inb_ret ?_))
    (apply ends_ok; (case h1 => simp; exact is_rfl); (case h2 => simp; exact is_rfl))
    simp
  rw [if_neg h3]
  by_cases h4 : o < 0
  · rw [if_pos h4]
    (refine gives_iff ?_; refine go_func Tryz.f17 rfl rfl (by simp [Tryz.f17]) ?_; dsimp only [codeL, Tryz.f17, scL, sopsL, guardL, dstAt, loopKey])
    (repeat (first
    | (apply is_ok; (case hw => simp [v0, v1, h2, h3, h4, hl]); (case he => simp [v0, v1, h2, h3, h4, hl]; exact is_rfl))
    | (apply op_no; (case hw => simp [v0, v1, h2, h3, h4, hl]))
    | refine op_nil ?_ | refine next_normal ?_ | refine go_seq ?_ | refine go_region ?_ | refine go_skip ?_ | refine go_block ?_ | refine inb_normal ?_
    | (apply go_yes; (case hc => simp [v0, v1, h2, h3, h4, hl])) | (apply go_no; (case hc => simp [v0, v1, h2, h3, h4, hl]))
    | refine go_exit ?_ | refine next_exit ?_ | refine inb_here ?_ | refine inb_past (by decide) ?_ | refine go_ret ?_ | refine next_ret ?_ | refine inb_ret ?_))
    (apply ends_ok; (case h1 => simp; exact is_rfl); (case h2 => simp; exact is_rfl))
    simp
  rw [if_neg h4]
  generalize (conN S B n).1 = t at v2 hcl hce
  generalize (conN S B n).2 = e at v2 hce
  by_cases h5 : e = 0
  case neg =>
    rw [hce h5] at v2 ⊢
    (refine gives_iff ?_; refine go_func Tryz.f17 rfl rfl (by simp [Tryz.f17]) ?_; dsimp only [codeL, Tryz.f17, scL, sopsL, guardL, dstAt, loopKey])
    (repeat (first
    | (apply is_ok; (case hw => simp [v0, v1, v2, h2, h3, h4, h5, hl]); (case he => simp [v0, v1, v2, h2, h3, h4, h5, hl]; exact is_rfl))
    | (apply op_no; (case hw => simp [v0, v1, v2, h2, h3, h4, h5, hl]))
    | refine op_nil ?_ | refine next_normal ?_ | refine go_seq ?_ | refine go_region ?_ | refine go_skip ?_ | refine go_block ?_ | refine inb_normal ?_
    | (apply go_yes; (case hc => simp [v0, v1, v2, h2, h3, h4, h5, hl])) | (apply go_no; (case hc => simp [v0, v1, v2, h2, h3, h4, h5, hl]))
    | refine go_exit ?_ | refine next_exit ?_ | refine inb_here ?_ | refine inb_past (by decide) ?_ | refine go_ret ?_ | refine next_ret ?_ | refine inb_ret ?_))
    (apply ends_ok; (case h1 => simp; exact is_rfl); (case h2 => simp; exact is_rfl))
    simp
  subst h5
  by_cases h6 : (t.length : Int) ≤ o
  · rw [List.drop_of_length_le (by omega)]
    (refine gives_iff ?_; refine go_func Tryz.f17 rfl rfl (by simp [Tryz.f17]) ?_; dsimp only [codeL, Tryz.f17, scL, sopsL, guardL, dstAt, loopKey])
    (repeat (first
    | (apply is_ok; (case hw => simp [v0, v1, v2, h2, h3, h4, h6, hl]); (case he => simp [v0, v1, v2, h2, h3, h4, h6, hl]; exact is_rfl))
    | (apply op_no; (case hw => simp [v0, v1, v2, h2, h3, h4, h6, hl]))
    | refine op_nil ?_ | refine next_normal ?_ | refine go_seq ?_ | refine go_region ?_ | refine go_skip ?_ | refine go_block ?_ | refine inb_normal ?_
    | (apply go_yes; (case hc => simp [v0, v1, v2, h2, h3, h4, h6, hl])) | (apply go_no; (case hc => simp [v0, v1, v2, h2, h3, h4, h6, hl]))
    | refine go_exit ?_ | refine next_exit ?_ | refine inb_here ?_ | refine inb_past (by decide) ?_ | refine go_ret ?_ | refine next_ret ?_ | refine inb_ret ?_))
    (apply ends_ok; (case h1 => simp; exact is_rfl); (case h2 => simp; exact is_rfl))
    simp
  obtain ⟨p, rfl⟩ := Int.eq_ofNat_of_zero_le (by omega : 0 ≤ o)
  rw [show ((p : Int)).toNat = p by omega]
  have hpl : p ≤ t.length := by omega
  have w1 : IntKind.i64.wrap ((t.length : Int) - p) = ((t.length - p : Nat) : Int) := by rw [wrap_id (by omega) (by omega)]; omega
  have hdl : (t.drop p).length = t.length - p := List.length_drop
  rw [← hdl] at w1
  generalize hu : t.drop p = u at hdl w1
  obtain ⟨q, hq⟩ : ∃ q, q = min m.toNat u.length := ⟨_, rfl⟩
  have e3 : min m (u.length : Int) = (q : Int) := by omega
  have hql : q ≤ u.length := by omega
  have e4 : u.take m.toNat = u.take q := by
    by_cases hc : m.toNat ≤ u.length
    · rw [show q = m.toNat by omega]
    · rw [List.take_of_length_le (by omega), List.take_of_length_le (by omega)]
  rw [e4]
  (refine gives_iff ?_; refine go_func Tryz.f17 rfl rfl (by simp [Tryz.f17]) ?_; dsimp only [codeL, Tryz.f17, scL, sopsL, guardL, dstAt, loopKey])
  (repeat (first
    | (apply is_ok; (case hw => simp [v0, v1, v2, h2, h3, h4, h6, hl, w1, hpl, hu, e3, hql]); (case he => simp [v0, v1, v2, h2, h3, h4, h6, hl, w1, hpl, hu, e3, hql]; exact is_rfl))
    | (apply op_no; (case hw => simp [v0, v1, v2, h2, h3, h4, h6, hl, w1, hpl, hu, e3, hql]))
    | refine op_nil ?_ | refine next_normal ?_ | refine go_seq ?_ | refine go_region ?_ | refine go_skip ?_ | refine go_block ?_ | refine inb_normal ?_
    | (apply go_yes; (case hc => simp [v0, v1, v2, h2, h3, h4, h6, hl, w1, hpl, hu, e3, hql])) | (apply go_no; (case hc => simp [v0, v1, v2, h2, h3, h4, h6, hl, w1, hpl, hu, e3, hql]))
    | refine go_exit ?_ | refine next_exit ?_ | refine inb_here ?_ | refine inb_past (by decide) ?_ | refine go_ret ?_ | refine next_ret ?_ | refine inb_ret ?_))
  (apply ends_ok; (case h1 => simp; exact is_rfl); (case h2 => simp; exact is_rfl))
  simp

theorem List_eq (S : List (List UInt8)) (B : List Int) (hB : B.length ≤ maxLen) (n : Int) :
    bodyW DC 24 [drv S B, .int .i64 n] [] = some (.tuple [.own 0 (dirR S B n).1.length 0 (dirR S B n).1.length, .int .i64 (dirR S B n).2], [.dat true 2 ((dirR S B n).1.map entV)]) := by
  have v1 := directory_eq S B hB n
  generalize (dirR S B n).1 = l at v1
  (refine gives_iff ?_; refine go_func Tryz.f24 rfl rfl (by simp [Tryz.f24]) ?_; dsimp only [codeL, Tryz.f24, scL, sopsL, guardL, dstAt, loopKey])
  (repeat (first
    | (apply is_ok; (case hw => simp [v1]); (case he => simp [v1]; exact is_rfl))
    | (apply op_no; (case hw => simp [v1]))
    | refine op_nil ?_ | refine next_normal ?_ | refine go_seq ?_ | refine go_region ?_ | refine go_skip ?_ | refine go_block ?_ | refine inb_normal ?_
    | (apply go_yes; (case hc => simp [v1])) | (apply go_no; (case hc => simp [v1]))
    | refine go_exit ?_ | refine next_exit ?_ | refine inb_here ?_ | refine inb_past (by decide) ?_ | refine go_ret ?_ | refine next_ret ?_ | refine inb_ret ?_))
  (apply ends_ok; (case h1 => simp; exact is_rfl); (case h2 => simp; exact is_rfl))
  simp
theorem ListR_eq (S : List (List UInt8)) (B : List Int) (hB : B.length ≤ maxLen) (n : Int) :
    bodyW DC 25 [drv S B, .int .i64 n] [] = some (.tuple [.own 0 (dirR S B n).1.length 0 (dirR S B n).1.length, .int .i64 (dirR S B n).2], [.dat true 2 ((dirR S B n).1.map entV)]) := by
  have v0 := begin_eq S B hB
  by_cases h0 : layE S B = 0
  · rw [h0] at v0
    have v1 := entries_eq S B hB n
    generalize (dirR S B n).1 = l at v1
    (refine gives_iff ?_; refine go_func Tryz.f25 rfl rfl (by simp [Tryz.f25]) ?_; dsimp only [codeL, Tryz.f25, scL, sopsL, guardL, dstAt, loopKey])
    (repeat (first
    | (apply is_ok; (case hw => simp [v0, v1]); (case he => simp [v0, v1]; exact is_rfl))
    | (apply op_no; (case hw => simp [v0, v1]))
    | refine op_nil ?_ | refine next_normal ?_ | refine go_seq ?_ | refine go_region ?_ | refine go_skip ?_ | refine go_block ?_ | refine inb_normal ?_
    | (apply go_yes; (case hc => simp [v0, v1])) | (apply go_no; (case hc => simp [v0, v1]))
    | refine go_exit ?_ | refine next_exit ?_ | refine inb_here ?_ | refine inb_past (by decide) ?_ | refine go_ret ?_ | refine next_ret ?_ | refine inb_ret ?_))
    (apply ends_ok; (case h1 => simp; exact is_rfl); (case h2 => simp; exact is_rfl))
    simp
  · have hv : ¬ VolP S B := fun h => h0 (if_pos h)
    have e9 : layE S B = 9 := if_neg hv
    have g9 : getE S B n = 9 := by unfold getE secS; rw [if_neg hv]; rfl
    have d9 : dirR S B n = ([], 9) := by unfold dirR; rw [g9, if_pos (by decide)]
    rw [e9] at v0
    rw [d9]
    (refine gives_iff ?_; refine go_func Tryz.f25 rfl rfl (by simp [Tryz.f25]) ?_; dsimp only [codeL, Tryz.f25, scL, sopsL, guardL, dstAt, loopKey])
    (repeat (first
    | (apply is_ok; (case hw => simp [v0]); (case he => simp [v0]; exact is_rfl))
    | (apply op_no; (case hw => simp [v0]))
    | refine op_nil ?_ | refine next_normal ?_ | refine go_seq ?_ | refine go_region ?_ | refine go_skip ?_ | refine go_block ?_ | refine inb_normal ?_
    | (apply go_yes; (case hc => simp [v0])) | (apply go_no; (case hc => simp [v0]))
    | refine go_exit ?_ | refine next_exit ?_ | refine inb_here ?_ | refine inb_past (by decide) ?_ | refine go_ret ?_ | refine next_ret ?_ | refine inb_ret ?_))
    (apply ends_ok; (case h1 => simp; exact is_rfl); (case h2 => simp; exact is_rfl))
    simp
end Go.Abs

namespace Go.Abs
open Go.Proofs
set_option maxRecDepth 100000
set_option linter.unusedSimpArgs false
set_option linter.unusedVariables false

/-- A text of long runs of zeros. -/
def pz : List (Nat × List UInt8) → List UInt8
  | [] => []
  | (k, l) :: r => List.replicate k 0 ++ (l ++ pz r)
def zz128 : List UInt8 := List.replicate 128 0
def ax0 : List UInt8 := pz [(0, [69, 77, 86, 49, 64]), (123, [])]
def ax1 : List UInt8 := pz [(0, [255, 255, 255, 7]), (124, [])]
def ax2 : List UInt8 := pz [(32, [2, 0, 1]), (93, [])]
def aS0 : List (List UInt8) := [ax0] ++ List.replicate 17 zz128 ++ [ax1] ++ [ax2] ++ List.replicate 44 zz128
def ax3 : List UInt8 := pz [(0, [255, 255, 255, 15]), (124, [])]
def ax4 : List UInt8 := pz [(32, [2, 0, 1, 0, 16, 0, 27]), (25, [1, 0, 1]), (61, [])]
def ax5 : List UInt8 := pz [(0, [2, 0, 97]), (125, [])]
def aS1 : List (List UInt8) := [ax0] ++ List.replicate 17 zz128 ++ [ax3] ++ [ax4] ++ List.replicate 7 zz128 ++ [ax5] ++ List.replicate 36 zz128
def ax6 : List UInt8 := pz [(0, [255, 255, 255, 31]), (124, [])]
def ax7 : List UInt8 := pz [(32, [2, 0, 1, 0, 16, 0, 27]), (25, [1, 0, 1, 0, 5, 0, 28]), (57, [])]
def ax8 : List UInt8 := pz [(0, [104, 101, 108, 108, 111]), (123, [])]
def aS2 : List (List UInt8) := [ax0] ++ List.replicate 17 zz128 ++ [ax6] ++ [ax7] ++ List.replicate 7 zz128 ++ [ax5] ++ [ax8] ++ List.replicate 35 zz128
def aS3 : List (List UInt8) := [ax0] ++ List.replicate 17 zz128 ++ [ax1] ++ [ax2] ++ List.replicate 7 zz128 ++ [ax5] ++ [ax8] ++ List.replicate 35 zz128
def ax9 : List UInt8 := pz [(32, [2, 0, 1]), (29, [1, 0, 1]), (61, [])]
def aW0 : List (Int × List UInt8) := [(19, ax9), (27, ax5), (18, ax3), (19, ax4)]
def aW1 : List (Int × List UInt8) := [(28, ax8), (18, ax6), (19, ax7)]
def ax10 : List UInt8 := pz [(0, [255, 255, 255, 23]), (124, [])]
def ax11 : List UInt8 := pz [(32, [2, 0, 1]), (29, [1, 0, 1, 0, 5, 0, 28]), (57, [])]
def ax12 : List UInt8 := pz [(32, [2, 0, 1]), (29, [1, 0, 0, 0, 5, 0, 28]), (57, [])]
def ax13 : List UInt8 := pz [(32, [2, 0, 1]), (29, [1]), (63, [])]
def aW2 : List (Int × List UInt8) := [(18, ax10), (19, ax11), (19, ax12), (18, ax1), (19, ax13), (19, ax2)]
theorem al_f : bodyW DC 37 [.int .i64 64, .int .i64 0] [] = some (.tuple [.agg [.own 0 64 0 64, .own 1 0 0 0], .int .i64 0], [.dat true 1 (strs aS0), .dat true 1 []]) := bodyW_iff.2 ⟨1000, by kernel_rfl⟩
theorem al_c : bodyW DC 12 [drv aS0 [], .int .i64 1, .str [47, 97], .int .i64 1] [] = some (.tuple [.own 0 4 0 4, .int .i64 2, .int .i64 0], [.dat true 2 (aW0.map wrV)]) := bodyW_iff.2 ⟨1000, by kernel_rfl⟩
theorem al_m0 : bodyW DC 18 [drv aS0 [], .sl (aW0.map wrV)] [] = some (.agg [.own 0 64 0 64, .sl []], [.dat true 1 (strs aS1)]) := bodyW_iff.2 ⟨1000, by kernel_rfl⟩
theorem al_m1 : bodyW DC 18 [drv aS1 [], .sl (aW1.map wrV)] [] = some (.agg [.own 0 64 0 64, .sl []], [.dat true 1 (strs aS2)]) := bodyW_iff.2 ⟨1000, by kernel_rfl⟩
theorem al_m2 : bodyW DC 18 [drv aS2 [], .sl (aW2.map wrV)] [] = some (.agg [.own 0 64 0 64, .sl []], [.dat true 1 (strs aS3)]) := bodyW_iff.2 ⟨1000, by kernel_rfl⟩
theorem al_w : bodyW DC 16 [drv aS1 [], .int .i64 2, .int .i64 0, .str [104, 101, 108, 108, 111]] [] = some (.tuple [.own 0 3 0 3, .int .i64 0], [.dat true 2 (aW1.map wrV)]) := bodyW_iff.2 ⟨1000, by kernel_rfl⟩
theorem al_r : bodyW DC 19 [drv aS2 [], .int .i64 2, .int .i64 1, .int .i64 3] [] = some (.tuple [.str [101, 108, 108], .int .i64 0], []) := bodyW_iff.2 ⟨1000, by kernel_rfl⟩
theorem al_x : bodyW DC 16 [drv aS2 [], .int .i64 2, .int .i64 6, .str [120]] [] = some (.tuple [.own 0 0 0 0, .int .i64 2], [.dat true 2 []]) := bodyW_iff.2 ⟨1000, by kernel_rfl⟩
theorem al_u : bodyW DC 22 [drv aS2 [], .int .i64 1, .str [47, 97], .sl []] [] = some (.tuple [.own 0 6 0 6, .int .i64 0], [.dat true 2 (aW2.map wrV)]) := bodyW_iff.2 ⟨1000, by kernel_rfl⟩
theorem al_s : bodyW DC 21 [drv aS3 [], .int .i64 1, .str [47, 97]] [] = some (.tuple [.int .i64 0, .int .i64 13], []) := bodyW_iff.2 ⟨1000, by kernel_rfl⟩
theorem al_28 : bodyW DC 38 [drv aS3 [], .int .i64 28] [] = some (.bool false, []) := bodyW_iff.2 ⟨1000, by kernel_rfl⟩
theorem al_27 : bodyW DC 38 [drv aS3 [], .int .i64 27] [] = some (.bool false, []) := bodyW_iff.2 ⟨1000, by kernel_rfl⟩
theorem al_n0 : aS0.length = 64 := by kernel_rfl
theorem al_n1 : aS1.length = 64 := by kernel_rfl
theorem al_n2 : aS2.length = 64 := by kernel_rfl
theorem al_n3 : aS3.length = 64 := by kernel_rfl
theorem al_l0 : aW0.length = 4 := by kernel_rfl
theorem al_l1 : aW1.length = 3 := by kernel_rfl
theorem al_l2 : aW2.length = 6 := by kernel_rfl
end Go.Abs

namespace Go.Abs
open Go.Proofs
set_option maxRecDepth 100000
set_option linter.unusedSimpArgs false
set_option linter.unusedVariables false

theorem hasRoL_wr40 (l : List (Int × List UInt8)) : hasRoL (l.map wrV) = false := by
  rw [hasRoL_any, List.any_eq_false]
  intro x hx
  obtain ⟨w, _, rfl⟩ := List.mem_map.1 hx
  simp

theorem al_i0 (h : 0 < aW0.length) : (aW0[0]'h).1 = 19 := by kernel_rfl
theorem al_i1 (h : 1 < aW0.length) : (aW0[1]'h).1 = 27 := by kernel_rfl
theorem al_i2 (h : 2 < aW0.length) : (aW0[2]'h).1 = 18 := by kernel_rfl
theorem al_i3 (h : 3 < aW0.length) : (aW0[3]'h).1 = 19 := by kernel_rfl
theorem alive40_eq : bodyW DC 11 [] [] = some (.bool true, []) := by
  have c := al_c
  have m0 := al_m0
  have m1 := al_m1
  have m2 := al_m2
  have w := al_w
  have r := al_r
  have x := al_x
  have u := al_u
  have s := al_s
  have u28 := al_28
  have u27 := al_27
  simp only [drv, ints, List.map_nil] at c m0 m1 m2 w r x u s u28 u27
  (refine gives_iff ?_; refine go_func Tryz.f11 rfl rfl (by simp [Tryz.f11]) ?_; dsimp only [codeL, Tryz.f11, scL, sopsL, guardL, dstAt, loopKey])
  simp only [List.append_eq, List.cons_append, List.nil_append, sopsL, guardL, dstAt]
  (repeat (first
    | (apply is_ok; (case hw => simp [al_f, c, m0, m1, m2, w, r, x, u, s, u28, u27, al_n0, al_n1, al_n2, al_n3, al_l0, al_l1, al_l2, hasRoL_wr40, al_i0, al_i1, al_i2, al_i3]); (case he => simp [al_f, c, m0, m1, m2, w, r, x, u, s, u28, u27, al_n0, al_n1, al_n2, al_n3, al_l0, al_l1, al_l2, hasRoL_wr40, al_i0, al_i1, al_i2, al_i3]; exact is_rfl))
    | (apply op_no; (case hw => simp [al_f, c, m0, m1, m2, w, r, x, u, s, u28, u27, al_n0, al_n1, al_n2, al_n3, al_l0, al_l1, al_l2, hasRoL_wr40, al_i0, al_i1, al_i2, al_i3]))
    | refine op_nil ?_ | refine next_normal ?_ | refine go_seq ?_ | refine go_region ?_ | refine go_skip ?_ | refine go_block ?_ | refine inb_normal ?_
    | (apply go_yes; (case hc => simp [al_f, c, m0, m1, m2, w, r, x, u, s, u28, u27, al_n0, al_n1, al_n2, al_n3, al_l0, al_l1, al_l2, hasRoL_wr40, al_i0, al_i1, al_i2, al_i3])) | (apply go_no; (case hc => simp [al_f, c, m0, m1, m2, w, r, x, u, s, u28, u27, al_n0, al_n1, al_n2, al_n3, al_l0, al_l1, al_l2, hasRoL_wr40, al_i0, al_i1, al_i2, al_i3]))
    | refine go_exit ?_ | refine next_exit ?_ | refine inb_here ?_ | refine inb_past (by decide) ?_ | refine go_ret ?_ | refine next_ret ?_ | refine inb_ret ?_))
  (apply ends_ok; (case h1 => simp; exact is_rfl); (case h2 => simp; exact is_rfl))
  simp
end Go.Abs

namespace Go.Abs
open Go.Proofs
set_option maxRecDepth 100000
set_option linter.unusedSimpArgs false
set_option linter.unusedVariables false

/-- Is a drive bounded? -/
def SmallD (S : List (List UInt8)) (B : List Int) : Prop := (∀ i ∈ List.range S.length, i < 257 → (S.getD i []).length ≤ 200) ∧ S.length ≤ 256 ∧ B.length ≤ 100
instance (S : List (List UInt8)) (B : List Int) : Decidable (SmallD S B) := by unfold SmallD; infer_instance
end Go.Abs

namespace Go.Abs
open Go.Proofs
set_option maxRecDepth 100000
set_option linter.unusedSimpArgs false
set_option linter.unusedVariables false

end Go.Abs

namespace Go.Abs
open Go.Proofs
set_option maxRecDepth 100000
set_option linter.unusedSimpArgs false
set_option linter.unusedVariables false

end Go.Abs

namespace Go.Abs
open Go.Proofs
set_option maxRecDepth 100000
set_option linter.unusedSimpArgs false
set_option linter.unusedVariables false

end Go.Abs

namespace Go.Abs
open Go.Proofs
set_option maxRecDepth 100000
set_option linter.unusedSimpArgs false
set_option linter.unusedVariables false

/-- A byte with a bit set or cleared. -/
def markN (x r : Nat) (u : Bool) : Nat := if u then (if x / 2 ^ r % 2 = 1 then x else x + 2 ^ r) else (if x / 2 ^ r % 2 = 1 then x - 2 ^ r else x)
def markS (s : List UInt8) (n : Nat) (u : Bool) : List UInt8 := s.set (n / 8) (UInt8.ofNat (markN (s.getD (n / 8) 0).toNat (n % 8) u))
@[simp] theorem markS_length {s : List UInt8} {n : Nat} {u : Bool} : (markS s n u).length = s.length := by simp [markS]
end Go.Abs

namespace Go.Abs
open Go.Proofs
set_option maxRecDepth 100000
set_option linter.unusedSimpArgs false
set_option linter.unusedVariables false

end Go.Abs

namespace Go.Abs
open Go.Proofs
set_option maxRecDepth 100000
set_option linter.unusedSimpArgs false
set_option linter.unusedVariables false

end Go.Abs

namespace Go.Abs
open Go.Proofs
set_option maxRecDepth 100000
set_option linter.unusedSimpArgs false
set_option linter.unusedVariables false

end Go.Abs

namespace Go.Abs
open Go.Proofs
set_option maxRecDepth 100000
set_option linter.unusedSimpArgs false

theorem RightP_put {S : List (List UInt8)} {B : List Int} {w : Int × List UInt8} (h : RightP S B) (hw : w.2.length ≤ 128) : RightP (putS S w) B := by
  obtain ⟨h1, h2, h3, h4, h5⟩ := h
  refine ⟨by rw [putS_length]; exact h1, by rw [putS_length]; exact h2, fun s hs => ?_, by rw [putS_length]; exact h4, h5⟩
  unfold putS at hs
  rcases List.mem_or_eq_of_mem_set hs with hs | rfl
  · exact h3 s hs
  · simp; omega
end Go.Abs

namespace Go.Abs
open Go.Proofs
set_option maxRecDepth 100000
set_option linter.unusedSimpArgs false
set_option linter.unusedVariables false

theorem getD_putS {S : List (List UInt8)} {w : Int × List UInt8} {j : Nat} (h : j ≠ w.1.toNat) : (putS S w).getD j [] = S.getD j [] := by
  unfold putS
  rw [List.getD_eq_getElem?_getD, List.getD_eq_getElem?_getD, List.getElem?_set_ne (Ne.symm h)]
end Go.Abs

namespace Go.Abs
open Go.Proofs
set_option maxRecDepth 100000
set_option linter.unusedSimpArgs false
set_option linter.unusedVariables false

end Go.Abs

namespace Go.Abs
open Go.Proofs
set_option maxRecDepth 100000
set_option linter.unusedSimpArgs false
set_option linter.unusedVariables false

end Go.Abs

namespace Go.Abs
open Go.Proofs
set_option maxRecDepth 100000
set_option linter.unusedSimpArgs false
set_option linter.unusedVariables false

end Go.Abs

namespace Go.Abs
open Go.Proofs
set_option maxRecDepth 100000
set_option linter.unusedSimpArgs false
set_option linter.unusedVariables false

def CleanP (S : List (List UInt8)) (B : List Int) : Prop := VolP S B ∧ (1 : Int) ∉ B ∧ S.getD 1 [] = padS []
instance (S : List (List UInt8)) (B : List Int) : Decidable (CleanP S B) := by unfold CleanP; infer_instance
def padW (w : Int × List UInt8) : Int × List UInt8 := (w.1, padS w.2)
def logL (l : List (Int × List UInt8)) : List (Int × List UInt8) := (List.range l.length).map fun i : Nat => (2 + (i : Int), padS (l.getD i (0, [])).2)
def headL (l : List (Int × List UInt8)) : List UInt8 := put2 l.length ++ l.flatMap fun w => put2 w.1
/-- The writes of a transaction. -/
def planL (m : List (Int × List UInt8)) : List (Int × List UInt8) := logL m ++ ((1, padS (headL m)) :: (m.map padW ++ [(1, padS [])]))
theorem flat_len : ∀ l : List (Int × List UInt8), (l.flatMap fun w => put2 w.1).length = 2 * l.length
  | [] => rfl
  | w :: l => by rw [List.flatMap_cons, List.length_append, put2_length, flat_len l, List.length_cons]; omega
end Go.Abs

namespace Go.Abs
open Go.Proofs
set_option maxRecDepth 100000
set_option linter.unusedSimpArgs false
set_option linter.unusedVariables false

end Go.Abs

namespace Go.Abs
open Go.Proofs
set_option maxRecDepth 100000
set_option linter.unusedSimpArgs false
set_option linter.unusedVariables false

def zeroFrom (s : List UInt8) (k : Nat) : Prop := ∀ b ∈ s.drop k, b = 0
instance (s : List UInt8) (k : Nat) : Decidable (zeroFrom s k) := by unfold zeroFrom; infer_instance
end Go.Abs

namespace Go.Abs
open Go.Proofs
set_option maxRecDepth 100000
set_option linter.unusedSimpArgs false
set_option linter.unusedVariables false

end Go.Abs

namespace Go.Abs
open Go.Proofs
set_option maxRecDepth 100000
set_option linter.unusedSimpArgs false
set_option linter.unusedVariables false

def SmallV (S : List (List UInt8)) (B : List Int) : Prop := S.length ≤ 260 ∧ B.length ≤ 60 ∧ ∀ s ∈ S, s.length ≤ 200
instance (S : List (List UInt8)) (B : List Int) : Decidable (SmallV S B) := by unfold SmallV; infer_instance
def FewP (l : List (Int × List UInt8)) : Prop := (∀ w ∈ l, w.2.length ≤ 200) ∧ l.length ≤ 60
instance (l : List (Int × List UInt8)) : Decidable (FewP l) := by unfold FewP; infer_instance
end Go.Abs

namespace Go.Abs
open Go.Proofs
set_option maxRecDepth 100000
set_option linter.unusedSimpArgs false
set_option linter.unusedVariables false

@[simp] theorem hasRoL_wr (l : List (Int × List UInt8)) : hasRoL (l.map wrV) = false := by
  rw [hasRoL_any, List.any_eq_false]
  intro x hx
  obtain ⟨w, _, rfl⟩ := List.mem_map.1 hx
  simp

end Go.Abs

namespace Go.Abs
open Go.Proofs
set_option maxRecDepth 100000
set_option linter.unusedSimpArgs false

abbrev OkAll (n : Nat) (B : List Int) (l : List (Int × List UInt8)) : Prop := ∀ w ∈ l, faultI n B w = 0
abbrev puts (S : List (List UInt8)) (l : List (Int × List UInt8)) : List (List UInt8) := l.foldl putS S

theorem puts_length : ∀ (l : List (Int × List UInt8)) (S : List (List UInt8)), (puts S l).length = S.length
  | [], S => rfl
  | w :: l, S => by show (puts (putS S w) l).length = _; rw [puts_length l, putS_length]

theorem RightP_puts {B : List Int} : ∀ (l : List (Int × List UInt8)) (S : List (List UInt8)), RightP S B → OkAll S.length B l → RightP (puts S l) B
  | [], S, h, _ => h
  | w :: l, S, h, ho => RightP_puts l (putS S w) (RightP_put h (faultI_zero.1 (ho w (List.mem_cons_self ..))).2.1) (by rw [putS_length]; exact fun v hv => ho v (List.mem_cons_of_mem _ hv))
end Go.Abs

namespace Go.Abs
open Go.Proofs
set_option maxRecDepth 100000
set_option linter.unusedSimpArgs false
set_option linter.unusedVariables false

theorem padS_pad {s : List UInt8} (h : s.length ≤ 128) : padS (padS s) = padS s := by
  have := padS_length h
  show padS s ++ List.replicate (128 - (padS s).length) 0 = padS s
  rw [this]
  simp
theorem puts_low {i : Nat} : ∀ (l : List (Int × List UInt8)) (T : List (List UInt8)), (∀ w ∈ l, 0 ≤ w.1 ∧ w.1 ≠ i) → (puts T l).getD i [] = T.getD i []
  | [], _, _ => rfl
  | w :: l, T, h => by
    have h1 := h w (List.mem_cons_self ..)
    have := puts_low l (putS T w) fun v hv => h v (List.mem_cons_of_mem _ hv)
    rw [show puts T (w :: l) = puts (putS T w) l from rfl, this]
    exact getD_putS (by omega)
theorem getD_putS_self {T : List (List UInt8)} {w : Int × List UInt8} (h0 : 0 ≤ w.1) (h1 : w.1 < T.length) : (putS T w).getD w.1.toNat [] = padS w.2 := by
  unfold putS
  rw [List.getD_eq_getElem?_getD, List.getElem?_set_self (by omega)]
  rfl
theorem puts_mem {i : Nat} {w : Int × List UInt8} : ∀ (l : List (Int × List UInt8)) (T : List (List UInt8)), (∀ v ∈ l, 0 ≤ v.1 ∧ v.1 < T.length) → (l.map Prod.fst).Nodup → w ∈ l → w.1 = i → (puts T l).getD i [] = padS w.2
  | [], _, _, _, hw, _ => by cases hw
  | v :: l, T, h, hn, hw, hi => by
    rw [List.map_cons, List.nodup_cons] at hn
    have hv := h v (List.mem_cons_self ..)
    rw [show puts T (v :: l) = puts (putS T v) l from rfl]
    rcases List.mem_cons.1 hw with rfl | hw
    · rw [puts_low l _ fun u hu => ⟨(h u (List.mem_cons_of_mem _ hu)).1, fun e => hn.1 (List.mem_map.2 ⟨u, hu, by omega⟩)⟩]
      rw [show i = w.1.toNat by omega]
      exact getD_putS_self hv.1 hv.2
    · exact puts_mem l _ (fun u hu => by rw [putS_length]; exact h u (List.mem_cons_of_mem _ hu)) hn.2 hw hi

/-- A drive whose log leads to the end of a transaction. -/
def Rdy (S : List (List UInt8)) (m : List (Int × List UInt8)) (T : List (List UInt8)) : Prop :=
  T.length = S.length ∧ RightP T [] ∧ T.getD 0 [] = S.getD 0 [] ∧ T.getD 1 [] = padS (headL m) ∧ (∀ i (h : i < m.length), T.getD (2 + i) [] = padS (m[i]).2) ∧
    ∀ i : Nat, 18 ≤ i → (∀ w ∈ m, w.1 ≠ i) → T.getD i [] = S.getD i []
/-- A drive with a clean log. -/
def Don (S W T : List (List UInt8)) : Prop :=
  T.length = S.length ∧ RightP T [] ∧ T.getD 0 [] = S.getD 0 [] ∧ T.getD 1 [] = padS [] ∧ ∀ i : Nat, 18 ≤ i → T.getD i [] = W.getD i []

/-- What a transaction's writes are. -/
structure Txn (S : List (List UInt8)) (m : List (Int × List UInt8)) : Prop where
  vol : VolP S []
  clean : S.getD 1 [] = padS []
  low : 1 ≤ m.length
  high : m.length ≤ 16
  keys : ∀ w ∈ m, 18 ≤ w.1 ∧ w.1 < S.length - swapW S ∧ w.2.length ≤ 128
  asc : (m.map Prod.fst).Pairwise (· < ·)

section
variable {S T : List (List UInt8)} {m : List (Int × List UInt8)}
theorem Txn.nodup (h : Txn S m) : (m.map Prod.fst).Nodup := h.asc.imp fun h => by omega
theorem Txn.D_nodup (h : Txn S m) : ((m.map padW).map Prod.fst).Nodup := by
  rw [List.map_map]
  exact h.nodup
theorem headL_length (h : m.length ≤ 16) : (headL m).length ≤ 128 := by unfold headL; rw [List.length_append, put2_length, flat_len]; omega
theorem Txn.okD (h : Txn S m) (n : Nat) (hn : n = S.length) : OkAll n [] (m.map padW) := fun w hw => by
  obtain ⟨v, hv, rfl⟩ := List.mem_map.1 hw
  have := h.keys v hv
  have hb := vol_bounds h.vol
  exact faultI_zero.2 ⟨⟨by show 0 ≤ v.1; omega, by show v.1 < n; omega⟩, by show (padS v.2).length ≤ 128; rw [padS_length this.2.2]; omega, by simp⟩
theorem Txn.okV (h : Txn S m) (n : Nat) (hn : n = S.length) : OkAll n [] (logL m) := fun w hw => by
  unfold logL at hw
  obtain ⟨i, hi, rfl⟩ := List.mem_map.1 hw
  rw [List.mem_range] at hi
  have hb := vol_bounds h.vol
  have h16 := h.high
  have := h.keys _ (List.getElem_mem hi)
  refine faultI_zero.2 ⟨⟨by show (0 : Int) ≤ 2 + (i : Int); omega, by show (2 + (i : Int)) < n; omega⟩, ?_, by simp⟩
  show (padS (m.getD i (0, [])).2).length ≤ 128
  rw [getD_at hi, padS_length this.2.2]
  omega
theorem ok_rng {n : Nat} {l : List (Int × List UInt8)} (h : OkAll n [] l) : ∀ w ∈ l, 0 ≤ w.1 ∧ w.1 < n := fun w hw => (faultI_zero.1 (h w hw)).1
theorem Txn.d_low (h : Txn S m) {j i : Nat} (hi : i < 18) : ∀ w ∈ (m.map padW).take j, 0 ≤ w.1 ∧ w.1 ≠ i := fun w hw => by
  obtain ⟨v, hv, rfl⟩ := List.mem_map.1 (List.mem_of_mem_take hw)
  have := h.keys v hv
  exact ⟨by show 0 ≤ v.1; omega, by show v.1 ≠ i; omega⟩
theorem Txn.d_not (h : Txn S m) {j i : Nat} (hi : ∀ w ∈ m, w.1 ≠ i) : ∀ w ∈ (m.map padW).take j, 0 ≤ w.1 ∧ w.1 ≠ i := fun w hw => by
  obtain ⟨v, hv, rfl⟩ := List.mem_map.1 (List.mem_of_mem_take hw)
  have := h.keys v hv
  exact ⟨by show 0 ≤ v.1; omega, hi v hv⟩

/-- The log, written. -/
theorem Txn.rdy0 (h : Txn S m) : Rdy S m (putS (puts S (logL m)) (1, padS (headL m))) := by
  have hb := vol_bounds h.vol
  have h16 := h.high
  have hl : (puts S (logL m)).length = S.length := puts_length ..
  have hlow : ∀ i : Nat, (i < 2 ∨ 18 ≤ i) → ∀ w ∈ logL m, 0 ≤ w.1 ∧ w.1 ≠ i := fun i hi w hw => by
    unfold logL at hw
    obtain ⟨j, hj, rfl⟩ := List.mem_map.1 hw
    rw [List.mem_range] at hj
    exact ⟨by show (0 : Int) ≤ 2 + (j : Int); omega, by show (2 + (j : Int)) ≠ i; omega⟩
  refine ⟨by rw [putS_length, hl], RightP_put (RightP_puts _ _ h.vol.1 (h.okV _ rfl)) (by rw [padS_length (headL_length h16)]; omega), ?_, ?_, fun i hi => ?_, fun i hi hni => ?_⟩
  · rw [getD_putS (by show (0 : Nat) ≠ (1 : Int).toNat; decide)]
    exact puts_low _ _ (hlow 0 (by omega))
  · have := @getD_putS_self (puts S (logL m)) (1, padS (headL m)) (by show (0 : Int) ≤ 1; omega) (by rw [hl]; show (1 : Int) < _; omega)
    rw [padS_pad (headL_length h16)] at this
    exact this
  · rw [getD_putS (by show 2 + i ≠ (1 : Int).toNat; have : (1 : Int).toNat = 1 := rfl; omega)]
    have hmem : ((2 + (i : Int)), padS (m[i]).2) ∈ logL m := by
      unfold logL
      exact List.mem_map.2 ⟨i, List.mem_range.2 hi, by rw [getD_at hi]⟩
    have hnd : ((logL m).map Prod.fst).Nodup := by
      unfold logL
      rw [List.map_map]
      refine List.Pairwise.imp_of_mem (R := (· ≠ ·)) (S := (· ≠ ·)) (fun _ _ h => h) ?_
      rw [List.pairwise_map]
      exact List.nodup_range.imp fun h => by simp; omega
    rw [puts_mem (i := 2 + i) (logL m) S (ok_rng (h.okV _ rfl)) hnd hmem (by show (2 + (i : Int)) = _; omega)]
    exact padS_pad (h.keys _ (List.getElem_mem hi)).2.2
  · rw [getD_putS (by show i ≠ (1 : Int).toNat; have : (1 : Int).toNat = 1 := rfl; omega)]
    exact puts_low _ _ (hlow i (by omega))

theorem Rdy.step (h : Txn S m) (hr : Rdy S m T) (j : Nat) : Rdy S m (puts T ((m.map padW).take j)) := by
  obtain ⟨h1, h2, h3, h4, h5, h6⟩ := hr
  have h16 := h.high
  exact ⟨by rw [puts_length, h1], RightP_puts _ _ h2 fun w hw => h.okD _ h1 w (List.mem_of_mem_take hw), by rw [puts_low _ _ (h.d_low (by omega)), h3], by rw [puts_low _ _ (h.d_low (by omega)), h4],
    fun i hi => by rw [puts_low _ _ (h.d_low (by omega)), h5 i hi], fun i hi hn => by rw [puts_low _ _ (h.d_not hn), h6 i hi hn]⟩

/-- All sectors home, and the log clean. -/
theorem Rdy.fin (h : Txn S m) (hr : Rdy S m T) : Don S (puts S (m.map padW)) (puts T (m.map padW ++ [(1, padS [])])) := by
  have hs := hr.step h m.length
  rw [show (m.map padW).take m.length = m.map padW by rw [List.take_of_length_le (by simp)]] at hs
  have e : puts T (m.map padW ++ [(1, padS [])]) = putS (puts T (m.map padW)) (1, padS []) := by
    show List.foldl putS T _ = _
    rw [List.foldl_append]
    rfl
  have hb := vol_bounds h.vol
  have hgd : ∀ U : List (List UInt8), U.length = S.length → ∀ i : Nat, 18 ≤ i → ∀ w ∈ m, w.1 = i → (puts U (m.map padW)).getD i [] = padS w.2 := fun U hU i hi w hw hwi => by
    have := puts_mem (i := i) (w := padW w) (m.map padW) U (ok_rng (h.okD _ hU)) h.D_nodup (List.mem_map.2 ⟨w, hw, rfl⟩) hwi
    rw [this]
    exact padS_pad (h.keys w hw).2.2
  have hTl := hr.1
  have hr6 := hr.2.2.2.2.2
  obtain ⟨h1, h2, h3, h4, h5, h6⟩ := hs
  rw [e]
  refine ⟨by rw [putS_length, h1], RightP_put h2 (by rw [padS_length (by simp)]; omega), by rw [getD_putS (by show (0 : Nat) ≠ (1 : Int).toNat; decide), h3], ?_, fun i hi => ?_⟩
  · have := @getD_putS_self (puts T (m.map padW)) (1, padS []) (by show (0 : Int) ≤ 1; omega) (by rw [h1]; show (1 : Int) < _; omega)
    rw [padS_pad (by simp)] at this
    exact this
  · rw [getD_putS (by show i ≠ (1 : Int).toNat; have : (1 : Int).toNat = 1 := rfl; omega)]
    by_cases hx : ∃ w ∈ m, w.1 = (i : Int)
    · obtain ⟨w, hw, hwi⟩ := hx
      rw [hgd T hTl i hi w hw hwi, hgd S rfl i hi w hw hwi]
    · have hn : ∀ w ∈ m, w.1 ≠ (i : Int) := fun w hw e => hx ⟨w, hw, e⟩
      rw [h6 i hi hn, puts_low (i := i) (m.map padW) S fun w hw => by
        obtain ⟨v, hv, rfl⟩ := List.mem_map.1 hw
        have := h.keys v hv
        exact ⟨by show 0 ≤ v.1; omega, hn v hv⟩]

theorem puts_all : puts S (planL m) = puts (putS (puts S (logL m)) (1, padS (headL m))) (m.map padW ++ [(1, padS [])]) := by
  unfold planL
  show List.foldl putS S _ = _
  rw [List.foldl_append]
  rfl
theorem Txn.all (h : Txn S m) : Don S (puts S (m.map padW)) (puts S (planL m)) := by
  rw [puts_all]
  exact h.rdy0.fin h
/-- What is outside the log is told by what was wanted. -/
theorem Don.same {W : List (List UInt8)} (h : Txn S m) (hd : Don S W T) (hW : W = S ∨ W = puts S (m.map padW)) : ∀ i : Nat, (i < 2 ∨ 17 < i) → T.getD i [] = W.getD i [] := fun i hi => by
  obtain ⟨h1, h2, h3, h4, h5⟩ := hd
  by_cases hi2 : 18 ≤ i
  · exact h5 i hi2
  have hW2 : ∀ i : Nat, i < 18 → W.getD i [] = S.getD i [] := fun i hi => by
    rcases hW with rfl | rfl
    · rfl
    · have := h.d_low (j := m.length) hi
      rw [List.take_of_length_le (by simp)] at this
      exact puts_low _ _ this
  rw [hW2 i (by omega)]
  have : i = 0 ∨ i = 1 := by omega
  rcases this with rfl | rfl
  · exact h3
  · rw [h4, h.clean]
end
end Go.Abs

