/- Proved here: what functions of the program compute, over the evaluator. No condition but those that each theorem states. -/
import Derived.Test.YtpffmpllnpmkbaaDoorE9
namespace Go.Abs
open Go.Proofs
set_option maxRecDepth 100000
set_option linter.unusedSimpArgs false
set_option linter.unusedVariables false

def swapW (S : List (List UInt8)) : Int := word ((S.getD 0 []).getD 6 0) ((S.getD 0 []).getD 7 0)
/-- Is a drive a volume? -/
def VolP (S : List (List UInt8)) (B : List Int) : Prop := RightP S B ∧ 32 ≤ S.length ∧ (0 : Int) ∉ B ∧ swapW S ≤ S.length - 32 ∧ S.getD 0 [] = superS S.length (swapW S)
instance (S : List (List UInt8)) (B : List Int) : Decidable (VolP S B) := by unfold VolP; infer_instance

theorem getD_at {α : Type} {l : List α} {i : Nat} {d : α} (h : i < l.length) : l.getD i d = l[i]'h := by simp [h]

theorem s0_length {S : List (List UInt8)} {B : List Int} (h : RightP S B) : (S.getD 0 []).length = 128 := by
  have h1 : 0 < S.length := h.1
  have := h.2.2.1 S[0] (List.getElem_mem h1)
  simpa [h1] using this

theorem swapping_eq (S : List (List UInt8)) (B : List Int) (hB : B.length ≤ maxLen) : ∃ w, bodyW DC 20 [drv S B] [] = some (.tuple [.int .i64 w, .bool (decide (VolP S B))], []) ∧ (VolP S B → w = swapW S) := by
  have hV := Right_eq S B hB
  by_cases hr : RightP S B
  case neg =>
    have hk : ¬ VolP S B := fun h => hr h.1
    refine ⟨0, ?_, fun h => absurd h hk⟩
    (refine gives_iff ?_; refine go_func Tryd.f20 rfl rfl (by simp [Tryd.f20]) ?_; dsimp only [codeL, Tryd.f20, scL, sopsL, guardL, dstAt, loopKey])
    (repeat (first
    | (apply is_ok; (case hw => simp [hV, hr]); (case he => simp [hV, hr]; exact is_rfl))
    | (apply op_no; (case hw => simp [hV, hr]))
    | refine op_nil ?_ | refine next_normal ?_ | refine go_seq ?_ | refine go_region ?_ | refine go_skip ?_ | refine go_block ?_ | refine inb_normal ?_
    | (apply go_yes; (case hc => simp [hV, hr])) | (apply go_no; (case hc => simp [hV, hr]))
    | refine go_exit ?_ | refine next_exit ?_ | refine inb_here ?_ | refine inb_past (by decide) ?_ | refine go_ret ?_ | refine next_ret ?_ | refine inb_ret ?_))
    (apply ends_ok; (case h1 => simp; exact is_rfl); (case h2 => simp; exact is_rfl))
    simp [hk]
  have hR := Read_eq S B hB 0
  have h1 : 0 < S.length := hr.1
  have h2 : S.length ≤ 256 := hr.2.1
  by_cases h0 : (0 : Int) ∈ B
  case pos =>
    have hk : ¬ VolP S B := fun h => h.2.2.1 h0
    have hrd : readS S B 0 = ([], 21) := by unfold readS; rw [if_pos ⟨by omega, by omega⟩, if_pos h0]
    rw [hrd] at hR
    refine ⟨0, ?_, fun h => absurd h hk⟩
    (refine gives_iff ?_; refine go_func Tryd.f20 rfl rfl (by simp [Tryd.f20]) ?_; dsimp only [codeL, Tryd.f20, scL, sopsL, guardL, dstAt, loopKey])
    (repeat (first
    | (apply is_ok; (case hw => simp [hV, hr, hR]); (case he => simp [hV, hr, hR]; exact is_rfl))
    | (apply op_no; (case hw => simp [hV, hr, hR]))
    | refine op_nil ?_ | refine next_normal ?_ | refine go_seq ?_ | refine go_region ?_ | refine go_skip ?_ | refine go_block ?_ | refine inb_normal ?_
    | (apply go_yes; (case hc => simp [hV, hr, hR])) | (apply go_no; (case hc => simp [hV, hr, hR]))
    | refine go_exit ?_ | refine next_exit ?_ | refine inb_here ?_ | refine inb_past (by decide) ?_ | refine go_ret ?_ | refine next_ret ?_ | refine inb_ret ?_))
    (apply ends_ok; (case h1 => simp; exact is_rfl); (case h2 => simp; exact is_rfl))
    simp [hk]
  have hrd : readS S B 0 = (S.getD 0 [], 0) := by unfold readS; rw [if_pos ⟨by omega, by omega⟩, if_neg h0]; rfl
  rw [hrd] at hR
  have hl := s0_length hr
  have hG := Get_eq (S.getD 0 []) 6 (by omega) (by omega)
  have hw : word ((S.getD 0 [])[6]'(by omega)) ((S.getD 0 [])[6 + 1]'(by omega)) = swapW S := by
    unfold swapW
    rw [getD_at (l := S.getD 0 []) (i := 6) (by omega), getD_at (l := S.getD 0 []) (i := 7) (by omega)]
  rw [hw] at hG
  have hwr : 0 ≤ swapW S ∧ swapW S ≤ 65535 := by rw [← hw]; exact word_range _ _
  have hF := fits_eq S.length (swapW S) (by omega)
  have hS := super_eq S.length (swapW S) (by omega) (by omega)
  have hG' : bodyW DC 40 [.str (S.getD 0 []), .int .i64 6, .int .i64 2] [] = some (.tuple [.int .i64 (swapW S), .int .i64 8, .int .i64 0], []) := hG
  have hk : VolP S B ↔ (32 ≤ S.length ∧ swapW S ≤ S.length - 32) ∧ S.getD 0 [] = superS S.length (swapW S) := ⟨fun h => ⟨⟨h.2.1, h.2.2.2.1⟩, h.2.2.2.2⟩, fun h => ⟨hr, h.1.1, h0, h.1.2, h.2⟩⟩
  refine ⟨swapW S, ?_, fun _ => rfl⟩
  generalize swapW S = w at hG' hF hS hwr hk
  clear hG hw
  generalize S.getD 0 [] = s0 at hR hG' hk
  by_cases hf : 32 ≤ S.length ∧ w ≤ S.length - 32
  case neg =>
    have hf' : ¬ (32 ≤ (S.length : Int) ∧ (S.length : Int) ≤ 256 ∧ 0 ≤ w ∧ w ≤ (S.length : Int) - 32) := fun h => hf ⟨by omega, h.2.2.2⟩
    rw [decide_eq_false hf'] at hF
    have hk' : ¬ VolP S B := fun h => hf (hk.1 h).1
    (refine gives_iff ?_; refine go_func Tryd.f20 rfl rfl (by simp [Tryd.f20]) ?_; dsimp only [codeL, Tryd.f20, scL, sopsL, guardL, dstAt, loopKey])
    (repeat (first
    | (apply is_ok; (case hw => simp [hV, hr, hR, hG', hF]); (case he => simp [hV, hr, hR, hG', hF]; exact is_rfl))
    | (apply op_no; (case hw => simp [hV, hr, hR, hG', hF]))
    | refine op_nil ?_ | refine next_normal ?_ | refine go_seq ?_ | refine go_region ?_ | refine go_skip ?_ | refine go_block ?_ | refine inb_normal ?_
    | (apply go_yes; (case hc => simp [hV, hr, hR, hG', hF])) | (apply go_no; (case hc => simp [hV, hr, hR, hG', hF]))
    | refine go_exit ?_ | refine next_exit ?_ | refine inb_here ?_ | refine inb_past (by decide) ?_ | refine go_ret ?_ | refine next_ret ?_ | refine inb_ret ?_))
    (apply ends_ok; (case h1 => simp; exact is_rfl); (case h2 => simp; exact is_rfl))
    simp [hk']
  have hf' : (32 ≤ (S.length : Int) ∧ (S.length : Int) ≤ 256 ∧ 0 ≤ w ∧ w ≤ (S.length : Int) - 32) := ⟨by omega, by omega, hwr.1, hf.2⟩
  rw [decide_eq_true hf'] at hF
  by_cases hs : s0 = superS S.length w
  · have hk' : VolP S B := hk.2 ⟨hf, hs⟩
    subst hs
    (refine gives_iff ?_; refine go_func Tryd.f20 rfl rfl (by simp [Tryd.f20]) ?_; dsimp only [codeL, Tryd.f20, scL, sopsL, guardL, dstAt, loopKey])
    (repeat (first
    | (apply is_ok; (case hw => simp [hV, hr, hR, hG', hF, hS]); (case he => simp [hV, hr, hR, hG', hF, hS]; exact is_rfl))
    | (apply op_no; (case hw => simp [hV, hr, hR, hG', hF, hS]))
    | refine op_nil ?_ | refine next_normal ?_ | refine go_seq ?_ | refine go_region ?_ | refine go_skip ?_ | refine go_block ?_ | refine inb_normal ?_
    | (apply go_yes; (case hc => simp [hV, hr, hR, hG', hF, hS])) | (apply go_no; (case hc => simp [hV, hr, hR, hG', hF, hS]))
    | refine go_exit ?_ | refine next_exit ?_ | refine inb_here ?_ | refine inb_past (by decide) ?_ | refine go_ret ?_ | refine next_ret ?_ | refine inb_ret ?_))
    (apply ends_ok; (case h1 => simp; exact is_rfl); (case h2 => simp; exact is_rfl))
    simp [hk']
  · have hk' : ¬ VolP S B := fun h => hs (hk.1 h).2
    (refine gives_iff ?_; refine go_func Tryd.f20 rfl rfl (by simp [Tryd.f20]) ?_; dsimp only [codeL, Tryd.f20, scL, sopsL, guardL, dstAt, loopKey])
    (repeat (first
    | (apply is_ok; (case hw => simp [hV, hr, hR, hG', hF, hS, hs]); (case he => simp [hV, hr, hR, hG', hF, hS, hs]; exact is_rfl))
    | (apply op_no; (case hw => simp [hV, hr, hR, hG', hF, hS, hs]))
    | refine op_nil ?_ | refine next_normal ?_ | refine go_seq ?_ | refine go_region ?_ | refine go_skip ?_ | refine go_block ?_ | refine inb_normal ?_
    | (apply go_yes; (case hc => simp [hV, hr, hR, hG', hF, hS, hs])) | (apply go_no; (case hc => simp [hV, hr, hR, hG', hF, hS, hs]))
    | refine go_exit ?_ | refine next_exit ?_ | refine inb_here ?_ | refine inb_past (by decide) ?_ | refine go_ret ?_ | refine next_ret ?_ | refine inb_ret ?_))
    (apply ends_ok; (case h1 => simp; exact is_rfl); (case h2 => simp; exact is_rfl))
    simp [hk', hs]

/-- What Layout returns. -/
def layV (S : List (List UInt8)) (B : List Int) : V := if VolP S B then .tuple [.agg [.int .i64 27, .int .i64 (S.length - swapW S - 27)], .agg [.int .i64 (S.length - swapW S), .int .i64 (swapW S)], .int .i64 0]
  else .tuple [.agg [.int .i64 0, .int .i64 0], .agg [.int .i64 0, .int .i64 0], .int .i64 9]

theorem vol_bounds {S : List (List UInt8)} {B : List Int} (h : VolP S B) : 32 ≤ S.length ∧ S.length ≤ 256 ∧ 0 ≤ swapW S ∧ swapW S ≤ S.length - 32 := by
  refine ⟨h.2.1, h.1.2.1, ?_, h.2.2.2.1⟩
  unfold swapW
  exact (word_range _ _).1

theorem Layout_eq (S : List (List UInt8)) (B : List Int) (hB : B.length ≤ maxLen) : bodyW DC 18 [drv S B] [] = some (layV S B, []) := by
  obtain ⟨w, hW, hw⟩ := swapping_eq S B hB
  unfold layV
  by_cases hk : VolP S B
  · have hb := vol_bounds hk
    rw [hw hk] at hW
    have e1 : IntKind.i64.wrap ((S.length : Int) - swapW S) = S.length - swapW S := wrap_id (by omega) (by omega)
    have e2 : IntKind.i64.wrap ((S.length : Int) - swapW S - 27) = S.length - swapW S - 27 := wrap_id (by omega) (by omega)
    rw [if_pos hk]
    (refine gives_iff ?_; refine go_func Tryd.f18 rfl rfl (by simp [Tryd.f18]) ?_; dsimp only [codeL, Tryd.f18, scL, sopsL, guardL, dstAt, loopKey])
    (repeat (first
    | (apply is_ok; (case hw => simp [hW, hk, e1, e2]); (case he => simp [hW, hk, e1, e2]; exact is_rfl))
    | (apply op_no; (case hw => simp [hW, hk, e1, e2]))
    | refine op_nil ?_ | refine next_normal ?_ | refine go_seq ?_ | refine go_region ?_ | refine go_skip ?_ | refine go_block ?_ | refine inb_normal ?_
    | (apply go_yes; (case hc => simp [hW, hk, e1, e2])) | (apply go_no; (case hc => simp [hW, hk, e1, e2]))
    | refine go_exit ?_ | refine next_exit ?_ | refine inb_here ?_ | refine inb_past (by decide) ?_ | refine go_ret ?_ | refine next_ret ?_ | refine inb_ret ?_))
    (apply ends_ok; (case h1 => simp; exact is_rfl); (case h2 => simp; exact is_rfl))
    simp
  · rw [if_neg hk]
    (refine gives_iff ?_; refine go_func Tryd.f18 rfl rfl (by simp [Tryd.f18]) ?_; dsimp only [codeL, Tryd.f18, scL, sopsL, guardL, dstAt, loopKey])
    (repeat (first
    | (apply is_ok; (case hw => simp [hW, hk]); (case he => simp [hW, hk]; exact is_rfl))
    | (apply op_no; (case hw => simp [hW, hk]))
    | refine op_nil ?_ | refine next_normal ?_ | refine go_seq ?_ | refine go_region ?_ | refine go_skip ?_ | refine go_block ?_ | refine inb_normal ?_
    | (apply go_yes; (case hc => simp [hW, hk])) | (apply go_no; (case hc => simp [hW, hk]))
    | refine go_exit ?_ | refine next_exit ?_ | refine inb_here ?_ | refine inb_past (by decide) ?_ | refine go_ret ?_ | refine next_ret ?_ | refine inb_ret ?_))
    (apply ends_ok; (case h1 => simp; exact is_rfl); (case h2 => simp; exact is_rfl))
    simp

theorem LayoutR_eq (S : List (List UInt8)) (B : List Int) (hB : B.length ≤ maxLen) : bodyW DC 24 [drv S B] [] = some (layV S B, []) := by
  have hV := RightR_eq S B hB
  unfold layV
  by_cases hr : RightP S B
  case neg =>
    have hk : ¬ VolP S B := fun h => hr h.1
    rw [if_neg hk]
    (refine gives_iff ?_; refine go_func Tryd.f24 rfl rfl (by simp [Tryd.f24]) ?_; dsimp only [codeL, Tryd.f24, scL, sopsL, guardL, dstAt, loopKey])
    (repeat (first
    | (apply is_ok; (case hw => simp [hV, hr]); (case he => simp [hV, hr]; exact is_rfl))
    | (apply op_no; (case hw => simp [hV, hr]))
    | refine op_nil ?_ | refine next_normal ?_ | refine go_seq ?_ | refine go_region ?_ | refine go_skip ?_ | refine go_block ?_ | refine inb_normal ?_
    | (apply go_yes; (case hc => simp [hV, hr])) | (apply go_no; (case hc => simp [hV, hr]))
    | refine go_exit ?_ | refine next_exit ?_ | refine inb_here ?_ | refine inb_past (by decide) ?_ | refine go_ret ?_ | refine next_ret ?_ | refine inb_ret ?_))
    (apply ends_ok; (case h1 => simp; exact is_rfl); (case h2 => simp; exact is_rfl))
    simp
  have h2 : S.length ≤ 256 := hr.2.1
  have e2 : ¬ (256 : Int) < S.length := by omega
  by_cases h1 : 32 ≤ S.length
  case neg =>
    have hk : ¬ VolP S B := fun h => h1 h.2.1
    have e1 : (S.length : Int) < 32 := by omega
    rw [if_neg hk]
    (refine gives_iff ?_; refine go_func Tryd.f24 rfl rfl (by simp [Tryd.f24]) ?_; dsimp only [codeL, Tryd.f24, scL, sopsL, guardL, dstAt, loopKey])
    (repeat (first
    | (apply is_ok; (case hw => simp [hV, hr, e1]); (case he => simp [hV, hr, e1]; exact is_rfl))
    | (apply op_no; (case hw => simp [hV, hr, e1]))
    | refine op_nil ?_ | refine next_normal ?_ | refine go_seq ?_ | refine go_region ?_ | refine go_skip ?_ | refine go_block ?_ | refine inb_normal ?_
    | (apply go_yes; (case hc => simp [hV, hr, e1])) | (apply go_no; (case hc => simp [hV, hr, e1]))
    | refine go_exit ?_ | refine next_exit ?_ | refine inb_here ?_ | refine inb_past (by decide) ?_ | refine go_ret ?_ | refine next_ret ?_ | refine inb_ret ?_))
    (apply ends_ok; (case h1 => simp; exact is_rfl); (case h2 => simp; exact is_rfl))
    simp
  have e1 : ¬ (S.length : Int) < 32 := by omega
  have hI := bad_eq S B hB 0
  by_cases h0 : (0 : Int) ∈ B
  case pos =>
    have hk : ¬ VolP S B := fun h => h.2.2.1 h0
    rw [if_neg hk]
    (refine gives_iff ?_; refine go_func Tryd.f24 rfl rfl (by simp [Tryd.f24]) ?_; dsimp only [codeL, Tryd.f24, scL, sopsL, guardL, dstAt, loopKey])
    (repeat (first
    | (apply is_ok; (case hw => simp [hV, hr, e1, e2, hI, h0]); (case he => simp [hV, hr, e1, e2, hI, h0]; exact is_rfl))
    | (apply op_no; (case hw => simp [hV, hr, e1, e2, hI, h0]))
    | refine op_nil ?_ | refine next_normal ?_ | refine go_seq ?_ | refine go_region ?_ | refine go_skip ?_ | refine go_block ?_ | refine inb_normal ?_
    | (apply go_yes; (case hc => simp [hV, hr, e1, e2, hI, h0])) | (apply go_no; (case hc => simp [hV, hr, e1, e2, hI, h0]))
    | refine go_exit ?_ | refine next_exit ?_ | refine inb_here ?_ | refine inb_past (by decide) ?_ | refine go_ret ?_ | refine next_ret ?_ | refine inb_ret ?_))
    (apply ends_ok; (case h1 => simp; exact is_rfl); (case h2 => simp; exact is_rfl))
    simp
  have hl := s0_length hr
  have hG := GetR_eq (S.getD 0 []) 6 (by omega) (by omega)
  have hw : word ((S.getD 0 [])[6]'(by omega)) ((S.getD 0 [])[6 + 1]'(by omega)) = swapW S := by
    unfold swapW
    rw [getD_at (l := S.getD 0 []) (i := 6) (by omega), getD_at (l := S.getD 0 []) (i := 7) (by omega)]
  rw [hw] at hG
  have hwr : 0 ≤ swapW S ∧ swapW S ≤ 65535 := by rw [← hw]; exact word_range _ _
  have hS := head_eq S.length (swapW S) (by omega) (by omega)
  have hG' : bodyW DC 45 [.str (S.getD 0 []), .int .i64 6, .int .i64 2] [] = some (.tuple [.int .i64 (swapW S), .int .i64 8, .int .i64 0], []) := hG
  have hk : VolP S B ↔ swapW S ≤ S.length - 32 ∧ S.getD 0 [] = superS S.length (swapW S) := ⟨fun h => ⟨h.2.2.2.1, h.2.2.2.2⟩, fun h => ⟨hr, h1, h0, h.1, h.2⟩⟩
  have hg0 : S[0]? = some (S.getD 0 []) := by rw [List.getElem?_eq_getElem (by omega), getD_at (by omega)]
  have hpos : 0 < S.length := by omega
  have hg1 : S[0]'hpos = S.getD 0 [] := by rw [getD_at hpos]
  have e3 : IntKind.i64.wrap ((S.length : Int) - 32) = S.length - 32 := wrap_id (by omega) (by omega)
  clear hG hw
  generalize swapW S = w at hG' hS hwr hk
  generalize S.getD 0 [] = s0 at hG' hk hg0 hg1
  by_cases hf : w ≤ S.length - 32
  case neg =>
    have hk' : ¬ VolP S B := fun h => hf (hk.1 h).1
    have hf' : (S.length : Int) - 32 < w := by omega
    rw [if_neg hk']
    (refine gives_iff ?_; refine go_func Tryd.f24 rfl rfl (by simp [Tryd.f24]) ?_; dsimp only [codeL, Tryd.f24, scL, sopsL, guardL, dstAt, loopKey])
    (repeat (first
    | (apply is_ok; (case hw => simp [hV, hr, e1, e2, e3, hI, h0, hG', hg0, hg1, hpos, hf, hf']); (case he => simp [hV, hr, e1, e2, e3, hI, h0, hG', hg0, hg1, hpos, hf, hf']; exact is_rfl))
    | (apply op_no; (case hw => simp [hV, hr, e1, e2, e3, hI, h0, hG', hg0, hg1, hpos, hf, hf']))
    | refine op_nil ?_ | refine next_normal ?_ | refine go_seq ?_ | refine go_region ?_ | refine go_skip ?_ | refine go_block ?_ | refine inb_normal ?_
    | (apply go_yes; (case hc => simp [hV, hr, e1, e2, e3, hI, h0, hG', hg0, hg1, hpos, hf, hf'])) | (apply go_no; (case hc => simp [hV, hr, e1, e2, e3, hI, h0, hG', hg0, hg1, hpos, hf, hf']))
    | refine go_exit ?_ | refine next_exit ?_ | refine inb_here ?_ | refine inb_past (by decide) ?_ | refine go_ret ?_ | refine next_ret ?_ | refine inb_ret ?_))
    (apply ends_ok; (case h1 => simp; exact is_rfl); (case h2 => simp; exact is_rfl))
    simp
  have hf' : ¬ (S.length : Int) - 32 < w := by omega
  by_cases hs : s0 = superS S.length w
  · have hk' : VolP S B := hk.2 ⟨hf, hs⟩
    subst hs
    have e4 : IntKind.i64.wrap ((S.length : Int) - w) = S.length - w := wrap_id (by omega) (by omega)
    have e5 : IntKind.i64.wrap ((S.length : Int) - w - 27) = S.length - w - 27 := wrap_id (by omega) (by omega)
    rw [if_pos hk']
    (refine gives_iff ?_; refine go_func Tryd.f24 rfl rfl (by simp [Tryd.f24]) ?_; dsimp only [codeL, Tryd.f24, scL, sopsL, guardL, dstAt, loopKey])
    (repeat (first
    | (apply is_ok; (case hw => simp [hV, hr, e1, e2, e3, e4, e5, hI, h0, hG', hg0, hg1, hpos, hf, hf', hS]); (case he => simp [hV, hr, e1, e2, e3, e4, e5, hI, h0, hG', hg0, hg1, hpos, hf, hf', hS]; exact is_rfl))
    | (apply op_no; (case hw => simp [hV, hr, e1, e2, e3, e4, e5, hI, h0, hG', hg0, hg1, hpos, hf, hf', hS]))
    | refine op_nil ?_ | refine next_normal ?_ | refine go_seq ?_ | refine go_region ?_ | refine go_skip ?_ | refine go_block ?_ | refine inb_normal ?_
    | (apply go_yes; (case hc => simp [hV, hr, e1, e2, e3, e4, e5, hI, h0, hG', hg0, hg1, hpos, hf, hf', hS])) | (apply go_no; (case hc => simp [hV, hr, e1, e2, e3, e4, e5, hI, h0, hG', hg0, hg1, hpos, hf, hf', hS]))
    | refine go_exit ?_ | refine next_exit ?_ | refine inb_here ?_ | refine inb_past (by decide) ?_ | refine go_ret ?_ | refine next_ret ?_ | refine inb_ret ?_))
    (apply ends_ok; (case h1 => simp; exact is_rfl); (case h2 => simp; exact is_rfl))
    simp
  · have hk' : ¬ VolP S B := fun h => hs (hk.1 h).2
    rw [if_neg hk']
    (refine gives_iff ?_; refine go_func Tryd.f24 rfl rfl (by simp [Tryd.f24]) ?_; dsimp only [codeL, Tryd.f24, scL, sopsL, guardL, dstAt, loopKey])
    (repeat (first
    | (apply is_ok; (case hw => simp [hV, hr, e1, e2, e3, hI, h0, hG', hg0, hg1, hpos, hf, hf', hS, hs]); (case he => simp [hV, hr, e1, e2, e3, hI, h0, hG', hg0, hg1, hpos, hf, hf', hS, hs]; exact is_rfl))
    | (apply op_no; (case hw => simp [hV, hr, e1, e2, e3, hI, h0, hG', hg0, hg1, hpos, hf, hf', hS, hs]))
    | refine op_nil ?_ | refine next_normal ?_ | refine go_seq ?_ | refine go_region ?_ | refine go_skip ?_ | refine go_block ?_ | refine inb_normal ?_
    | (apply go_yes; (case hc => simp [hV, hr, e1, e2, e3, hI, h0, hG', hg0, hg1, hpos, hf, hf', hS, hs])) | (apply go_no; (case hc => simp [hV, hr, e1, e2, e3, hI, h0, hG', hg0, hg1, hpos, hf, hf', hS, hs]))
    | refine go_exit ?_ | refine next_exit ?_ | refine inb_here ?_ | refine inb_past (by decide) ?_ | refine go_ret ?_ | refine next_ret ?_ | refine inb_ret ?_))
    (apply ends_ok; (case h1 => simp; exact is_rfl); (case h2 => simp; exact is_rfl))
    simp
end Go.Abs
