/- Proved here: what functions of the program compute, over the evaluator. No condition but those that each theorem states. -/
import Derived.Test.YtpffmpllnpmkbaaDoorG2
namespace Go.Abs
open Go.Proofs
set_option maxRecDepth 100000
set_option linter.unusedSimpArgs false
set_option linter.unusedVariables false

def swapW (S : List (List UInt8)) : Int := word ((S.getD 0 []).getD 6 0) ((S.getD 0 []).getD 7 0)
/-- Is a drive a volume? -/
def VolP (S : List (List UInt8)) (B : List Int) : Prop := RightP S B ∧ 32 ≤ S.length ∧ (0 : Int) ∉ B ∧ swapW S ≤ S.length - 32 ∧ S.getD 0 [] = superS S.length (swapW S)
instance (S : List (List UInt8)) (B : List Int) : Decidable (VolP S B) := by unfold VolP; infer_instance

theorem getD_at {α : Type} {l : List α} {i : Nat} {d : α} (h : i < l.length) : l.getD i d = l[i]'h := by simp [h]

theorem s0_length {S : List (List UInt8)} {B : List Int} (h : RightP S B) : (S.getD 0 []).length = 128 := by
  have h1 : 0 < S.length := h.1
  have := h.2.2.1 S[0] (List.getElem_mem h1)
  simpa [h1] using this

theorem swapping_eq (S : List (List UInt8)) (B : List Int) (hB : B.length ≤ maxLen) : ∃ w, bodyW DC 20 [drv S B] [] = some (.tuple [.int .i64 w, .bool (decide (VolP S B))], []) ∧ (VolP S B → w = swapW S) := by
  have hV := Right_eq S B hB
  by_cases hr : RightP S B
  case neg =>
    have hk : ¬ VolP S B := fun h => hr h.1
    refine ⟨0, ?_, fun h => absurd h hk⟩
    (refine gives_iff ?_; refine go_func Tryd.f20 rfl rfl (by simp [Tryd.f20]) ?_; dsimp only [codeL, Tryd.f20, scL, sopsL, guardL, dstAt, loopKey])
    (repeat (first
    | (apply is_ok; (case hw => simp [hV, hr]); (case he => simp [hV, hr]; exact is_rfl))
    | (apply op_no; (case hw => simp [hV, hr]))
    | refine op_nil ?_ | refine next_normal ?_ | refine go_seq ?_ | refine go_region ?_ | refine go_skip ?_ | refine go_block ?_ | refine inb_normal ?_
    | (apply go_yes; (case hc => simp [hV, hr])) | (apply go_no; (case hc => simp [hV, hr]))
    | refine go_exit ?_ | refine next_exit ?_ | refine inb_here ?_ | refine inb_past (by decide) ?_ | refine go_ret ?_ | refine next_ret ?_ | refine inb_ret ?_))
    (apply ends_ok; (case h1 => simp; exact is_rfl); (case h2 => simp; exact is_rfl))
    simp [hk]
  have hR := Read_eq S B hB 0
  have h1 : 0 < S.length := hr.1
  have h2 : S.length ≤ 256 := hr.2.1
  by_cases h0 : (0 : Int) ∈ B
  case pos =>
    have hk : ¬ VolP S B := fun h => h.2.2.1 h0
    have hrd : readS S B 0 = ([], 21) := by unfold readS; rw [if_pos ⟨by omega, by omega⟩, if_pos h0]
    rw [hrd] at hR
    refine ⟨0, ?_, fun h => absurd h hk⟩
    (refine gives_iff ?_; refine go_func Tryd.f20 rfl rfl (by simp [Tryd.f20]) ?_; dsimp only [codeL, Tryd.f20, scL, sopsL, guardL, dstAt, loopKey])
    (repeat (first
    | (apply is_ok; (case hw => simp [hV, hr, hR]); (case he => simp [hV, hr, hR]; exact is_rfl))
    | (apply op_no; (case hw => simp [hV, hr, hR]))
    | refine op_nil ?_ | refine next_normal ?_ | refine go_seq ?_ | refine go_region ?_ | refine go_skip ?_ | refine go_block ?_ | refine inb_normal ?_
    | (apply go_yes; (case hc => simp [hV, hr, hR])) | (apply go_no; (case hc => simp [hV, hr, hR]))
    | refine go_exit ?_ | refine next_exit ?_ | refine inb_here ?_ | refine inb_past (by decide) ?_ | refine go_ret ?_ | refine next_ret ?_ | refine inb_ret ?_))
    (apply ends_ok; (case h1 => simp; exact is_rfl); (case h2 => simp; exact is_rfl))
    simp [hk]
  have hrd : readS S B 0 = (S.getD 0 [], 0) := by unfold readS; rw [if_pos ⟨by omega, by omega⟩, if_neg h0]; rfl
  rw [hrd] at hR
  have hl := s0_length hr
  have hG := Get_eq (S.getD 0 []) 6 (by omega) (by omega)
  have hw : word ((S.getD 0 [])[6]'(by omega)) ((S.getD 0 [])[6 + 1]'(by omega)) = swapW S := by
    unfold swapW
    rw [getD_at (l := S.getD 0 []) (i := 6) (by omega), getD_at (l := S.getD 0 []) (i := 7) (by omega)]
  rw [hw] at hG
  have hwr : 0 ≤ swapW S ∧ swapW S ≤ 65535 := by rw [← hw]; exact word_range _ _
  have hF := fits_eq S.length (swapW S) (by omega)
  have hS := super_eq S.length (swapW S) (by omega) (by omega)
  have hG' : bodyW DC 40 [.str (S.getD 0 []), .int .i64 6, .int .i64 2] [] = some (.tuple [.int .i64 (swapW S), .int .i64 8, .int .i64 0], []) := hG
  have hk : VolP S B ↔ (32 ≤ S.length ∧ swapW S ≤ S.length - 32) ∧ S.getD 0 [] = superS S.length (swapW S) := ⟨fun h => ⟨⟨h.2.1, h.2.2.2.1⟩, h.2.2.2.2⟩, fun h => ⟨hr, h.1.1, h0, h.1.2, h.2⟩⟩
  refine ⟨swapW S, ?_, fun _ => rfl⟩
  generalize swapW S = w at hG' hF hS hwr hk
  clear hG hw
  generalize S.getD 0 [] = s0 at hR hG' hk
  by_cases hf : 32 ≤ S.length ∧ w ≤ S.length - 32
  case neg =>
    have hf' : ¬ (32 ≤ (S.length : Int) ∧ (S.length : Int) ≤ 256 ∧ 0 ≤ w ∧ w ≤ (S.length : Int) - 32) := fun h => hf ⟨by omega, h.2.2.2⟩
    rw [decide_eq_false hf'] at hF
    have hk' : ¬ VolP S B := fun h => hf (hk.1 h).1
    (refine gives_iff ?_; refine go_func Tryd.f20 rfl rfl (by simp [Tryd.f20]) ?_; dsimp only [codeL, Tryd.f20, scL, sopsL, guardL, dstAt, loopKey])
    (repeat (first
    | (apply is_ok; (case hw => simp [hV, hr, hR, hG', hF]); (case he => simp [hV, hr, hR, hG', hF]; exact is_rfl))
    | (apply op_no; (case hw => simp [hV, hr, hR, hG', hF]))
    | refine op_nil ?_ | refine next_normal ?_ | refine go_seq ?_ | refine go_region ?_ | refine go_skip ?_ | refine go_block ?_ | refine inb_normal ?_
    | (apply go_yes; (case hc => simp [hV, hr, hR, hG', hF])) | (apply go_no; (case hc => simp [hV, hr, hR, hG', hF]))
    | refine go_exit ?_ | refine next_exit ?_ | refine inb_here ?_ | refine inb_past (by decide) ?_ | refine go_ret ?_ | refine next_ret ?_ | refine inb_ret ?_))
    (apply ends_ok; (case h1 => simp; exact is_rfl); (case h2 => simp; exact is_rfl))
    simp [hk']
  have hf' : (32 ≤ (S.length : Int) ∧ (S.length : Int) ≤ 256 ∧ 0 ≤ w ∧ w ≤ (S.length : Int) - 32) := ⟨by omega, by omega, hwr.1, hf.2⟩
  rw [decide_eq_true hf'] at hF
  by_cases hs : s0 = superS S.length w
  · have hk' : VolP S B := hk.2 ⟨hf, hs⟩
    subst hs
    (refine gives_iff ?_; refine go_func Tryd.f20 rfl rfl (by simp [Tryd.f20]) ?_; dsimp only [codeL, Tryd.f20, scL, sopsL, guardL, dstAt, loopKey])
    (repeat (first
    | (apply is_ok; (case hw => simp [hV, hr, hR, hG', hF, hS]); (case he => simp [hV, hr, hR, hG', hF, hS]; exact is_rfl))
    | (apply op_no; (case hw => simp [hV, hr, hR, hG', hF, hS]))
    | refine op_nil ?_ | refine next_normal ?_ | refine go_seq ?_ | refine go_region ?_ | refine go_skip ?_ | refine go_block ?_ | refine inb_normal ?_
    | (apply go_yes; (case hc => simp [hV, hr, hR, hG', hF, hS])) | (apply go_no; (case hc => simp [hV, hr, hR, hG', hF, hS]))
    | refine go_exit ?_ | refine next_exit ?_ | refine inb_here ?_ | refine inb_past (by decide) ?_ | refine go_ret ?_ | refine next_ret ?_ | refine inb_ret ?_))
    (apply ends_ok; (case h1 => simp; exact is_rfl); (case h2 => simp; exact is_rfl))
    simp [hk']
  · have hk' : ¬ VolP S B := fun h => hs (hk.1 h).2
    (refine gives_iff ?_; refine go_func Tryd.f20 rfl rfl (by simp [Tryd.f20]) ?_; dsimp only [codeL, Tryd.f20, scL, sopsL, guardL, dstAt, loopKey])
    (repeat (first
    | (apply is_ok; (case hw => simp [hV, hr, hR, hG', hF, hS, hs]); (case he => simp [hV, hr, hR, hG', hF, hS, hs]; exact is_rfl))
    | (apply op_no; (case hw => simp [hV, hr, hR, hG', hF, hS, hs]))
    | refine op_nil ?_ | refine next_normal ?_ | refine go_seq ?_ | refine go_region ?_ | refine go_skip ?_ | refine go_block ?_ | refine inb_normal ?_
    | (apply go_yes; (case hc => simp [hV, hr, hR, hG', hF, hS, hs])) | (apply go_no; (case hc => simp [hV, hr, hR, hG', hF, hS, hs]))
    | refine go_exit ?_ | refine next_exit ?_ | refine inb_here ?_ | refine inb_past (by decide) ?_ | refine go_ret ?_ | refine next_ret ?_ | refine inb_ret ?_))
    (apply ends_ok; (case h1 => simp; exact is_rfl); (case h2 => simp; exact is_rfl))
    simp [hk', hs]

/-- What Layout returns. -/
def layV (S : List (List UInt8)) (B : List Int) : V := if VolP S B then .tuple [.agg [.int .i64 27, .int .i64 (S.length - swapW S - 27)], .agg [.int .i64 (S.length - swapW S), .int .i64 (swapW S)], .int .i64 0]
  else .tuple [.agg [.int .i64 0, .int .i64 0], .agg [.int .i64 0, .int .i64 0], .int .i64 9]

theorem vol_bounds {S : List (List UInt8)} {B : List Int} (h : VolP S B) : 32 ≤ S.length ∧ S.length ≤ 256 ∧ 0 ≤ swapW S ∧ swapW S ≤ S.length - 32 := by
  refine ⟨h.2.1, h.1.2.1, ?_, h.2.2.2.1⟩
  unfold swapW
  exact (word_range _ _).1

theorem Layout_eq (S : List (List UInt8)) (B : List Int) (hB : B.length ≤ maxLen) : bodyW DC 18 [drv S B] [] = some (layV S B, []) := by
  obtain ⟨w, hW, hw⟩ := swapping_eq S B hB
  unfold layV
  by_cases hk : VolP S B
  · have hb := vol_bounds hk
    rw [hw hk] at hW
    have e1 : IntKind.i64.wrap ((S.length : Int) - swapW S) = S.length - swapW S := wrap_id (by omega) (by omega)
    have e2 : IntKind.i64.wrap ((S.length : Int) - swapW S - 27) = S.length - swapW S - 27 := wrap_id (by omega) (by omega)
    rw [if_pos hk]
    (refine gives_iff ?_; refine go_func Tryd.f18 rfl rfl (by simp [Tryd.f18]) ?_; dsimp only [codeL, Tryd.f18, scL, sopsL, guardL, dstAt, loopKey])
    (repeat (first
    | (apply is_ok; (case hw => simp [hW, hk, e1, e2]); (case he => simp [hW, hk, e1, e2]; exact is_rfl))
    | (apply op_no; (case hw => simp [hW, hk, e1, e2]))
    | refine op_nil ?_ | refine next_normal ?_ | refine go_seq ?_ | refine go_region ?_ | refine go_skip ?_ | refine go_block ?_ | refine inb_normal ?_
    | (apply go_yes; (case hc => simp [hW, hk, e1, e2])) | (apply go_no; (case hc => simp [hW, hk, e1, e2]))
    | refine go_exit ?_ | refine next_exit ?_ | refine inb_here ?_ | refine inb_past (by decide) ?_ | refine go_ret ?_ | refine next_ret ?_ | refine inb_ret ?_))
    (apply ends_ok; (case h1 => simp; exact is_rfl); (case h2 => simp; exact is_rfl))
    simp
  · rw [if_neg hk]
    (refine gives_iff ?_; refine go_func Tryd.f18 rfl rfl (by simp [Tryd.f18]) ?_; dsimp only [codeL, Tryd.f18, scL, sopsL, guardL, dstAt, loopKey])
    (repeat (first
    | (apply is_ok; (case hw => simp [hW, hk]); (case he => simp [hW, hk]; exact is_rfl))
    | (apply op_no; (case hw => simp [hW, hk]))
    | refine op_nil ?_ | refine next_normal ?_ | refine go_seq ?_ | refine go_region ?_ | refine go_skip ?_ | refine go_block ?_ | refine inb_normal ?_
    | (apply go_yes; (case hc => simp [hW, hk])) | (apply go_no; (case hc => simp [hW, hk]))
    | refine go_exit ?_ | refine next_exit ?_ | refine inb_here ?_ | refine inb_past (by decide) ?_ | refine go_ret ?_ | refine next_ret ?_ | refine inb_ret ?_))
    (apply ends_ok; (case h1 => simp; exact is_rfl); (case h2 => simp; exact is_rfl))
    simp

theorem LayoutR_eq (S : List (List UInt8)) (B : List Int) (hB : B.length ≤ maxLen) : bodyW DC 24 [drv S B] [] = some (layV S B, []) := by
  have hV := RightR_eq S B hB
  unfold layV
  by_cases hr : RightP S B
  case neg =>
    have hk : ¬ VolP S B := fun h => hr h.1
    rw [if_neg hk]
    (refine gives_iff ?_; refine go_func Tryd.f24 rfl rfl (by simp [Tryd.f24]) ?_; dsimp only [codeL, Tryd.f24, scL, sopsL, guardL, dstAt, loopKey])
    (repeat (first
    | (apply is_ok; (case hw => simp [hV, hr]); (case he => simp [hV, hr]; exact is_rfl))
    | (apply op_no; (case hw => simp [hV, hr]))
    | refine op_nil ?_ | refine next_normal ?_ | refine go_seq ?_ | refine go_region ?_ | refine go_skip ?_ | refine go_block ?_ | refine inb_normal ?_
    | (apply go_yes; (case hc => simp [hV, hr])) | (apply go_no; (case hc => simp [hV, hr]))
    | refine go_exit ?_ | refine next_exit ?_ | refine inb_here ?_ | refine inb_past (by decide) ?_ | refine go_ret ?_ | refine next_ret ?_ | refine inb_ret ?_))
    (apply ends_ok; (case h1 => simp; exact is_rfl); (case h2 => simp; exact is_rfl))
    simp
  have h2 : S.length ≤ 256 := hr.2.1
  have e2 : ¬ (256 : Int) < S.length := by omega
  by_cases h1 : 32 ≤ S.length
  case neg =>
    have hk : ¬ VolP S B := fun h => h1 h.2.1
    have e1 : (S.length : Int) < 32 := by omega
    rw [if_neg hk]
    (refine gives_iff ?_; refine go_func Tryd.f24 rfl rfl (by simp [Tryd.f24]) ?_; dsimp only [codeL, Tryd.f24, scL, sopsL, guardL, dstAt, loopKey])
    (repeat (first
    | (apply is_ok; (case hw => simp [hV, hr, e1]); (case he => simp [hV, hr, e1]; exact is_rfl))
    | (apply op_no; (case hw => simp [hV, hr, e1]))
    | refine op_nil ?_ | refine next_normal ?_ | refine go_seq ?_ | refine go_region ?_ | refine go_skip ?_ | refine go_block ?_ | refine inb_normal ?_
    | (apply go_yes; (case hc => simp [hV, hr, e1])) | (apply go_no; (case hc => simp [hV, hr, e1]))
    | refine go_exit ?_ | refine next_exit ?_ | refine inb_here ?_ | refine inb_past (by decide) ?_ | refine go_ret ?_ | refine next_ret ?_ | refine inb_ret ?_))
    (apply ends_ok; (case h1 => simp; exact is_rfl); (case h2 => simp; exact is_rfl))
    simp
  have e1 : ¬ (S.length : Int) < 32 := by omega
  have hI := bad_eq S B hB 0
  by_cases h0 : (0 : Int) ∈ B
  case pos =>
    have hk : ¬ VolP S B := fun h => h.2.2.1 h0
    rw [if_neg hk]
    (refine gives_iff ?_; refine go_func Tryd.f24 rfl rfl (by simp [Tryd.f24]) ?_; dsimp only [codeL, Tryd.f24, scL, sopsL, guardL, dstAt, loopKey])
    (repeat (first
    | (apply is_ok; (case hw => simp [hV, hr, e1, e2, hI, h0]); (case he => simp [hV, hr, e1, e2, hI, h0]; exact is_rfl))
    | (apply op_no; (case hw => simp [hV, hr, e1, e2, hI, h0]))
    | refine op_nil ?_ | refine next_normal ?_ | refine go_seq ?_ | refine go_region ?_ | refine go_skip ?_ | refine go_block ?_ | refine inb_normal ?_
    | (apply go_yes; (case hc => simp [hV, hr, e1, e2, hI, h0])) | (apply go_no; (case hc => simp [hV, hr, e1, e2, hI, h0]))
    | refine go_exit ?_ | refine next_exit ?_ | refine inb_here ?_ | refine inb_past (by decide) ?_ | refine go_ret ?_ | refine next_ret ?_ | refine inb_ret ?_))
    (apply ends_ok; (case h1 => simp; exact is_rfl); (case h2 => simp; exact is_rfl))
    simp
  have hl := s0_length hr
  have hG := GetR_eq (S.getD 0 []) 6 (by omega) (by omega)
  have hw : word ((S.getD 0 [])[6]'(by omega)) ((S.getD 0 [])[6 + 1]'(by omega)) = swapW S := by
    unfold swapW
    rw [getD_at (l := S.getD 0 []) (i := 6) (by omega), getD_at (l := S.getD 0 []) (i := 7) (by omega)]
  rw [hw] at hG
  have hwr : 0 ≤ swapW S ∧ swapW S ≤ 65535 := by rw [← hw]; exact word_range _ _
  have hS := head_eq S.length (swapW S) (by omega) (by omega)
  have hG' : bodyW DC 45 [.str (S.getD 0 []), .int .i64 6, .int .i64 2] [] = some (.tuple [.int .i64 (swapW S), .int .i64 8, .int .i64 0], []) := hG
  have hk : VolP S B ↔ swapW S ≤ S.length - 32 ∧ S.getD 0 [] = superS S.length (swapW S) := ⟨fun h => ⟨h.2.2.2.1, h.2.2.2.2⟩, fun h => ⟨hr, h1, h0, h.1, h.2⟩⟩
  have hg0 : S[0]? = some (S.getD 0 []) := by rw [List.getElem?_eq_getElem (by omega), getD_at (by omega)]
  have hpos : 0 < S.length := by omega
  have hg1 : S[0]'hpos = S.getD 0 [] := by rw [getD_at hpos]
  have e3 : IntKind.i64.wrap ((S.length : Int) - 32) = S.length - 32 := wrap_id (by omega) (by omega)
  clear hG hw
  generalize swapW S = w at hG' hS hwr hk
  generalize S.getD 0 [] = s0 at hG' hk hg0 hg1
  by_cases hf : w ≤ S.length - 32
  case neg =>
    have hk' : ¬ VolP S B := fun h => hf (hk.1 h).1
    have hf' : (S.length : Int) - 32 < w := by omega
    rw [if_neg hk']
    (refine gives_iff ?_; refine go_func Tryd.f24 rfl rfl (by simp [Tryd.f24]) ?_; dsimp only [codeL, Tryd.f24, scL, sopsL, guardL, dstAt, loopKey])
    (repeat (first
    | (apply is_ok; (case hw => simp [hV, hr, e1, e2, e3, hI, h0, hG', hg0, hg1, hpos, hf, hf']); (case he => simp [hV, hr, e1, e2, e3, hI, h0, hG', hg0, hg1, hpos, hf, hf']; exact is_rfl))
    | (apply op_no; (case hw => simp [hV, hr, e1, e2, e3, hI, h0, hG', hg0, hg1, hpos, hf, hf']))
    | refine op_nil ?_ | refine next_normal ?_ | refine go_seq ?_ | refine go_region ?_ | refine go_skip ?_ | refine go_block ?_ | refine inb_normal ?_
    | (apply go_yes; (case hc => simp [hV, hr, e1, e2, e3, hI, h0, hG', hg0, hg1, hpos, hf, hf'])) | (apply go_no; (case hc => simp [hV, hr, e1, e2, e3, hI, h0, hG', hg0, hg1, hpos, hf, hf']))
    | refine go_exit ?_ | refine next_exit ?_ | refine inb_here ?_ | refine inb_past (by decide) ?_ | refine go_ret ?_ | refine next_ret ?_ | refine inb_ret ?_))
    (apply ends_ok; (case h1 => simp; exact is_rfl); (case h2 => simp; exact is_rfl))
    simp
  have hf' : ¬ (S.length : Int) - 32 < w := by omega
  by_cases hs : s0 = superS S.length w
  · have hk' : VolP S B := hk.2 ⟨hf, hs⟩
    subst hs
    have e4 : IntKind.i64.wrap ((S.length : Int) - w) = S.length - w := wrap_id (by omega) (by omega)
    have e5 : IntKind.i64.wrap ((S.length : Int) - w - 27) = S.length - w - 27 := wrap_id (by omega) (by omega)
    rw [if_pos hk']
    (refine gives_iff ?_; refine go_func Tryd.f24 rfl rfl (by simp [Tryd.f24]) ?_; dsimp only [codeL, Tryd.f24, scL, sopsL, guardL, dstAt, loopKey])
    (repeat (first
    | (apply is_ok; (case hw => simp [hV, hr, e1, e2, e3, e4, e5, hI, h0, hG', hg0, hg1, hpos, hf, hf', hS]); (case he => simp [hV, hr, e1, e2, e3, e4, e5, hI, h0, hG', hg0, hg1, hpos, hf, hf', hS]; exact is_rfl))
    | (apply op_no; (case hw => simp [hV, hr, e1, e2, e3, e4, e5, hI, h0, hG', hg0, hg1, hpos, hf, hf', hS]))
    | refine op_nil ?_ | refine next_normal ?_ | refine go_seq ?_ | refine go_region ?_ | refine go_skip ?_ | refine go_block ?_ | refine inb_normal ?_
    | (apply go_yes; (case hc => simp [hV, hr, e1, e2, e3, e4, e5, hI, h0, hG', hg0, hg1, hpos, hf, hf', hS])) | (apply go_no; (case hc => simp [hV, hr, e1, e2, e3, e4, e5, hI, h0, hG', hg0, hg1, hpos, hf, hf', hS]))
    | refine go_exit ?_ | refine next_exit ?_ | refine inb_here ?_ | refine inb_past (by decide) ?_ | refine go_ret ?_ | refine next_ret ?_ | refine inb_ret ?_))
    (apply ends_ok; (case h1 => simp; exact is_rfl); (case h2 => simp; exact is_rfl))
    simp
  · have hk' : ¬ VolP S B := fun h => hs (hk.1 h).2
    rw [if_neg hk']
    (refine gives_iff ?_; refine go_func Tryd.f24 rfl rfl (by simp [Tryd.f24]) ?_; dsimp only [codeL, Tryd.f24, scL, sopsL, guardL, dstAt, loopKey])
    (repeat (first
    | (apply is_ok; (case hw => simp [hV, hr, e1, e2, e3, hI, h0, hG', hg0, hg1, hpos, hf, hf', hS, hs]); (case he => simp [hV, hr, e1, e2, e3, hI, h0, hG', hg0, hg1, hpos, hf, hf', hS, hs]; exact is_rfl))
    | (apply op_no; (case hw => simp [hV, hr, e1, e2, e3, hI, h0, hG', hg0, hg1, hpos, hf, hf', hS, hs]))
    | refine op_nil ?_ | refine next_normal ?_ | refine go_seq ?_ | refine go_region ?_ | refine go_skip ?_ | refine go_block ?_ | refine inb_normal ?_
    | (apply go_yes; (case hc => simp [hV, hr, e1, e2, e3, hI, h0, hG', hg0, hg1, hpos, hf, hf', hS, hs])) | (apply go_no; (case hc => simp [hV, hr, e1, e2, e3, hI, h0, hG', hg0, hg1, hpos, hf, hf', hS, hs]))
    | refine go_exit ?_ | refine next_exit ?_ | refine inb_here ?_ | refine inb_past (by decide) ?_ | refine go_ret ?_ | refine next_ret ?_ | refine inb_ret ?_))
    (apply ends_ok; (case h1 => simp; exact is_rfl); (case h2 => simp; exact is_rfl))
    simp
end Go.Abs

namespace Go.Abs
open Go.Proofs
set_option maxRecDepth 100000
set_option linter.unusedSimpArgs false
set_option linter.unusedVariables false

/-- The sector of an inode. -/
def secS (S : List (List UInt8)) (B : List Int) (n : Int) : List UInt8 × Int := if VolP S B then if 1 ≤ n ∧ n < 32 then readS S B (19 + n / 4) else ([], 2) else ([], 9)

theorem layV_no {S : List (List UInt8)} {B : List Int} (h : ¬ VolP S B) : layV S B = .tuple [.agg [.int .i64 0, .int .i64 0], .agg [.int .i64 0, .int .i64 0], .int .i64 9] := by unfold layV; rw [if_neg h]
theorem layV_yes {S : List (List UInt8)} {B : List Int} (h : VolP S B) : layV S B = .tuple [.agg [.int .i64 27, .int .i64 (S.length - swapW S - 27)], .agg [.int .i64 (S.length - swapW S), .int .i64 (swapW S)], .int .i64 0] := by unfold layV; rw [if_pos h]

theorem sec_ok {S : List (List UInt8)} {B : List Int} {n : Int} (h : (secS S B n).2 = 0) : VolP S B ∧ 1 ≤ n ∧ n < 32 ∧ (secS S B n).1.length = 128 := by
  unfold secS at h ⊢
  by_cases hv : VolP S B
  · rw [if_pos hv] at h ⊢
    by_cases h1 : 1 ≤ n ∧ n < 32
    · rw [if_pos h1] at h ⊢
      have hb := vol_bounds hv
      unfold readS at h ⊢
      rw [if_pos (by omega)] at h ⊢
      by_cases hi : 19 + n / 4 ∈ B
      · rw [if_pos hi] at h; exact absurd h (by simp)
      · rw [if_neg hi]
        have hlt : (19 + n / 4).toNat < S.length := by omega
        exact ⟨hv, h1.1, h1.2, by rw [getD_at hlt]; exact hv.1.2.2.1 _ (List.getElem_mem hlt)⟩
    · rw [if_neg h1] at h; exact absurd h (by simp)
  · rw [if_neg hv] at h; exact absurd h (by simp)

/-- The text of an inode. -/
def inoS (S : List (List UInt8)) (B : List Int) (n : Int) : List UInt8 := ((secS S B n).1.drop (n.toNat % 4 * 32)).take 32
def getV (S : List (List UInt8)) (B : List Int) (n : Int) : V := if (secS S B n).2 = 0 then parseV (inoS S B n) else ino0
def getE (S : List (List UInt8)) (B : List Int) (n : Int) : Int := if (secS S B n).2 = 0 then parseE (inoS S B n) else (secS S B n).2

end Go.Abs

namespace Go.Abs
open Go.Proofs
set_option maxRecDepth 100000
set_option linter.unusedSimpArgs false

theorem putS_length {S : List (List UInt8)} {w : Int × List UInt8} : (putS S w).length = S.length := by simp [putS]

theorem ApplyR_eq (S : List (List UInt8)) (B : List Int) (hS : S.length ≤ 1000000) (hB : B.length ≤ 1000000) (l : List (Int × List UInt8)) (hl : l.length ≤ 1000000) (fuse : Int) :
    bodyW DC 14 [drv S B, .sl (l.map wrV), .int .i64 fuse] [] =
      if (applyS B fuse S 0 l).2.1 = 0 then some (.tuple [drv (applyS B fuse S 0 l).1 B, .int .i64 (applyS B fuse S 0 l).2.1, .int .i64 (applyS B fuse S 0 l).2.2], [])
      else some (.tuple [.agg [.own 0 S.length 0 S.length, .sl (ints B)], .int .i64 (applyS B fuse S 0 l).2.1, .int .i64 (applyS B fuse S 0 l).2.2], [.dat true 1 (strs (applyS B fuse S 0 l).1)]) := by
  have hBm : B.length ≤ maxLen := by unfold maxLen; omega
  generalize hR : applyS B fuse S 0 l = R
  suffices h : ∃ r, bodyW DC 14 [drv S B, .sl (l.map wrV), .int .i64 fuse] [] = some r ∧ some r = (if R.2.1 = 0 then some (.tuple [drv R.1 B, .int .i64 R.2.1, .int .i64 R.2.2], [])
      else some (.tuple [.agg [.own 0 S.length 0 S.length, .sl (ints B)], .int .i64 R.2.1, .int .i64 R.2.2], [.dat true 1 (strs R.1)])) by
    obtain ⟨r, h1, h2⟩ := h
    rw [h1, h2]
  generalize hr : (if R.2.1 = 0 then some (V.tuple [drv R.1 B, .int .i64 R.2.1, .int .i64 R.2.2], ([] : Heap))
      else some (.tuple [.agg [.own 0 S.length 0 S.length, .sl (ints B)], .int .i64 R.2.1, .int .i64 R.2.2], [.dat true 1 (strs R.1)])) = rr
  obtain ⟨r0, rfl⟩ : ∃ r0, rr = some r0 := by
    split at hr <;> exact ⟨_, hr.symm⟩
  obtain ⟨r1, r2⟩ := r0
  refine ⟨(r1, r2), ?_, rfl⟩
  (refine gives_iff ?_; refine go_func Tryd.f14 rfl rfl (by simp [Tryd.f14]) ?_; dsimp only [codeL, Tryd.f14, scL, sopsL, guardL, dstAt, loopKey])
  (repeat (first
    | (apply is_ok; (case hw => simp); (case he => simp; exact is_rfl))
    | (apply op_no; (case hw => simp))
    | refine op_nil ?_ | refine next_normal ?_ | refine go_seq ?_ | refine go_region ?_ | refine go_skip ?_ | refine go_block ?_ | refine inb_normal ?_
    | (apply go_yes; (case hc => simp)) | (apply go_no; (case hc => simp))
    | refine go_exit ?_ | refine next_exit ?_ | refine inb_here ?_ | refine inb_past (by decide) ?_ | refine go_ret ?_ | refine next_ret ?_ | refine inb_ret ?_))
  refine go_while (σ := Nat × List (List UInt8)) (fun s => match s.1 with
      | 0 => [(1, .sl (l.map wrV)), (2, .int .i64 fuse), (3, .ptr 0 1 0 0), (6, .ptr 1 1 0 0), (9, .int .i64 0)]
      | i + 1 => [(1, .sl (l.map wrV)), (2, .int .i64 fuse), (3, .ptr 0 1 0 0), (6, .ptr 2 1 0 0), (9, .int .i64 ((i + 1 : Nat) : Int))])
    (fun s => match s.1 with
      | 0 => [.box (drv S B), .box (.agg [.own 2 0 0 0, .own 3 0 0 0]), .dat true 1 [], .dat true 1 []]
      | _ + 1 => [.box (.agg [.own 1 S.length 0 S.length, .sl (ints B)]), .dat true 1 (strs s.2), .box (.agg [.own 3 0 0 0, .own 4 0 0 0]), .dat true 1 [], .dat true 1 []])
    (fun s => s.1 ≤ l.length ∧ s.2.length = S.length ∧ (s.1 = 0 → s.2 = S) ∧ applyS B fuse s.2 s.1 (l.drop s.1) = R) (fun s => l.length - s.1) (0, S) (by simp) (by simpa using hR) fun ⟨i, T⟩ ⟨hi, hT, h0, hA⟩ => ?_
  simp only at hi hT h0 hA ⊢
  have hw : IntKind.i64.wrap ((i : Int) + 1) = (i : Int) + 1 := wrap_id (by omega) (by omega)
  cases hE : B.isEmpty
  all_goals
    rcases i with _ | i
    · have := h0 rfl
      subst this
      by_cases hlt : 0 < l.length
      · rw [List.drop_eq_getElem_cons hlt, applyS] at hA
        by_cases hf : (0 : Int) = fuse
        · subst hf
          rw [if_pos (show ((0 : Nat) : Int) = 0 from rfl)] at hA
          (repeat (first
    | (apply is_ok; (case hw => simp [hlt]); (case he => simp [hlt]; exact is_rfl))
    | (apply op_no; (case hw => simp [hlt]))
    | refine op_nil ?_ | refine next_normal ?_ | refine go_seq ?_ | refine go_region ?_ | refine go_skip ?_ | refine go_block ?_ | refine inb_normal ?_
    | (apply go_yes; (case hc => simp [hlt])) | (apply go_no; (case hc => simp [hlt]))
    | refine go_exit ?_ | refine next_exit ?_ | refine inb_here ?_ | refine inb_past (by decide) ?_ | refine go_ret ?_ | refine next_ret ?_ | refine inb_ret ?_))
          (apply ends_ok; (case h1 => simp; exact is_rfl); (case h2 => simp; exact is_rfl))
          subst hA
          simpa using hr
        · rw [if_neg (show ¬ ((0 : Nat) : Int) = fuse from hf)] at hA
          by_cases hz : faultI T.length B l[0] = 0
          · rw [if_pos hz] at hA
            have hW := WriteR_ok T B hS hBm l[0] hz
            (repeat (first
    | (apply is_ok; (case hw => simp [hlt, hf, hW, hE]); (case he => simp [hlt, hf, hW, hE]; exact is_rfl))
    | (apply op_no; (case hw => simp [hlt, hf, hW, hE]))
    | refine op_nil ?_ | refine next_normal ?_ | refine go_seq ?_ | refine go_region ?_ | refine go_skip ?_ | refine go_block ?_ | refine inb_normal ?_
    | (apply go_yes; (case hc => simp [hlt, hf, hW, hE])) | (apply go_no; (case hc => simp [hlt, hf, hW, hE]))
    | refine go_exit ?_ | refine next_exit ?_ | refine inb_here ?_ | refine inb_past (by decide) ?_ | refine go_ret ?_ | refine next_ret ?_ | refine inb_ret ?_))
            exact ⟨(1, putS T l[0]), by simp [putS, hE, show IntKind.i64.wrap 1 = 1 from rfl], by show l.length - 1 < l.length - 0; omega, by show 1 ≤ l.length; omega, putS_length, by simp, hA⟩
          · rw [if_neg hz] at hA
            have hW := WriteR_no T B hBm l[0] hz
            (repeat (first
    | (apply is_ok; (case hw => simp [hlt, hf, hW, hz, hE]); (case he => simp [hlt, hf, hW, hz, hE]; exact is_rfl))
    | (apply op_no; (case hw => simp [hlt, hf, hW, hz, hE]))
    | refine op_nil ?_ | refine next_normal ?_ | refine go_seq ?_ | refine go_region ?_ | refine go_skip ?_ | refine go_block ?_ | refine inb_normal ?_
    | (apply go_yes; (case hc => simp [hlt, hf, hW, hz, hE])) | (apply go_no; (case hc => simp [hlt, hf, hW, hz, hE]))
    | refine go_exit ?_ | refine next_exit ?_ | refine inb_here ?_ | refine inb_past (by decide) ?_ | refine go_ret ?_ | refine next_ret ?_ | refine inb_ret ?_))
            (apply ends_ok; (case h1 => simp; exact is_rfl); (case h2 => simp; exact is_rfl))
            subst hA
            simpa using hr
      · (repeat (first
    | (apply is_ok; (case hw => simp [hlt]); (case he => simp [hlt]; exact is_rfl))
    | (apply op_no; (case hw => simp [hlt]))
    | refine op_nil ?_ | refine next_normal ?_ | refine go_seq ?_ | refine go_region ?_ | refine go_skip ?_ | refine go_block ?_ | refine inb_normal ?_
    | (apply go_yes; (case hc => simp [hlt])) | (apply go_no; (case hc => simp [hlt]))
    | refine go_exit ?_ | refine next_exit ?_ | refine inb_here ?_ | refine inb_past (by decide) ?_ | refine go_ret ?_ | refine next_ret ?_ | refine inb_ret ?_))
        (apply ends_ok; (case h1 => simp; exact is_rfl); (case h2 => simp; exact is_rfl))
        have hl0 : l = [] := List.eq_nil_of_length_eq_zero (by omega)
        subst hl0
        simp only [List.drop_nil, applyS] at hA
        subst hA
        simpa using hr
    · clear h0
      dsimp only
      have hk0 : i + 1 ≠ 0 := by omega
      generalize hk : i + 1 = k at *
      by_cases hlt : k < l.length
      · rw [List.drop_eq_getElem_cons hlt, applyS] at hA
        by_cases hf : (k : Int) = fuse
        · subst hf
          rw [if_pos rfl] at hA
          (repeat (first
    | (apply is_ok; (case hw => simp [hlt]); (case he => simp [hlt]; exact is_rfl))
    | (apply op_no; (case hw => simp [hlt]))
    | refine op_nil ?_ | refine next_normal ?_ | refine go_seq ?_ | refine go_region ?_ | refine go_skip ?_ | refine go_block ?_ | refine inb_normal ?_
    | (apply go_yes; (case hc => simp [hlt])) | (apply go_no; (case hc => simp [hlt]))
    | refine go_exit ?_ | refine next_exit ?_ | refine inb_here ?_ | refine inb_past (by decide) ?_ | refine go_ret ?_ | refine next_ret ?_ | refine inb_ret ?_))
          (apply ends_ok; (case h1 => simp; exact is_rfl); (case h2 => simp; exact is_rfl))
          subst hA
          simpa [hk0] using hr
        · rw [if_neg hf] at hA
          by_cases hz : faultI T.length B l[k] = 0
          · rw [if_pos hz] at hA
            have hW := WriteR_ok T B (by omega) hBm l[k] hz
            rw [hT] at hW
            (repeat (first
    | (apply is_ok; (case hw => simp [hlt, hf, hW, hE, hT]); (case he => simp [hlt, hf, hW, hE, hT]; exact is_rfl))
    | (apply op_no; (case hw => simp [hlt, hf, hW, hE, hT]))
    | refine op_nil ?_ | refine next_normal ?_ | refine go_seq ?_ | refine go_region ?_ | refine go_skip ?_ | refine go_block ?_ | refine inb_normal ?_
    | (apply go_yes; (case hc => simp [hlt, hf, hW, hE, hT])) | (apply go_no; (case hc => simp [hlt, hf, hW, hE, hT]))
    | refine go_exit ?_ | refine next_exit ?_ | refine inb_here ?_ | refine inb_past (by decide) ?_ | refine go_ret ?_ | refine next_ret ?_ | refine inb_ret ?_))
            exact ⟨(k + 1, putS T l[k]), by simp [putS, hE, hT, hw], by show l.length - (k + 1) < l.length - k; omega, by show k + 1 ≤ l.length; omega, putS_length.trans hT, by simp, hA⟩
          · rw [if_neg hz] at hA
            have hW := WriteR_no T B hBm l[k] hz
            rw [hT] at hW hz hA
            (repeat (first
    | (apply is_ok; (case hw => simp [hlt, hf, hW, hz, hE, hT]); (case he => simp [hlt, hf, hW, hz, hE, hT]; exact is_rfl))
    | (apply op_no; (case hw => simp [hlt, hf, hW, hz, hE, hT]))
    | refine op_nil ?_ | refine next_normal ?_ | refine go_seq ?_ | refine go_region ?_ | refine go_skip ?_ | refine go_block ?_ | refine inb_normal ?_
    | (apply go_yes; (case hc => simp [hlt, hf, hW, hz, hE, hT])) | (apply go_no; (case hc => simp [hlt, hf, hW, hz, hE, hT]))
    | refine go_exit ?_ | refine next_exit ?_ | refine inb_here ?_ | refine inb_past (by decide) ?_ | refine go_ret ?_ | refine next_ret ?_ | refine inb_ret ?_))
            (apply ends_ok; (case h1 => simp; exact is_rfl); (case h2 => simp; exact is_rfl))
            subst hA
            simpa [hk0] using hr
      · (repeat (first
    | (apply is_ok; (case hw => simp [hlt]); (case he => simp [hlt]; exact is_rfl))
    | (apply op_no; (case hw => simp [hlt]))
    | refine op_nil ?_ | refine next_normal ?_ | refine go_seq ?_ | refine go_region ?_ | refine go_skip ?_ | refine go_block ?_ | refine inb_normal ?_
    | (apply go_yes; (case hc => simp [hlt])) | (apply go_no; (case hc => simp [hlt]))
    | refine go_exit ?_ | refine next_exit ?_ | refine inb_here ?_ | refine inb_past (by decide) ?_ | refine go_ret ?_ | refine next_ret ?_ | refine inb_ret ?_))
        (apply ends_ok; (case h1 => simp; exact is_rfl); (case h2 => simp; exact is_rfl))
        have hl0 : l.drop k = [] := List.drop_eq_nil_of_le (by omega)
        rw [hl0, applyS] at hA
        subst hA
        have : k = l.length := by omega
        have hl1 : l ≠ [] := fun h => by rw [h] at this; exact hk0 this
        simpa [this, hl1] using hr

end Go.Abs

namespace Go.Abs
open Go.Proofs
set_option maxRecDepth 100000
set_option linter.unusedSimpArgs false

/-- The places up to n at which two lists differ. -/
def diffL (S T : List (List UInt8)) (n : Nat) : List Int := ((List.range n).filter fun i => !(S[i]? == T[i]?)).map Int.ofNat
theorem diffL_succ (S T : List (List UInt8)) (n : Nat) : diffL S T (n + 1) = if S[n]? = T[n]? then diffL S T n else diffL S T n ++ [(n : Int)] := by
  unfold diffL
  rw [List.range_succ, List.filter_append, List.map_append]
  by_cases h : S[n]? = T[n]? <;> simp [h]
theorem diffL_length (S T : List (List UInt8)) (n : Nat) : (diffL S T n).length ≤ n := by
  unfold diffL
  rw [List.length_map]
  exact Nat.le_trans (List.length_filter_le _ _) (by simp)
abbrev diffA (S T : List (List UInt8)) : List Int := diffL S T (max S.length T.length)
theorem diffL_nil {S T : List (List UInt8)} {n : Nat} : diffL S T n = [] ↔ ∀ i, i < n → S[i]? = T[i]? := by
  unfold diffL
  rw [List.map_eq_nil_iff, List.filter_eq_nil_iff]
  simp
theorem diffA_nil {S T : List (List UInt8)} : diffA S T = [] ↔ S = T := by
  rw [diffL_nil]
  constructor
  · intro h
    apply List.ext_getElem?
    intro i
    by_cases hi : i < max S.length T.length
    · exact h i hi
    · rw [List.getElem?_eq_none (by omega), List.getElem?_eq_none (by omega)]
  · rintro rfl _ _; rfl

end Go.Abs

namespace Go.Abs
open Go.Proofs
set_option maxRecDepth 100000
set_option linter.unusedSimpArgs false

def SmallP (l : List (Int × List UInt8)) : Prop := l.length ≤ 60 ∧ ∀ w ∈ l, w.2.length ≤ 200
instance (l : List (Int × List UInt8)) : Decidable (SmallP l) := by unfold SmallP; infer_instance

theorem applyS_length (B : List Int) (fuse : Int) : ∀ (l : List (Int × List UInt8)) (S : List (List UInt8)) (i : Nat), (applyS B fuse S i l).1.length = S.length
  | [], S, i => rfl
  | w :: l, S, i => by
    rw [applyS]
    split
    · rfl
    · split
      · rw [applyS_length B fuse l, putS_length]
      · rfl

end Go.Abs

namespace Go.Abs
open Go.Proofs
set_option maxRecDepth 100000
set_option linter.unusedSimpArgs false

theorem wr_cells {n : Nat} {cs : List V} (h : HasT Tryd.prog n 40 cs) : ∃ w : Int × List UInt8, V.agg cs = wrV w ∧ (-9223372036854775808 ≤ w.1 ∧ w.1 ≤ 9223372036854775807) := by
  obtain ⟨m, rfl, h1, h2⟩ := hasT_struct Tryd.underlying40 h
  have hl : cs.length = 2 := h1.trans (by kernel_rfl)
  match cs, hl with
  | [a, b], _ =>
    have f0 := h2 0 _ rfl
    have f1 := h2 1 _ rfl
    obtain ⟨k, e1, hk⟩ := hasT_int Tryd.underlying3 f0
    obtain ⟨s, e2, _⟩ := hasT_str Tryd.underlying9 f1
    have e1' : [a] = [V.int .i64 k] := e1
    have e2' : [b] = [V.str s] := e2
    cases e1'
    cases e2'
    exact ⟨(k, s), rfl, wf_i64 hk⟩
theorem writes_of {x : V} (h : ArgT Tryd.prog 28 x) : ∃ l : List (Int × List UInt8), x = .sl (l.map wrV) ∧ l.length ≤ maxLen := by
  obtain ⟨n, h1, h2⟩ := h
  rw [show aggT Tryd.prog 28 = some false by kernel_rfl] at h2
  rw [cells_one (Option.some.inj h2).symm] at h1
  obtain ⟨m, es, rfl, h3, h4, h5⟩ := hasT_slice Tryd.underlying28 (cells_ne (n := 2) (by kernel_rfl) (by decide)) h1
  cases h3
  obtain ⟨l, rfl, _⟩ := map_of (p := fun _ => True) (f := wrV) fun x hx => by
    obtain ⟨h6, h7⟩ := h5 x hx
    rw [show aggT Tryd.prog 40 = some true by kernel_rfl] at h6
    obtain ⟨cs, rfl⟩ := cells_some (Option.some.inj h6).symm
    obtain ⟨w, h8, _⟩ := wr_cells h7
    exact ⟨w, h8, trivial⟩
  exact ⟨l, rfl, by simpa using h4⟩

end Go.Abs

namespace Go.Abs
open Go.Proofs
set_option maxRecDepth 100000
set_option linter.unusedSimpArgs false
set_option linter.unusedVariables false

theorem bytesI_length {k l z : Int} {L : List Int} (hL : L.length = 8) : (bytesI k l z L).length = 32 := by
  match L, hL with
  | [a, b, c, d, e, f, g, h], _ => rfl

/-- What Put returns. -/
def putW (S : List (List UInt8)) (B : List Int) (n k l z : Int) (L : List Int) : (Int × List UInt8) × Int :=
  if (secS S B n).2 = 0 then if validI k l z L then ((19 + n / 4, (secS S B n).1.take (n.toNat % 4 * 32) ++ (bytesI k l z L ++ (secS S B n).1.drop (n.toNat % 4 * 32 + 32))), 0) else ((0, []), 1) else ((0, []), (secS S B n).2)

end Go.Abs

namespace Go.Abs
open Go.Proofs
set_option maxRecDepth 100000
set_option linter.unusedSimpArgs false
set_option linter.unusedVariables false

/-- Is a drive bounded? -/
def SmallD (S : List (List UInt8)) (B : List Int) : Prop := (∀ i ∈ List.range S.length, i < 257 → (S.getD i []).length ≤ 200) ∧ S.length ≤ 256 ∧ B.length ≤ 100
instance (S : List (List UInt8)) (B : List Int) : Decidable (SmallD S B) := by unfold SmallD; infer_instance
theorem eqL_wr (i j : Int) (s u : List UInt8) : eqL Tryd.prog 10000 40 [.int .i64 i, .str s] [.int .i64 j, .str u] = some (decide (i = j) && decide (s = u)) := by
  have s1 : Tryd.prog.stoodInHeld 40 = false := by kernel_rfl
  have o1 : okT Tryd.prog 3 = true := by kernel_rfl
  have o2 : okT Tryd.prog 9 = true := by kernel_rfl
  have z1 : sizeL Tryd.prog 3 = 1 := by kernel_rfl
  have z2 : sizeL Tryd.prog 9 = 1 := by kernel_rfl
  rw [show (10000 : Nat) = 9997 + 3 from rfl]
  generalize 9997 = n
  simp [eqL, eqFs, eqNs, s1, o1, o2, z1, z2, Tryd.underlying40, Tryd.underlying9, Tryd.underlying3]
  rw [Bool.eq_iff_iff]
  simp
theorem same_wr (i : Int) (s : List UInt8) : binV Tryd.prog .eql 40 (.agg [.int .i64 i, .str s]) (.agg [.int .i64 i, .str s]) = some (.bool true) := by
  have h := (binV_agg (P := Tryd.prog) (t := 40) (d := 10000) rfl (by kernel_rfl) (by kernel_rfl) rfl rfl (eqL_wr i i s s)).1
  simp only [decide_true, Bool.and_self] at h
  exact h

theorem getV_shape (S : List (List UInt8)) (B : List Int) (n : Int) : ∃ k l z a b c d e f g h, getV S B n = .agg [.int .i64 k, .int .i64 l, .int .i64 z, .int .i64 a, .int .i64 b, .int .i64 c, .int .i64 d, .int .i64 e, .int .i64 f, .int .i64 g, .int .i64 h] ∧ In64 [k, l, z, a, b, c, d, e, f, g, h] := by
  unfold getV
  split
  · exact parseV_shape _
  · exact ⟨0, 0, 0, 0, 0, 0, 0, 0, 0, 0, 0, rfl, by intro x hx; simp at hx; omega⟩

end Go.Abs

namespace Go.Abs
open Go.Proofs
set_option maxRecDepth 100000
set_option linter.unusedSimpArgs false
set_option linter.unusedVariables false

/-- A bit of a bitmap. -/
def bitB (s : List UInt8) (n : Nat) : Bool := (s.getD (n / 8) 0).toNat / 2 ^ (n % 8) % 2 == 1
theorem and7 (n : Nat) (h : n ≤ 1000000) : intOp .and .i64 (n : Int) 7 = some (.int .i64 ((n % 8 : Nat) : Int)) := by
  show some (V.int .i64 (IntKind.i64.wrap ((BitVec.ofInt 64 (n : Int) &&& 7#64).toNat : Int))) = _
  have e : (BitVec.ofInt 64 (n : Int) &&& 7#64).toNat = n % 8 := by
    rw [BitVec.toNat_and, BitVec.toNat_ofInt]
    rw [show ((n : Int) % (2 ^ 64 : Nat)).toNat = n by omega]
    exact Nat.and_two_pow_sub_one_eq_mod _ 3
  rw [e, wrap_id (by omega) (by omega)]
theorem and1_i64 (n : Nat) (h : n ≤ 1000000) : intOp .and .i64 (n : Int) 1 = some (.int .i64 ((n % 2 : Nat) : Int)) := by
  show some (V.int .i64 (IntKind.i64.wrap ((BitVec.ofInt 64 (n : Int) &&& 1#64).toNat : Int))) = _
  have e : (BitVec.ofInt 64 (n : Int) &&& 1#64).toNat = n % 2 := by
    rw [BitVec.toNat_and, BitVec.toNat_ofInt]
    rw [show ((n : Int) % (2 ^ 64 : Nat)).toNat = n by omega]
    exact Nat.and_two_pow_sub_one_eq_mod _ 1
  rw [e, wrap_id (by omega) (by omega)]
theorem and1_u8 (n : Nat) (h : n < 256) : intOp .and .u8 (n : Int) 1 = some (.int .u8 ((n % 2 : Nat) : Int)) := by
  show some (V.int .u8 (IntKind.u8.wrap ((BitVec.ofInt 8 (n : Int) &&& 1#8).toNat : Int))) = _
  have e : (BitVec.ofInt 8 (n : Int) &&& 1#8).toNat = n % 2 := by
    rw [BitVec.toNat_and, BitVec.toNat_ofInt]
    rw [show ((n : Int) % (2 ^ 8 : Nat)).toNat = n by omega]
    exact Nat.and_two_pow_sub_one_eq_mod _ 1
  rw [e, wrap_u8_nat]
  congr 2
  omega
theorem intOp_quo8 (a : Int) : intOp .quo .i64 a 8 = some (.int .i64 (IntKind.i64.wrap (a.tdiv 8))) := rfl
theorem intOp_rem8 (a : Int) : intOp .rem .i64 a 8 = some (.int .i64 (a.tmod 8)) := rfl
theorem div_pow_le (x r : Nat) : x / 2 ^ r ≤ x := Nat.div_le_self _ _

/-- The bitmap. -/
def mapS (S : List (List UInt8)) (B : List Int) : List UInt8 × Int := if VolP S B then readS S B 18 else ([], 9)
theorem map_ok {S : List (List UInt8)} {B : List Int} (h : (mapS S B).2 = 0) : VolP S B ∧ (mapS S B).1.length = 128 := by
  unfold mapS at h ⊢
  by_cases hv : VolP S B
  · rw [if_pos hv] at h ⊢
    have hb := vol_bounds hv
    unfold readS at h ⊢
    rw [if_pos (by omega)] at h ⊢
    by_cases hi : (18 : Int) ∈ B
    · rw [if_pos hi] at h; exact absurd h (by simp)
    · rw [if_neg hi]
      have hlt : (18 : Int).toNat < S.length := by omega
      exact ⟨hv, by rw [getD_at hlt]; exact hv.1.2.2.1 _ (List.getElem_mem hlt)⟩
  · rw [if_neg hv] at h; exact absurd h (by simp)

abbrev extV (a b : Int) : V := .agg [.int .i64 a, .int .i64 b]

end Go.Abs

namespace Go.Abs
open Go.Proofs
set_option maxRecDepth 100000
set_option linter.unusedSimpArgs false
set_option linter.unusedVariables false

/-- The numbers from 27 on, n of them, whose bits are not set. -/
def freeL (s : List UInt8) (n : Nat) : List Int := ((List.range n).filter fun i => !bitB s (27 + i)).map fun i => ((27 + i : Nat) : Int)
theorem freeL_succ (s : List UInt8) (n : Nat) : freeL s (n + 1) = if bitB s (27 + n) = true then freeL s n else freeL s n ++ [((27 + n : Nat) : Int)] := by
  unfold freeL
  rw [List.range_succ, List.filter_append, List.map_append]
  by_cases h : bitB s (27 + n) = true <;> simp [h]
theorem freeL_length (s : List UInt8) (n : Nat) : (freeL s n).length ≤ n := by
  unfold freeL
  rw [List.length_map]
  exact Nat.le_trans (List.length_filter_le _ _) (by simp)
def freeN (S : List (List UInt8)) : Nat := ((S.length : Int) - swapW S - 27).toNat
theorem freeN_eq {S : List (List UInt8)} {B : List Int} (h : VolP S B) : (S.length : Int) - swapW S - 27 = (freeN S : Nat) ∧ freeN S ≤ 229 := by
  have := vol_bounds h
  unfold freeN
  omega

end Go.Abs

namespace Go.Abs
open Go.Proofs
set_option maxRecDepth 100000
set_option linter.unusedSimpArgs false
set_option linter.unusedVariables false

def usedB (S : List (List UInt8)) (B : List Int) (n : Int) : Bool := decide ((mapS S B).2 = 0) && (decide (0 ≤ n ∧ n < S.length) && bitB (mapS S B).1 n.toNat)

def kindV : V → Int
  | .agg (.int _ k :: _) => k
  | _ => 0
/-- The first free inode from n on. -/
def allocF (S : List (List UInt8)) (B : List Int) : Nat → Nat → Int × Int
  | 0, _ => (0, 12)
  | f + 1, n => if getE S B n ≠ 0 then (0, getE S B n) else if kindV (getV S B n) = 0 then (n, 0) else allocF S B f (n + 1)

end Go.Abs

namespace Go.Abs
open Go.Proofs
set_option maxRecDepth 100000
set_option linter.unusedSimpArgs false
set_option linter.unusedVariables false

/-- A byte with a bit set or cleared. -/
def markN (x r : Nat) (u : Bool) : Nat := if u then (if x / 2 ^ r % 2 = 1 then x else x + 2 ^ r) else (if x / 2 ^ r % 2 = 1 then x - 2 ^ r else x)
def andNotI (k : IntKind) (a b : Int) : Int := k.wrap (BitVec.ofInt k.bits a &&& ~~~ BitVec.ofInt k.bits b).toNat
def orI (k : IntKind) (a b : Int) : Int := k.wrap (BitVec.ofInt k.bits a ||| BitVec.ofInt k.bits b).toNat
theorem intOp_andNot (k : IntKind) (a b : Int) : intOp .andNot k a b = some (.int k (andNotI k a b)) := rfl
theorem intOp_or (k : IntKind) (a b : Int) : intOp .or k a b = some (.int k (orI k a b)) := rfl
def chk (x r : Nat) : Bool := decide (markN x r true < 256) && (decide (markN x r false < 256) && (decide (andNotI .u8 x (2 ^ r : Nat) = markN x r false) && (decide (orI .u8 (markN x r false) (2 ^ r : Nat) = markN x r true) &&
  (decide (IntKind.u8.wrap (orI .i64 x (2 ^ r : Nat)) = markN x r true) && decide (IntKind.u8.wrap (andNotI .i64 x (2 ^ r : Nat)) = markN x r false)))))
theorem chk_all : ((List.range 256).all fun x => (List.range 8).all fun r => chk x r) = true := by kernel_rfl
theorem chk_at {x r : Nat} (hx : x < 256) (hr : r < 8) : markN x r true < 256 ∧ markN x r false < 256 ∧ andNotI .u8 x (2 ^ r : Nat) = markN x r false ∧ orI .u8 (markN x r false) (2 ^ r : Nat) = markN x r true ∧
    IntKind.u8.wrap (orI .i64 x (2 ^ r : Nat)) = markN x r true ∧ IntKind.u8.wrap (andNotI .i64 x (2 ^ r : Nat)) = markN x r false := by
  have h := List.all_eq_true.1 (List.all_eq_true.1 chk_all x (List.mem_range.2 hx)) r (List.mem_range.2 hr)
  unfold chk at h
  simp only [Bool.and_eq_true, decide_eq_true_eq] at h
  exact h

def markS (s : List UInt8) (n : Nat) (u : Bool) : List UInt8 := s.set (n / 8) (UInt8.ofNat (markN (s.getD (n / 8) 0).toNat (n % 8) u))
@[simp] theorem markS_length {s : List UInt8} {n : Nat} {u : Bool} : (markS s n u).length = s.length := by simp [markS]
theorem u8s_set (s : List UInt8) (q v : Nat) (h : v < 256) : u8s (s.set q (UInt8.ofNat v)) = (u8s s).set q (.int .u8 (v : Int)) := by
  unfold u8s
  rw [List.map_set]
  congr 2
  simp
  omega

def markF (N : Int) (u : Bool) : List UInt8 → List Int → Option (List UInt8)
  | t, [] => some t
  | t, x :: l => if 27 ≤ x ∧ x < 27 + N then markF N u (markS t x.toNat u) l else none
theorem markF_at {N : Int} {u : Bool} {t : List UInt8} {l : List Int} {i : Nat} (h : i < l.length) : markF N u t (l.drop i) = if 27 ≤ l[i] ∧ l[i] < 27 + N then markF N u (markS t (l[i]).toNat u) (l.drop (i + 1)) else none := by
  rw [List.drop_eq_getElem_cons h, markF]
def markW (S : List (List UInt8)) (B : List Int) (l : List Int) (u : Bool) : (Int × List UInt8) × Int :=
  if (mapS S B).2 = 0 then (match markF (freeN S) u (mapS S B).1 l with | some t => ((18, t), 0) | none => ((0, []), 2)) else ((0, []), (mapS S B).2)

end Go.Abs

namespace Go.Abs
open Go.Proofs
set_option maxRecDepth 100000
set_option linter.unusedSimpArgs false
set_option linter.unusedVariables false

theorem set_set (s : List UInt8) (q : Nat) (a b : UInt8) : (s.set q a).set q b = s.set q b := by simp

end Go.Abs

namespace Go.Abs
open Go.Proofs
set_option maxRecDepth 100000
set_option linter.unusedSimpArgs false
set_option linter.unusedVariables false

theorem bool_of {P : Program} {t : TypeId} {x : V} (hu : P.underlying t = some .bool) (h : ArgT P t x) : ∃ b, x = .bool b := by
  obtain ⟨n, h1, h2⟩ := h
  rw [show aggT P t = some false by simp [aggT, hu]] at h2
  rw [cells_one (Option.some.inj h2).symm] at h1
  obtain ⟨m, h3⟩ := hasT_bool hu h1
  cases h3
  exact ⟨m, rfl⟩
theorem ints_of {x : V} (h : ArgT Tryd.prog 23 x) : ∃ l : List Int, x = .sl (ints l) ∧ l.length ≤ maxLen ∧ In64 l := by
  obtain ⟨n, h1, h2⟩ := h
  rw [show aggT Tryd.prog 23 = some false by kernel_rfl] at h2
  rw [cells_one (Option.some.inj h2).symm] at h1
  obtain ⟨S, h3, h4, h5⟩ := hasT_ints Tryd.underlying23 (cells_ne (n := 1) (by kernel_rfl) (by decide)) Tryd.underlying3 h1
  cases h3
  exact ⟨S, rfl, h4, fun x hx => wf_i64 (h5 x hx)⟩
end Go.Abs

namespace Go.Abs
open Go.Proofs
set_option maxRecDepth 100000
set_option linter.unusedSimpArgs false
set_option linter.unusedVariables false

theorem allocF_zero (S : List (List UInt8)) (B : List Int) : ∀ f n, (allocF S B f n).2 = 0 → (n : Int) ≤ (allocF S B f n).1 ∧ (allocF S B f n).1 < (n : Int) + f
  | 0, n, h => by simp [allocF] at h
  | f + 1, n, h => by
    unfold allocF at h ⊢
    by_cases h1 : getE S B n ≠ 0
    · rw [if_pos h1] at h; exact absurd h h1
    · rw [if_neg h1] at h ⊢
      by_cases h2 : kindV (getV S B n) = 0
      · rw [if_pos h2]; exact ⟨Int.le_refl _, by dsimp only; omega⟩
      · rw [if_neg h2] at h ⊢
        have := allocF_zero S B f (n + 1) h
        omega
theorem allocF_err (S : List (List UInt8)) (B : List Int) : ∀ f n, (allocF S B f n).2 ≠ 0 → (allocF S B f n).1 = 0
  | 0, n, h => rfl
  | f + 1, n, h => by
    unfold allocF at h ⊢
    by_cases h1 : getE S B n ≠ 0
    · rw [if_pos h1]
    · rw [if_neg h1] at h ⊢
      by_cases h2 : kindV (getV S B n) = 0
      · rw [if_pos h2] at h; exact absurd rfl h
      · rw [if_neg h2] at h ⊢
        exact allocF_err S B f (n + 1) h
theorem getV_free {S : List (List UInt8)} {B : List Int} {n : Int} (h : getE S B n = 0) (hk : kindV (getV S B n) = 0) : getV S B n = ino0 := by
  unfold getV getE at *
  split at h
  · rename_i he
    rw [if_pos he] at hk ⊢
    unfold parseE at h
    split at h
    · rename_i ho
      unfold parseV at hk ⊢
      rw [if_pos ho] at hk ⊢
      have hv := ho.2.1
      have hk' : wd (inoS S B n) 0 = 0 := hk
      unfold validI at hv
      rw [if_pos hk'] at hv
      rw [hk', hv.1, hv.2.1, hv.2.2]
      rfl
    · cases h
  · rename_i he
    exact absurd h he

end Go.Abs

namespace Go.Abs
open Go.Proofs
set_option maxRecDepth 100000
set_option linter.unusedSimpArgs false

theorem diffL_one {S T : List (List UInt8)} {i : Nat} (h : ∀ j, j ≠ i → S[j]? = T[j]?) : ∀ n, diffL S T n = if i < n ∧ S[i]? ≠ T[i]? then [(i : Int)] else []
  | 0 => by simp [diffL]
  | n + 1 => by
    rw [diffL_succ, diffL_one h n]
    by_cases hn : n = i
    · subst hn
      by_cases h2 : S[n]? = T[n]?
      · simp [h2]
      · simp [h2]
    · rw [if_pos (h n hn)]
      have : i < n + 1 ↔ i < n := by omega
      simp only [this]
theorem diffA_put (S : List (List UInt8)) (w : Int × List UInt8) (h0 : 0 ≤ w.1) : diffA S (putS S w) = [] ∨ diffA S (putS S w) = [w.1] := by
  have h : ∀ j, j ≠ w.1.toNat → S[j]? = (putS S w)[j]? := fun j hj => by unfold putS; rw [List.getElem?_set_ne (Ne.symm hj)]
  rw [diffA, diffL_one h]
  split
  · exact .inr (by rw [Int.toNat_of_nonneg h0])
  · exact .inl rfl
theorem RightP_put {S : List (List UInt8)} {B : List Int} {w : Int × List UInt8} (h : RightP S B) (hw : w.2.length ≤ 128) : RightP (putS S w) B := by
  obtain ⟨h1, h2, h3, h4, h5⟩ := h
  refine ⟨by rw [putS_length]; exact h1, by rw [putS_length]; exact h2, fun s hs => ?_, by rw [putS_length]; exact h4, h5⟩
  unfold putS at hs
  rcases List.mem_or_eq_of_mem_set hs with hs | rfl
  · exact h3 s hs
  · simp; omega
theorem readS_put {S : List (List UInt8)} {B : List Int} {w : Int × List UInt8} (h : faultI S.length B w = 0) : readS (putS S w) B w.1 = (w.2 ++ List.replicate (128 - w.2.length) 0, 0) := by
  obtain ⟨h1, h2, h3⟩ := faultI_zero.1 h
  have hl : w.1.toNat < S.length := by omega
  unfold readS
  rw [putS_length, if_pos h1, if_neg h3]
  simp [putS, hl]

end Go.Abs

namespace Go.Abs
open Go.Proofs
set_option maxRecDepth 100000
set_option linter.unusedSimpArgs false
set_option linter.unusedVariables false

theorem word_put2 {n : Int} (h : 0 ≤ n) (h2 : n ≤ 65535) : word (UInt8.ofNat (n.toNat % 256)) (UInt8.ofNat (n.toNat / 256 % 256)) = n := by
  unfold word
  simp
  omega
/-- What is encoded is read. -/
theorem parse_bytes {k l z : Int} {L : List Int} (hL : L.length = 8) (h : validI k l z L) : parseV (bytesI k l z L) = inoV k l z L ∧ parseE (bytesI k l z L) = 0 := by
  match L, hL with
  | [a, b, c, d, e, f, g, h'], hL =>
    have hr : (0 ≤ k ∧ k ≤ 65535) ∧ (0 ≤ l ∧ l ≤ 65535) ∧ (0 ≤ z ∧ z ≤ 65535) ∧ (0 ≤ a ∧ a ≤ 65535) ∧ (0 ≤ b ∧ b ≤ 65535) ∧ (0 ≤ c ∧ c ≤ 65535) ∧ (0 ≤ d ∧ d ≤ 65535) ∧ (0 ≤ e ∧ e ≤ 65535) ∧ (0 ≤ f ∧ f ≤ 65535) ∧ (0 ≤ g ∧ g ≤ 65535) ∧ (0 ≤ h' ∧ h' ≤ 65535) := by
      unfold validI at h
      split at h
      · simp [List.replicate] at h; omega
      · obtain ⟨h1, h2, h3, h4, h5, h6⟩ := h
        have p := fun i (hi : i < 8) => h6 i (List.mem_range.2 hi)
        have p0 := p 0 (by decide); have p1 := p 1 (by decide); have p2 := p 2 (by decide); have p3 := p 3 (by decide)
        have p4 := p 4 (by decide); have p5 := p 5 (by decide); have p6 := p 6 (by decide); have p7 := p 7 (by decide)
        simp at p0 p1 p2 p3 p4 p5 p6 p7
        omega
    obtain ⟨r0, r1, r2, r3, r4, r5, r6, r7, r8, r9, r10⟩ := hr
    have w0 := word_put2 r0.1 r0.2; have w1 := word_put2 r1.1 r1.2; have w2 := word_put2 r2.1 r2.2; have w3 := word_put2 r3.1 r3.2; have w4 := word_put2 r4.1 r4.2
    have w5 := word_put2 r5.1 r5.2; have w6 := word_put2 r6.1 r6.2; have w7 := word_put2 r7.1 r7.2; have w8 := word_put2 r8.1 r8.2; have w9 := word_put2 r9.1 r9.2; have w10 := word_put2 r10.1 r10.2
    have e0 : wd (bytesI k l z [a, b, c, d, e, f, g, h']) 0 = k := w0
    have e1 : wd (bytesI k l z [a, b, c, d, e, f, g, h']) 1 = l := w1
    have e2 : wd (bytesI k l z [a, b, c, d, e, f, g, h']) 2 = z := w2
    have e3 : wd (bytesI k l z [a, b, c, d, e, f, g, h']) 3 = a := w3
    have e4 : wd (bytesI k l z [a, b, c, d, e, f, g, h']) 4 = b := w4
    have e5 : wd (bytesI k l z [a, b, c, d, e, f, g, h']) 5 = c := w5
    have e6 : wd (bytesI k l z [a, b, c, d, e, f, g, h']) 6 = d := w6
    have e7 : wd (bytesI k l z [a, b, c, d, e, f, g, h']) 7 = e := w7
    have e8 : wd (bytesI k l z [a, b, c, d, e, f, g, h']) 8 = f := w8
    have e9 : wd (bytesI k l z [a, b, c, d, e, f, g, h']) 9 = g := w9
    have e10 : wd (bytesI k l z [a, b, c, d, e, f, g, h']) 10 = h' := w10
    have eL : wdL (bytesI k l z [a, b, c, d, e, f, g, h']) = [a, b, c, d, e, f, g, h'] := by
      unfold wdL
      rw [e3, e4, e5, e6, e7, e8, e9, e10]
    have ho : okS (bytesI k l z [a, b, c, d, e, f, g, h']) := ⟨bytesI_length hL, by rw [e0, e1, e2, eL]; exact h, by rw [e0, e1, e2, eL]⟩
    unfold parseV parseE
    rw [if_pos ho, if_pos ho, e0, e1, e2, eL]
    exact ⟨rfl, rfl⟩

theorem getD_putS {S : List (List UInt8)} {w : Int × List UInt8} {j : Nat} (h : j ≠ w.1.toNat) : (putS S w).getD j [] = S.getD j [] := by
  unfold putS
  rw [List.getD_eq_getElem?_getD, List.getD_eq_getElem?_getD, List.getElem?_set_ne (Ne.symm h)]
theorem putS_vol {S : List (List UInt8)} {B : List Int} {w : Int × List UInt8} (h : VolP S B) (h1 : 1 ≤ w.1) (hw : w.2.length ≤ 128) : VolP (putS S w) B ∧ swapW (putS S w) = swapW S := by
  have h0 : (putS S w).getD 0 [] = S.getD 0 [] := getD_putS (by omega)
  have hs : swapW (putS S w) = swapW S := by unfold swapW; rw [h0]
  exact ⟨⟨RightP_put h.1 hw, by rw [putS_length]; exact h.2.1, h.2.2.1, by rw [hs, putS_length]; exact h.2.2.2.1, by rw [h0, hs, putS_length]; exact h.2.2.2.2⟩, hs⟩
theorem readS_other {S : List (List UInt8)} {B : List Int} {w : Int × List UInt8} {m : Int} (h0 : 0 ≤ w.1) (h : m ≠ w.1) : readS (putS S w) B m = readS S B m := by
  unfold readS
  rw [putS_length]
  split
  · rename_i h2
    rw [getD_putS (by omega)]
  · rfl
/-- What the write of an inode is. -/
theorem put_ok {S : List (List UInt8)} {B : List Int} {n k l z : Int} {L : List Int} (hL : L.length = 8) (h : (putW S B n k l z L).2 = 0) :
    VolP S B ∧ 1 ≤ n ∧ n < 32 ∧ validI k l z L ∧ (readS S B (19 + n / 4)).2 = 0 ∧ (readS S B (19 + n / 4)).1.length = 128 ∧ faultI S.length B (putW S B n k l z L).1 = 0 ∧ (putW S B n k l z L).1.2.length = 128 ∧
      (putW S B n k l z L).1 = (19 + n / 4, (readS S B (19 + n / 4)).1.take (n.toNat % 4 * 32) ++ (bytesI k l z L ++ (readS S B (19 + n / 4)).1.drop (n.toNat % 4 * 32 + 32))) := by
  unfold putW at h ⊢
  by_cases h1 : (secS S B n).2 = 0
  case neg => rw [if_neg h1] at h; exact absurd h h1
  rw [if_pos h1] at h ⊢
  by_cases h2 : validI k l z L
  case neg => rw [if_neg h2] at h; exact absurd h (by simp)
  rw [if_pos h2]
  unfold secS at h1 ⊢
  by_cases hv : VolP S B
  case neg => rw [if_neg hv] at h1; exact absurd h1 (by simp)
  rw [if_pos hv] at h1 ⊢
  by_cases hn : 1 ≤ n ∧ n < 32
  case neg => rw [if_neg hn] at h1; exact absurd h1 (by simp)
  rw [if_pos hn] at h1 ⊢
  have hlen : (readS S B (19 + n / 4)).1.length = 128 ∧ 0 ≤ 19 + n / 4 ∧ 19 + n / 4 < S.length ∧ 19 + n / 4 ∉ B := by
    unfold readS at h1 ⊢
    by_cases h3 : 0 ≤ 19 + n / 4 ∧ 19 + n / 4 < S.length
    case neg => rw [if_neg h3] at h1; exact absurd h1 (by simp)
    rw [if_pos h3] at h1 ⊢
    by_cases h4 : 19 + n / 4 ∈ B
    · rw [if_pos h4] at h1; exact absurd h1 (by simp)
    · rw [if_neg h4]
      have hlt : (19 + n / 4).toNat < S.length := by omega
      exact ⟨by rw [getD_at hlt]; exact hv.1.2.2.1 _ (List.getElem_mem hlt), h3.1, h3.2, h4⟩
  have hd : ((readS S B (19 + n / 4)).1.take (n.toNat % 4 * 32) ++ (bytesI k l z L ++ (readS S B (19 + n / 4)).1.drop (n.toNat % 4 * 32 + 32))).length = 128 := by
    rw [List.length_append, List.length_append, List.length_take, List.length_drop, bytesI_length hL, hlen.1]
    omega
  exact ⟨hv, hn.1, hn.2, h2, h1, hlen.1, faultI_zero.2 ⟨⟨hlen.2.1, hlen.2.2.1⟩, by rw [hd]; exact Nat.le_refl _, hlen.2.2.2⟩, hd, rfl⟩
theorem secS_put {S : List (List UInt8)} {B : List Int} {w : Int × List UInt8} (hv : VolP S B) (h1 : 1 ≤ w.1) (hw : w.2.length = 128) (hf : faultI S.length B w = 0) (i : Int) :
    secS (putS S w) B i = if 1 ≤ i ∧ i < 32 ∧ 19 + i / 4 = w.1 then (w.2, 0) else secS S B i := by
  obtain ⟨hv', _⟩ := putS_vol hv h1 (by omega)
  unfold secS
  rw [if_pos hv', if_pos hv]
  by_cases h2 : 1 ≤ i ∧ i < 32
  · by_cases h3 : 19 + i / 4 = w.1
    · rw [if_pos h2, if_pos ⟨h2.1, h2.2, h3⟩, h3, readS_put hf, hw]
      simp
    · rw [if_pos h2, if_neg (fun h => h3 h.2.2), if_pos h2, readS_other (by omega) h3]
  · rw [if_neg h2, if_neg (fun h => h2 ⟨h.1, h.2.1⟩), if_neg h2]
theorem slot_same (s b : List UInt8) (o : Nat) (ho : o + 32 ≤ s.length) (hb : b.length = 32) : ((s.take o ++ (b ++ s.drop (o + 32))).drop o).take 32 = b := by
  rw [List.drop_append_of_le_length (by rw [List.length_take]; omega), List.drop_eq_nil_of_le (by rw [List.length_take]; omega), List.nil_append, List.take_append_of_le_length (by omega), List.take_of_length_le (by omega)]
theorem slot_other (s b : List UInt8) (o o' : Nat) (ho : o + 32 ≤ s.length) (hb : b.length = 32) (h : o' + 32 ≤ o ∨ o + 32 ≤ o') : ((s.take o ++ (b ++ s.drop (o + 32))).drop o').take 32 = (s.drop o').take 32 := by
  apply List.ext_getElem?
  intro j
  by_cases hj : j < 32
  · rw [List.getElem?_take_of_lt hj, List.getElem?_take_of_lt hj, List.getElem?_drop, List.getElem?_drop]
    rcases h with h | h
    · rw [List.getElem?_append_left (by rw [List.length_take]; omega), List.getElem?_take_of_lt (by omega)]
    · rw [List.getElem?_append_right (by rw [List.length_take]; omega), List.getElem?_append_right (by rw [List.length_take]; omega), List.getElem?_drop, List.length_take, hb]
      congr 1
      omega
  · rw [List.getElem?_eq_none (by rw [List.length_take]; omega), List.getElem?_eq_none (by rw [List.length_take]; omega)]
/-- After the write of an inode. -/
theorem get_put {S : List (List UInt8)} {B : List Int} {n k l z : Int} {L : List Int} (hL : L.length = 8) (h : (putW S B n k l z L).2 = 0) (i : Int) :
    getV (putS S (putW S B n k l z L).1) B i = (if i = n then inoV k l z L else getV S B i) ∧ getE (putS S (putW S B n k l z L).1) B i = if i = n then 0 else getE S B i := by
  obtain ⟨hv, hn1, hn2, hval, hr, hlen, hf, hw, he⟩ := put_ok hL h
  have hs := secS_put hv (by rw [he]; dsimp only; omega) hw hf i
  have hself : secS S B n = readS S B (19 + n / 4) := by unfold secS; rw [if_pos hv, if_pos ⟨hn1, hn2⟩]
  generalize putW S B n k l z L = p at h hf hw he hs
  generalize hrr : readS S B (19 + n / 4) = r at hr hlen he hself
  have hB := bytesI_length (k := k) (l := l) (z := z) hL
  have ho : n.toNat % 4 * 32 + 32 ≤ r.1.length := by omega
  unfold getV getE inoS
  by_cases hi : i = n
  · rw [if_pos hi, if_pos hi]
    subst hi
    rw [he] at hs
    rw [if_pos ⟨hn1, hn2, rfl⟩] at hs
    rw [he, hs]
    dsimp only
    rw [if_pos rfl, if_pos rfl, slot_same _ _ _ ho hB]
    exact parse_bytes hL hval
  · rw [if_neg hi, if_neg hi, hs]
    by_cases h3 : 1 ≤ i ∧ i < 32 ∧ 19 + i / 4 = p.1.1
    · rw [if_pos h3]
      have h4 : 19 + i / 4 = 19 + n / 4 := by have := h3.2.2; rw [he] at this; exact this
      have hi' : secS S B i = r := by unfold secS; rw [if_pos hv, if_pos ⟨h3.1, h3.2.1⟩, h4, hrr]
      rw [hi', hr, he]
      dsimp only
      rw [if_pos rfl, if_pos rfl, slot_other _ _ _ _ ho hB (by omega)]
      exact ⟨rfl, rfl⟩
    · rw [if_neg h3]
      exact ⟨rfl, rfl⟩
end Go.Abs

namespace Go.Abs
open Go.Proofs
set_option maxRecDepth 100000
set_option linter.unusedSimpArgs false
set_option linter.unusedVariables false

end Go.Abs

namespace Go.Abs
open Go.Proofs
set_option maxRecDepth 100000
set_option linter.unusedSimpArgs false
set_option linter.unusedVariables false

def chk2 (x r q : Nat) : Bool := (decide (markN x r true / 2 ^ q % 2 = if q = r then 1 else x / 2 ^ q % 2) && decide (markN x r false / 2 ^ q % 2 = if q = r then 0 else x / 2 ^ q % 2))
theorem chk2_all : ((List.range 256).all fun x => (List.range 8).all fun r => (List.range 8).all fun q => chk2 x r q) = true := by kernel_rfl
theorem chk2_at {x r q : Nat} (hx : x < 256) (hr : r < 8) (hq : q < 8) (u : Bool) : markN x r u / 2 ^ q % 2 = if q = r then (if u then 1 else 0) else x / 2 ^ q % 2 := by
  have h := List.all_eq_true.1 (List.all_eq_true.1 (List.all_eq_true.1 chk2_all x (List.mem_range.2 hx)) r (List.mem_range.2 hr)) q (List.mem_range.2 hq)
  unfold chk2 at h
  simp only [Bool.and_eq_true, decide_eq_true_eq] at h
  cases u
  · exact h.2
  · exact h.1
theorem markN_lt {x r : Nat} (hx : x < 256) (hr : r < 8) (u : Bool) : markN x r u < 256 := by
  have h := chk_at hx hr
  cases u
  · exact h.2.1
  · exact h.1
theorem bitB_mark (s : List UInt8) (m i : Nat) (u : Bool) (hm : m / 8 < s.length) : bitB (markS s m u) i = if i = m then u else bitB s i := by
  unfold bitB markS
  have hx := (s.getD (m / 8) 0).toNat_lt
  have hr : m % 8 < 8 := Nat.mod_lt _ (by omega)
  have hr' : i % 8 < 8 := Nat.mod_lt _ (by omega)
  by_cases h8 : i / 8 = m / 8
  · rw [h8]
    rw [List.getD_eq_getElem?_getD, List.getElem?_set_self hm, Option.getD_some]
    have hlt := markN_lt (x := (s.getD (m / 8) 0).toNat) (by omega) hr u
    rw [UInt8.toNat_ofNat_of_lt' hlt, chk2_at (by omega) hr hr' u]
    by_cases hi : i = m
    · subst hi
      rw [if_pos rfl, if_pos rfl]
      cases u <;> rfl
    · rw [if_neg hi, if_neg (by omega)]
  · rw [List.getD_eq_getElem?_getD, List.getElem?_set_ne (Ne.symm h8), ← List.getD_eq_getElem?_getD]
    rw [if_neg (by omega)]
theorem markF_ok {N : Int} {u : Bool} (hN : N ≤ 229) : ∀ {l : List Int} {s t : List UInt8}, s.length = 128 → markF N u s l = some t → t.length = 128 ∧ ∀ i : Nat, bitB t i = if (i : Int) ∈ l then u else bitB s i
  | [], s, t, hs, h => by
    simp [markF] at h
    subst h
    exact ⟨hs, fun i => by simp⟩
  | x :: l, s, t, hs, h => by
    rw [markF] at h
    split at h
    · rename_i hx
      obtain ⟨h1, h2⟩ := markF_ok hN (by rw [markS_length]; exact hs) h
      refine ⟨h1, fun i => ?_⟩
      rw [h2, bitB_mark s x.toNat i u (by omega)]
      by_cases hi : (i : Int) ∈ l
      · rw [if_pos hi, if_pos (List.mem_cons_of_mem _ hi)]
      · rw [if_neg hi]
        by_cases hix : i = x.toNat
        · rw [if_pos hix, if_pos (by rw [show (i : Int) = x by omega]; exact List.mem_cons_self ..)]
        · rw [if_neg hix, if_neg (by
            intro hm
            rcases List.mem_cons.1 hm with hm | hm
            · omega
            · exact hi hm)]
    · cases h
/-- After the write of a mark. -/
theorem mark_ok {S : List (List UInt8)} {B l : List Int} {u : Bool} (h : (markW S B l u).2 = 0) :
    VolP S B ∧ (mapS S B).2 = 0 ∧ faultI S.length B (markW S B l u).1 = 0 ∧ ∃ t, (markW S B l u).1 = (18, t) ∧ VolP (putS S (18, t)) B ∧ freeN (putS S (18, t)) = freeN S ∧ mapS (putS S (18, t)) B = (t, 0) ∧ t.length = 128 ∧ ∀ i : Nat, bitB t i = if (i : Int) ∈ l then u else bitB (mapS S B).1 i := by
  unfold markW at h ⊢
  by_cases h1 : (mapS S B).2 = 0
  case neg => rw [if_neg h1] at h; exact absurd h h1
  rw [if_pos h1] at h ⊢
  obtain ⟨hv, hl⟩ := map_ok h1
  have hN := (freeN_eq hv).2
  generalize ht : markF (freeN S) u (mapS S B).1 l = r at h ⊢
  match r, ht with
  | none, _ => cases h
  | some t, ht =>
    obtain ⟨h2, h3⟩ := markF_ok (by omega) hl ht
    have hvb := vol_bounds hv
    have hB18 : (18 : Int) ∉ B := by
      intro hm
      unfold mapS at h1
      rw [if_pos hv] at h1
      unfold readS at h1
      rw [if_pos (by omega), if_pos hm] at h1
      exact absurd h1 (by simp)
    have hf : faultI S.length B (18, t) = 0 := faultI_zero.2 ⟨⟨by dsimp only; omega, by dsimp only; omega⟩, by dsimp only; omega, hB18⟩
    obtain ⟨hv', hsw⟩ := putS_vol (w := (18, t)) hv (by dsimp only; omega) (by dsimp only; omega)
    refine ⟨hv, h1, hf, t, rfl, hv', by unfold freeN; rw [hsw, putS_length], ?_, h2, h3⟩
    unfold mapS
    rw [if_pos hv', readS_put hf]
    simp [h2]
theorem freeL_mem {s : List UInt8} {n : Nat} {x : Int} (h : x ∈ freeL s n) : ∃ m : Nat, x = m ∧ 27 ≤ m ∧ m < 27 + n ∧ bitB s m = false := by
  unfold freeL at h
  obtain ⟨i, h1, rfl⟩ := List.mem_map.1 h
  obtain ⟨h2, h3⟩ := List.mem_filter.1 h1
  have := List.mem_range.1 h2
  exact ⟨27 + i, rfl, by omega, by omega, by simpa using h3⟩
theorem freeL_sorted (s : List UInt8) (n : Nat) : (freeL s n).Pairwise (· < ·) := by
  unfold freeL
  refine List.Pairwise.map _ (fun a b (h : a < b) => ?_) (List.Pairwise.filter _ List.pairwise_lt_range)
  omega

end Go.Abs

namespace Go.Abs
open Go.Proofs
set_option maxRecDepth 100000
set_option linter.unusedSimpArgs false
set_option linter.unusedVariables false

/-- The data of the last write of a sector. -/
def lastD (l : List (Int × List UInt8)) (k : Int) : List UInt8 := l.foldl (fun a w => if w.1 = k then w.2 else a) []
theorem lastD_take {l : List (Int × List UInt8)} {i : Nat} (h : i < l.length) (k : Int) : lastD (l.take (i + 1)) k = if l[i].1 = k then l[i].2 else lastD (l.take i) k := by
  unfold lastD
  rw [List.take_succ_eq_append_getElem h, List.foldl_append]
  rfl
def keysL (l : List (Int × List UInt8)) : List Int := wornK (l.map Prod.fst)
theorem keysL_take {l : List (Int × List UInt8)} {i : Nat} (h : i < l.length) : keysL (l.take (i + 1)) = if l[i].1 ∈ keysL (l.take i) then keysL (l.take i) else keysL (l.take i) ++ [l[i].1] := by
  unfold keysL
  have h' : i < (l.map Prod.fst).length := by simpa using h
  have := wornK_take h'
  simp only [List.map_take, List.getElem_map] at this ⊢
  exact this
theorem foldl_nodup : ∀ (B ks : List Int), ks.Nodup → (B.foldl (fun ks n => if n ∈ ks then ks else ks ++ [n]) ks).Nodup
  | [], ks, h => h
  | b :: B, ks, h => by
    rw [List.foldl_cons]
    refine foldl_nodup B _ ?_
    split
    · exact h
    · rename_i hn
      rw [List.nodup_append]
      refine ⟨h, by simp, fun a ha b' hb => ?_⟩
      rw [List.mem_singleton.1 hb]
      exact fun e => hn (e ▸ ha)
theorem keysL_nodup (l : List (Int × List UInt8)) : (keysL l).Nodup := foldl_nodup _ _ (by simp)
theorem mem_keysL {l : List (Int × List UInt8)} {k : Int} : k ∈ keysL l ↔ ∃ w ∈ l, w.1 = k := by
  unfold keysL
  rw [mem_worn]
  simp
theorem foldl_le : ∀ (B ks : List Int), (B.foldl (fun ks n => if n ∈ ks then ks else ks ++ [n]) ks).length ≤ ks.length + B.length
  | [], ks => by simp
  | b :: B, ks => by
    rw [List.foldl_cons]
    have := foldl_le B (if b ∈ ks then ks else ks ++ [b])
    rw [List.length_cons]
    split at this
    · rename_i h; simp only [h, if_true] at *; omega
    · rename_i h; simp only [h, if_false, List.length_append, List.length_singleton] at *; omega
theorem keysL_length (l : List (Int × List UInt8)) : (keysL l).length ≤ l.length := by
  have := foldl_le (l.map Prod.fst) []
  unfold keysL wornK
  simpa using this
/-- The last write of each sector, ascending. -/
def mergeL (l : List (Int × List UInt8)) : List (Int × List UInt8) := (sorted (keysL l)).map fun k => (k, lastD l k)
theorem mergeL_length (l : List (Int × List UInt8)) : (mergeL l).length = (keysL l).length := by simp [mergeL, sorted_length]

theorem findK_fun (k : Int) (f : Int → List UInt8) : ∀ (ks : List Int), findK (.int .i64 k) (ints ks) (ks.map fun c => .str (f c)) = some (if k ∈ ks then some (.str (f k)) else none)
  | [] => by simp [findK]
  | c :: ks => by
    simp only [List.map_cons, findK, sameKey]
    by_cases h : k = c
    · subst h; simp
    · have : (k == c) = false := by simpa using h
      simp only [if_true, this]
      have ih := findK_fun k f ks
      simp only [ints] at ih
      rw [ih]
      simp [h]
theorem setK_fun (k : Int) (s : List UInt8) (f : Int → List UInt8) : ∀ (ks : List Int), ks.Nodup → setK (.int .i64 k) (.str s) (ints ks) (ks.map fun c => .str (f c)) = ks.map fun c => .str (if k = c then s else f c)
  | [], _ => by simp [setK]
  | c :: ks, hn => by
    rw [List.nodup_cons] at hn
    simp only [List.map_cons, setK, sameKey]
    by_cases h : k = c
    · subst h
      simp
      intro a ha
      intro e
      exact absurd (e ▸ ha) hn.1
    · have : (k == c) = false := by simpa using h
      simp only [if_true, this]
      have ih := setK_fun k s f ks hn.2
      simp only [ints] at ih
      rw [ih]
      simp [h]

theorem Merge_eq (l : List (Int × List UInt8)) (hl : l.length ≤ 1000000) : bodyW DC 16 [.sl (l.map wrV)] [] = some (.own 0 (mergeL l).length 0 (mergeL l).length, [.dat true 2 ((mergeL l).map wrV)]) := by
  (refine gives_iff ?_; refine go_func Tryd.f16 rfl rfl (by simp [Tryd.f16]) ?_; dsimp only [codeL, Tryd.f16, scL, sopsL, guardL, dstAt, loopKey])
  (repeat (first
    | (apply is_ok; (case hw => simp); (case he => simp; exact is_rfl))
    | (apply op_no; (case hw => simp))
    | refine op_nil ?_ | refine next_normal ?_ | refine go_seq ?_ | refine go_region ?_ | refine go_skip ?_ | refine go_block ?_ | refine inb_normal ?_
    | (apply go_yes; (case hc => simp)) | (apply go_no; (case hc => simp))
    | refine go_exit ?_ | refine next_exit ?_ | refine inb_here ?_ | refine inb_past (by decide) ?_ | refine go_ret ?_ | refine next_ret ?_ | refine inb_ret ?_))
  refine go_count l.length (fun i => [(3, .map 0), (4, .own 1 (keysL (l.take i)).length 0 (keysL (l.take i)).length), (13, .sl (l.map wrV)), (14, .int .i64 l.length), (15, .int .i64 i)])
    (fun i => [.map true (ints (keysL (l.take i))) ((keysL (l.take i)).map fun c => .str (lastD (l.take i) c)), .dat true 1 (ints (keysL (l.take i)))]) (fun _ => True) (by simp [keysL, wornK]) trivial fun i hi _ => ?_
  have hw : IntKind.i64.wrap ((i : Int) + 1) = ((i + 1 : Nat) : Int) := wrap_id (by omega) (by omega)
  by_cases hlt : i < l.length
  · have hk := keysL_take hlt
    have hd := lastD_take hlt
    have hnd := keysL_nodup (l.take i)
    have hlen := keysL_length (l.take i)
    have hlen2 : (l.take i).length ≤ i := by rw [List.length_take]; omega
    have gx : l[i]? = some (l[i]'hlt) := List.getElem?_eq_getElem hlt
    generalize hx0 : l[i]'hlt = x at hk hd gx
    obtain ⟨k, s⟩ := x
    dsimp only at hk hd
    generalize l.take i = l0 at hk hd hnd hlen hlen2
    have hf := findK_fun k (lastD l0) (keysL l0)
    have hs := setK_fun k s (lastD l0) (keysL l0) hnd
    have r1 : ((keysL l0).length + 1) * 8 ≤ room := by unfold room; omega
    have r2 : (keysL l0).length + 1 ≤ room := by unfold room; omega
    by_cases hm : k ∈ keysL l0
    · rw [if_pos hm] at hf hk
      (repeat (first
    | (apply is_ok; (case hw => simp [hlt, gx, hx0, hf, hs]); (case he => simp [hlt, gx, hx0, hf, hs]; exact is_rfl))
    | (apply op_no; (case hw => simp [hlt, gx, hx0, hf, hs]))
    | refine op_nil ?_ | refine next_normal ?_ | refine go_seq ?_ | refine go_region ?_ | refine go_skip ?_ | refine go_block ?_ | refine inb_normal ?_
    | (apply go_yes; (case hc => simp [hlt, gx, hx0, hf, hs])) | (apply go_no; (case hc => simp [hlt, gx, hx0, hf, hs]))
    | refine go_exit ?_ | refine next_exit ?_ | refine inb_here ?_ | refine inb_past (by decide) ?_ | refine go_ret ?_ | refine next_ret ?_ | refine inb_ret ?_))
      exact ⟨hlt, by simp [hw, hk, hd], trivial⟩
    · rw [if_neg hm] at hf hk
      (repeat (first
    | (apply is_ok; (case hw => simp [hlt, gx, hx0, hf, hs, r1, r2]); (case he => simp [hlt, gx, hx0, hf, hs, r1, r2]; exact is_rfl))
    | (apply op_no; (case hw => simp [hlt, gx, hx0, hf, hs, r1, r2]))
    | refine op_nil ?_ | refine next_normal ?_ | refine go_seq ?_ | refine go_region ?_ | refine go_skip ?_ | refine go_block ?_ | refine inb_normal ?_
    | (apply go_yes; (case hc => simp [hlt, gx, hx0, hf, hs, r1, r2])) | (apply go_no; (case hc => simp [hlt, gx, hx0, hf, hs, r1, r2]))
    | refine go_exit ?_ | refine next_exit ?_ | refine inb_here ?_ | refine inb_past (by decide) ?_ | refine go_ret ?_ | refine next_ret ?_ | refine inb_ret ?_))
      refine ⟨hlt, ?_, trivial⟩
      have e : (keysL l0 ++ [k]).map (fun c => V.str (if k = c then s else lastD l0 c)) = (keysL l0).map (fun c => V.str (lastD l0 c)) ++ [V.str s] := by
        rw [List.map_append]
        congr 1
        · refine List.map_congr_left fun c hc => ?_
          rw [if_neg (fun h => hm (by rw [h]; exact hc))]
        · simp
      simp [hw, hk, hd, e]
  · have hin : i = l.length := by omega
    subst hin
    rw [List.take_length]
    have hkl := keysL_length l
    have hsl := sorted_length (keysL l)
    have r1 : (keysL l).length ≤ room := by unfold room; omega
    (repeat (first
    | (apply is_ok; (case hw => simp [r1, hsl]); (case he => simp [r1, hsl]; exact is_rfl))
    | (apply op_no; (case hw => simp [r1, hsl]))
    | refine op_nil ?_ | refine next_normal ?_ | refine go_seq ?_ | refine go_region ?_ | refine go_skip ?_ | refine go_block ?_ | refine inb_normal ?_
    | (apply go_yes; (case hc => simp [r1, hsl])) | (apply go_no; (case hc => simp [r1, hsl]))
    | refine go_exit ?_ | refine next_exit ?_ | refine inb_here ?_ | refine inb_past (by decide) ?_ | refine go_ret ?_ | refine next_ret ?_ | refine inb_ret ?_))
    rw [← hsl]
    have hmem : ∀ k ∈ sorted (keysL l), k ∈ keysL l := fun k h => sorted_mem.1 h
    have hmg : mergeL l = (sorted (keysL l)).map fun k => (k, lastD l k) := rfl
    generalize sorted (keysL l) = ks at hsl hmem hmg
    refine go_count ks.length (fun i => [(3, .map 0), (9, .own 1 i 0 i), (41, .own 2 ks.length 0 ks.length), (42, .int .i64 ks.length), (43, .int .i64 i)])
      (fun i => [.map true (ints (keysL l)) ((keysL l).map fun c => .str (lastD l c)), .dat true 2 (((ks.take i).map fun k => (k, lastD l k)).map wrV), .dat true 1 (ints ks)]) (fun _ => True) (by simp) trivial fun i hi _ => ?_
    have hw : IntKind.i64.wrap ((i : Int) + 1) = ((i + 1 : Nat) : Int) := wrap_id (by omega) (by omega)
    by_cases hlt : i < ks.length
    · have hx := hmem _ (List.getElem_mem hlt)
      have ht := List.take_succ_eq_append_getElem hlt
      have gx : ks[i]? = some (ks[i]'hlt) := List.getElem?_eq_getElem hlt
      generalize hx0 : ks[i]'hlt = x at hx ht gx
      have hf := findK_fun x (lastD l) (keysL l)
      rw [if_pos hx] at hf
      have r2 : (i + 1) * 24 ≤ room := by unfold room; omega
      have r3 : i + 1 ≤ room := by unfold room; omega
      have r4 : min i ks.length = i := by omega
      (repeat (first
    | (apply is_ok; (case hw => simp [hlt, gx, hx0, hf, r2, r3, r4]); (case he => simp [hlt, gx, hx0, hf, r2, r3, r4]; exact is_rfl))
    | (apply op_no; (case hw => simp [hlt, gx, hx0, hf, r2, r3, r4]))
    | refine op_nil ?_ | refine next_normal ?_ | refine go_seq ?_ | refine go_region ?_ | refine go_skip ?_ | refine go_block ?_ | refine inb_normal ?_
    | (apply go_yes; (case hc => simp [hlt, gx, hx0, hf, r2, r3, r4])) | (apply go_no; (case hc => simp [hlt, gx, hx0, hf, r2, r3, r4]))
    | refine go_exit ?_ | refine next_exit ?_ | refine inb_here ?_ | refine inb_past (by decide) ?_ | refine go_ret ?_ | refine next_ret ?_ | refine inb_ret ?_))
      exact ⟨hlt, by simp [hw, ht], trivial⟩
    · have hin : i = ks.length := by omega
      subst hin
      rw [List.take_length, ← hmg]
      have hml : (mergeL l).length = ks.length := by rw [hmg]; simp
      (repeat (first
    | (apply is_ok; (case hw => simp); (case he => simp; exact is_rfl))
    | (apply op_no; (case hw => simp))
    | refine op_nil ?_ | refine next_normal ?_ | refine go_seq ?_ | refine go_region ?_ | refine go_skip ?_ | refine go_block ?_ | refine inb_normal ?_
    | (apply go_yes; (case hc => simp)) | (apply go_no; (case hc => simp))
    | refine go_exit ?_ | refine next_exit ?_ | refine inb_here ?_ | refine inb_past (by decide) ?_ | refine go_ret ?_ | refine next_ret ?_ | refine inb_ret ?_))
      (apply ends_ok; (case h1 => simp; exact is_rfl); (case h2 => simp; exact is_rfl))
      simp [hml]
end Go.Abs

namespace Go.Abs
open Go.Proofs
set_option maxRecDepth 100000
set_option linter.unusedSimpArgs false
set_option linter.unusedVariables false

theorem blank_pad : bodyW DC 23 [] [] = some (.str (padS []), []) := by
  have h := padded_eq [] (by simp)
  (refine gives_iff ?_; refine go_func Tryd.f23 rfl rfl (by simp [Tryd.f23]) ?_; dsimp only [codeL, Tryd.f23, scL, sopsL, guardL, dstAt, loopKey])
  (repeat (first
    | (apply is_ok; (case hw => simp [h]); (case he => simp [h]; exact is_rfl))
    | (apply op_no; (case hw => simp [h]))
    | refine op_nil ?_ | refine next_normal ?_ | refine go_seq ?_ | refine go_region ?_ | refine go_skip ?_ | refine go_block ?_ | refine inb_normal ?_
    | (apply go_yes; (case hc => simp [h])) | (apply go_no; (case hc => simp [h]))
    | refine go_exit ?_ | refine next_exit ?_ | refine inb_here ?_ | refine inb_past (by decide) ?_ | refine go_ret ?_ | refine next_ret ?_ | refine inb_ret ?_))
  (apply ends_ok; (case h1 => simp; exact is_rfl); (case h2 => simp; exact is_rfl))
  simp
def CleanP (S : List (List UInt8)) (B : List Int) : Prop := VolP S B ∧ (1 : Int) ∉ B ∧ S.getD 1 [] = padS []
instance (S : List (List UInt8)) (B : List Int) : Decidable (CleanP S B) := by unfold CleanP; infer_instance
theorem Clean_eq (S : List (List UInt8)) (B : List Int) (hB : B.length ≤ maxLen) : bodyW DC 15 [drv S B] [] = some (.bool (decide (CleanP S B)), []) := by
  obtain ⟨w, hs, hw⟩ := swapping_eq S B hB
  by_cases hv : VolP S B
  case neg =>
    rw [decide_eq_false hv] at hs
    rw [decide_eq_false (fun h => hv h.1)]
    (refine gives_iff ?_; refine go_func Tryd.f15 rfl rfl (by simp [Tryd.f15]) ?_; dsimp only [codeL, Tryd.f15, scL, sopsL, guardL, dstAt, loopKey])
    (repeat (first
    | (apply is_ok; (case hw => simp [hs]); (case he => simp [hs]; exact is_rfl))
    | (apply op_no; (case hw => simp [hs]))
    | refine op_nil ?_ | refine next_normal ?_ | refine go_seq ?_ | refine go_region ?_ | refine go_skip ?_ | refine go_block ?_ | refine inb_normal ?_
    | (apply go_yes; (case hc => simp [hs])) | (apply go_no; (case hc => simp [hs]))
    | refine go_exit ?_ | refine next_exit ?_ | refine inb_here ?_ | refine inb_past (by decide) ?_ | refine go_ret ?_ | refine next_ret ?_ | refine inb_ret ?_))
    (apply ends_ok; (case h1 => simp; exact is_rfl); (case h2 => simp; exact is_rfl))
    simp
  rw [decide_eq_true hv] at hs
  have hR := Read_eq S B hB 1
  have hb := blank_pad
  have hl := (vol_bounds hv).1
  by_cases h1 : (1 : Int) ∈ B
  · have e : readS S B 1 = ([], 21) := by unfold readS; rw [if_pos (by omega), if_pos h1]
    rw [e] at hR
    rw [decide_eq_false (fun h => h.2.1 h1)]
    (refine gives_iff ?_; refine go_func Tryd.f15 rfl rfl (by simp [Tryd.f15]) ?_; dsimp only [codeL, Tryd.f15, scL, sopsL, guardL, dstAt, loopKey])
    (repeat (first
    | (apply is_ok; (case hw => simp [hs, hR, hb]); (case he => simp [hs, hR, hb]; exact is_rfl))
    | (apply op_no; (case hw => simp [hs, hR, hb]))
    | refine op_nil ?_ | refine next_normal ?_ | refine go_seq ?_ | refine go_region ?_ | refine go_skip ?_ | refine go_block ?_ | refine inb_normal ?_
    | (apply go_yes; (case hc => simp [hs, hR, hb])) | (apply go_no; (case hc => simp [hs, hR, hb]))
    | refine go_exit ?_ | refine next_exit ?_ | refine inb_here ?_ | refine inb_past (by decide) ?_ | refine go_ret ?_ | refine next_ret ?_ | refine inb_ret ?_))
    (apply ends_ok; (case h1 => simp; exact is_rfl); (case h2 => simp; exact is_rfl))
    simp
  · have e : readS S B 1 = (S.getD 1 [], 0) := by unfold readS; rw [if_pos (by omega), if_neg h1]; rfl
    rw [e] at hR
    have hd : decide (CleanP S B) = (S.getD 1 [] == padS []) := by
      rw [Bool.eq_iff_iff]
      simp [CleanP, hv, h1]
    rw [hd]
    generalize padS [] = p at hb
    generalize S.getD 1 [] = q at hR
    (refine gives_iff ?_; refine go_func Tryd.f15 rfl rfl (by simp [Tryd.f15]) ?_; dsimp only [codeL, Tryd.f15, scL, sopsL, guardL, dstAt, loopKey])
    (repeat (first
    | (apply is_ok; (case hw => simp [hs, hR, hb]); (case he => simp [hs, hR, hb]; exact is_rfl))
    | (apply op_no; (case hw => simp [hs, hR, hb]))
    | refine op_nil ?_ | refine next_normal ?_ | refine go_seq ?_ | refine go_region ?_ | refine go_skip ?_ | refine go_block ?_ | refine inb_normal ?_
    | (apply go_yes; (case hc => simp [hs, hR, hb])) | (apply go_no; (case hc => simp [hs, hR, hb]))
    | refine go_exit ?_ | refine next_exit ?_ | refine inb_here ?_ | refine inb_past (by decide) ?_ | refine go_ret ?_ | refine next_ret ?_ | refine inb_ret ?_))
    (apply ends_ok; (case h1 => simp; exact is_rfl); (case h2 => simp; exact is_rfl))
    simp
theorem ofFiles_eq (S : List (List UInt8)) (B : List Int) (hB : B.length ≤ maxLen) (hv : VolP S B) (k : Int) : bodyW DC 28 [drv S B, .int .i64 k] [] = some (.bool (decide (18 ≤ k ∧ k < S.length - swapW S)), []) := by
  obtain ⟨w, hs, hw⟩ := swapping_eq S B hB
  obtain rfl := hw hv
  rw [decide_eq_true hv] at hs
  have hb := vol_bounds hv
  have f1 : IntKind.i64.wrap ((S.length : Int) - swapW S) = S.length - swapW S := wrap_id (by omega) (by omega)
  by_cases h1 : 18 ≤ k
  · (refine gives_iff ?_; refine go_func Tryd.f28 rfl rfl (by simp [Tryd.f28]) ?_; dsimp only [codeL, Tryd.f28, scL, sopsL, guardL, dstAt, loopKey])
    (repeat (first
    | (apply is_ok; (case hw => simp [hs, h1, f1]); (case he => simp [hs, h1, f1]; exact is_rfl))
    | (apply op_no; (case hw => simp [hs, h1, f1]))
    | refine op_nil ?_ | refine next_normal ?_ | refine go_seq ?_ | refine go_region ?_ | refine go_skip ?_ | refine go_block ?_ | refine inb_normal ?_
    | (apply go_yes; (case hc => simp [hs, h1, f1])) | (apply go_no; (case hc => simp [hs, h1, f1]))
    | refine go_exit ?_ | refine next_exit ?_ | refine inb_here ?_ | refine inb_past (by decide) ?_ | refine go_ret ?_ | refine next_ret ?_ | refine inb_ret ?_))
    (apply ends_ok; (case h1 => simp; exact is_rfl); (case h2 => simp; exact is_rfl))
    simp [h1]
  · (refine gives_iff ?_; refine go_func Tryd.f28 rfl rfl (by simp [Tryd.f28]) ?_; dsimp only [codeL, Tryd.f28, scL, sopsL, guardL, dstAt, loopKey])
    (repeat (first
    | (apply is_ok; (case hw => simp [hs, h1]); (case he => simp [hs, h1]; exact is_rfl))
    | (apply op_no; (case hw => simp [hs, h1]))
    | refine op_nil ?_ | refine next_normal ?_ | refine go_seq ?_ | refine go_region ?_ | refine go_skip ?_ | refine go_block ?_ | refine inb_normal ?_
    | (apply go_yes; (case hc => simp [hs, h1])) | (apply go_no; (case hc => simp [hs, h1]))
    | refine go_exit ?_ | refine next_exit ?_ | refine inb_here ?_ | refine inb_past (by decide) ?_ | refine go_ret ?_ | refine next_ret ?_ | refine inb_ret ?_))
    (apply ends_ok; (case h1 => simp; exact is_rfl); (case h2 => simp; exact is_rfl))
    simp [h1]

/-- What is wrong with the first wrong write. -/
def wrongI (n : Int) : List (Int × List UInt8) → Int
  | [] => 0
  | w :: l => if 18 ≤ w.1 ∧ w.1 < n then if 128 < w.2.length then 7 else wrongI n l else 2
theorem wrongI_at {n : Int} {l : List (Int × List UInt8)} {i : Nat} (h : i < l.length) : wrongI n (l.drop i) = if 18 ≤ l[i].1 ∧ l[i].1 < n then if 128 < l[i].2.length then 7 else wrongI n (l.drop (i + 1)) else 2 := by
  rw [List.drop_eq_getElem_cons h, wrongI]
def padW (w : Int × List UInt8) : Int × List UInt8 := (w.1, padS w.2)
def logL (l : List (Int × List UInt8)) : List (Int × List UInt8) := (List.range l.length).map fun i : Nat => (2 + (i : Int), padS (l.getD i (0, [])).2)
def headL (l : List (Int × List UInt8)) : List UInt8 := put2 l.length ++ l.flatMap fun w => put2 w.1
/-- The writes of a transaction. -/
def planL (m : List (Int × List UInt8)) : List (Int × List UInt8) := logL m ++ ((1, padS (headL m)) :: (m.map padW ++ [(1, padS [])]))
def planS (S : List (List UInt8)) (B : List Int) (l : List (Int × List UInt8)) : List (Int × List UInt8) × Int :=
  if VolP S B then if CleanP S B then if wrongI (S.length - swapW S) l = 0 then
    if 16 < (mergeL l).length then ([], 12) else if (mergeL l).length = 0 then ([], 0) else (planL (mergeL l), 0)
  else ([], wrongI (S.length - swapW S) l) else ([], 11) else ([], 9)

theorem foldl_none {k : Int} : ∀ {l : List (Int × List UInt8)} {a : List UInt8}, (∀ w ∈ l, w.1 ≠ k) → l.foldl (fun a w => if w.1 = k then w.2 else a) a = a
  | [], a, _ => rfl
  | w :: l, a, h => by
    rw [List.foldl_cons, if_neg (h w (List.mem_cons_self ..))]
    exact foldl_none fun w hw => h w (List.mem_cons_of_mem _ hw)
theorem foldl_last {k : Int} : ∀ {l : List (Int × List UInt8)} {a : List UInt8}, (∃ w ∈ l, w.1 = k) → (k, l.foldl (fun a w => if w.1 = k then w.2 else a) a) ∈ l
  | [], a, h => by simp at h
  | w :: l, a, h => by
    rw [List.foldl_cons]
    by_cases hl : ∃ w ∈ l, w.1 = k
    · exact List.mem_cons_of_mem _ (foldl_last hl)
    · rw [foldl_none (fun w hw e => hl ⟨w, hw, e⟩)]
      obtain ⟨w', hw', e⟩ := h
      rcases List.mem_cons.1 hw' with rfl | hw'
      · rw [if_pos e, ← e]
        exact List.mem_cons_self ..
      · exact absurd ⟨w', hw', e⟩ hl
theorem mergeL_sub {l : List (Int × List UInt8)} {w : Int × List UInt8} (h : w ∈ mergeL l) : w ∈ l := by
  unfold mergeL at h
  obtain ⟨k, hk, rfl⟩ := List.mem_map.1 h
  have hk' : k ∈ keysL l := sorted_mem.1 hk
  exact foldl_last (mem_keysL.1 hk')
theorem wrongI_ok {n : Int} : ∀ {l : List (Int × List UInt8)}, wrongI n l = 0 → ∀ w ∈ l, 18 ≤ w.1 ∧ w.1 < n ∧ w.2.length ≤ 128
  | [], _, w, hw => by simp at hw
  | x :: l, h, w, hw => by
    rw [wrongI] at h
    split at h
    · rename_i h1
      split at h
      · cases h
      · rename_i h2
        rcases List.mem_cons.1 hw with rfl | hw
        · exact ⟨h1.1, h1.2, by omega⟩
        · exact wrongI_ok h w hw
    · cases h
theorem logL_take {m : List (Int × List UInt8)} {i : Nat} (h : i < m.length) : (logL m).take (i + 1) = (logL m).take i ++ [(2 + (i : Int), padS (m[i]'h).2)] := by
  have hl : i < (logL m).length := by simpa [logL] using h
  rw [List.take_succ_eq_append_getElem hl]
  simp [logL, h]
theorem headL_take {m : List (Int × List UInt8)} {i : Nat} (h : i < m.length) : put2 m.length ++ (m.take (i + 1)).flatMap (fun w => put2 w.1) = (put2 m.length ++ (m.take i).flatMap (fun w => put2 w.1)) ++ put2 (m[i]'h).1 := by
  rw [List.take_succ_eq_append_getElem h, List.flatMap_append]
  simp

theorem flat_len : ∀ l : List (Int × List UInt8), (l.flatMap fun w => put2 w.1).length = 2 * l.length
  | [] => rfl
  | w :: l => by rw [List.flatMap_cons, List.length_append, put2_length, flat_len l, List.length_cons]; omega
theorem rooms {n : Nat} (h : n ≤ 16) : (n + 1) * 24 ≤ room ∧ n + 1 ≤ room ∧ (n + 1 + n) * 24 ≤ room ∧ n + 1 + n ≤ room ∧ (n + 1 + n + 1) * 24 ≤ room ∧ n + 1 + n + 1 ≤ room := by
  unfold room
  omega
set_option maxHeartbeats 40000000 in
theorem Plan_eq (S : List (List UInt8)) (B : List Int) (hB : B.length ≤ maxLen) (l : List (Int × List UInt8)) (hl : l.length ≤ 1000000) (hX : In64 (l.map Prod.fst)) :
    bodyW DC 13 [drv S B, .sl (l.map wrV)] [] = some (.tuple [.own 0 (planS S B l).1.length 0 (planS S B l).1.length, .int .i64 (planS S B l).2], [.dat true 2 ((planS S B l).1.map wrV)]) := by
  obtain ⟨w, hs, hw⟩ := swapping_eq S B hB
  have hC := Clean_eq S B hB
  unfold planS
  by_cases hv : VolP S B
  case neg =>
    rw [decide_eq_false hv] at hs
    rw [if_neg hv]
    (refine gives_iff ?_; refine go_func Tryd.f13 rfl rfl (by simp [Tryd.f13]) ?_; dsimp only [codeL, Tryd.f13, scL, sopsL, guardL, dstAt, loopKey])
    (repeat (first
    | (apply is_ok; (case hw => simp [hs]); (case he => simp [hs]; exact is_rfl))
    | (apply op_no; (case hw => simp [hs]))
    | refine op_nil ?_ | refine next_normal ?_ | refine go_seq ?_ | refine go_region ?_ | refine go_skip ?_ | refine go_block ?_ | refine inb_normal ?_
    | (apply go_yes; (case hc => simp [hs])) | (apply go_no; (case hc => simp [hs]))
    | refine go_exit ?_ | refine next_exit ?_ | refine inb_here ?_ | refine inb_past (by decide) ?_ | refine go_ret ?_ | refine next_ret ?_ | refine inb_ret ?_))
    (apply ends_ok; (case h1 => simp; exact is_rfl); (case h2 => simp; exact is_rfl))
    simp
  rw [if_pos hv]
  rw [decide_eq_true hv] at hs
  by_cases hc : CleanP S B
  case neg =>
    rw [decide_eq_false hc] at hC
    rw [if_neg hc]
    (refine gives_iff ?_; refine go_func Tryd.f13 rfl rfl (by simp [Tryd.f13]) ?_; dsimp only [codeL, Tryd.f13, scL, sopsL, guardL, dstAt, loopKey])
    (repeat (first
    | (apply is_ok; (case hw => simp [hs, hC]); (case he => simp [hs, hC]; exact is_rfl))
    | (apply op_no; (case hw => simp [hs, hC]))
    | refine op_nil ?_ | refine next_normal ?_ | refine go_seq ?_ | refine go_region ?_ | refine go_skip ?_ | refine go_block ?_ | refine inb_normal ?_
    | (apply go_yes; (case hc => simp [hs, hC])) | (apply go_no; (case hc => simp [hs, hC]))
    | refine go_exit ?_ | refine next_exit ?_ | refine inb_here ?_ | refine inb_past (by decide) ?_ | refine go_ret ?_ | refine next_ret ?_ | refine inb_ret ?_))
    (apply ends_ok; (case h1 => simp; exact is_rfl); (case h2 => simp; exact is_rfl))
    simp
  rw [if_pos hc]
  rw [decide_eq_true hc] at hC
  have hO := ofFiles_eq S B hB hv
  have hb := vol_bounds hv
  have hn : (S.length : Int) - swapW S ≤ 256 := by omega
  generalize (S.length : Int) - swapW S = n at hO hn
  have hM := Merge_eq l hl
  have hlen : (mergeL l).length ≤ l.length := by rw [mergeL_length]; exact keysL_length l
  generalize hR : wrongI n l = R
  (refine gives_iff ?_; refine go_func Tryd.f13 rfl rfl (by simp [Tryd.f13]) ?_; dsimp only [codeL, Tryd.f13, scL, sopsL, guardL, dstAt, loopKey])
  (repeat (first
    | (apply is_ok; (case hw => simp [hs, hC]); (case he => simp [hs, hC]; exact is_rfl))
    | (apply op_no; (case hw => simp [hs, hC]))
    | refine op_nil ?_ | refine next_normal ?_ | refine go_seq ?_ | refine go_region ?_ | refine go_skip ?_ | refine go_block ?_ | refine inb_normal ?_
    | (apply go_yes; (case hc => simp [hs, hC])) | (apply go_no; (case hc => simp [hs, hC]))
    | refine go_exit ?_ | refine next_exit ?_ | refine inb_here ?_ | refine inb_past (by decide) ?_ | refine go_ret ?_ | refine next_ret ?_ | refine inb_ret ?_))
  refine go_count l.length (fun i => [(1, .sl (l.map wrV)), (2, .ptr 0 1 0 0), (24, .sl (l.map wrV)), (25, .int .i64 l.length), (26, .int .i64 i)])
    (fun i => [.box (drv S B)]) (fun i => wrongI n (l.drop i) = R) (by simp) (by simpa using hR) fun i hi hI => ?_
  have hw' : IntKind.i64.wrap ((i : Int) + 1) = ((i + 1 : Nat) : Int) := wrap_id (by omega) (by omega)
  by_cases hlt : i < l.length
  · rw [wrongI_at hlt] at hI
    have gx : l[i]? = some (l[i]'hlt) := List.getElem?_eq_getElem hlt
    generalize hx0 : l[i]'hlt = x at hI gx
    obtain ⟨k, s⟩ := x
    dsimp only at hI
    have hOk := hO k
    by_cases h1 : 18 ≤ k ∧ k < n
    · rw [if_pos h1] at hI
      rw [decide_eq_true h1] at hOk
      by_cases h2 : 128 < s.length
      · rw [if_pos h2] at hI
        have h2' : (128 : Int) < s.length := by omega
        subst hI
        (repeat (first
    | (apply is_ok; (case hw => simp [hlt, gx, hx0, hOk, h2']); (case he => simp [hlt, gx, hx0, hOk, h2']; exact is_rfl))
    | (apply op_no; (case hw => simp [hlt, gx, hx0, hOk, h2']))
    | refine op_nil ?_ | refine next_normal ?_ | refine go_seq ?_ | refine go_region ?_ | refine go_skip ?_ | refine go_block ?_ | refine inb_normal ?_
    | (apply go_yes; (case hc => simp [hlt, gx, hx0, hOk, h2'])) | (apply go_no; (case hc => simp [hlt, gx, hx0, hOk, h2']))
    | refine go_exit ?_ | refine next_exit ?_ | refine inb_here ?_ | refine inb_past (by decide) ?_ | refine go_ret ?_ | refine next_ret ?_ | refine inb_ret ?_))
        (apply ends_ok; (case h1 => simp; exact is_rfl); (case h2 => simp; exact is_rfl))
        simp
      · rw [if_neg h2] at hI
        have h2' : ¬ (128 : Int) < s.length := by omega
        (repeat (first
    | (apply is_ok; (case hw => simp [hlt, gx, hx0, hOk, h2']); (case he => simp [hlt, gx, hx0, hOk, h2']; exact is_rfl))
    | (apply op_no; (case hw => simp [hlt, gx, hx0, hOk, h2']))
    | refine op_nil ?_ | refine next_normal ?_ | refine go_seq ?_ | refine go_region ?_ | refine go_skip ?_ | refine go_block ?_ | refine inb_normal ?_
    | (apply go_yes; (case hc => simp [hlt, gx, hx0, hOk, h2'])) | (apply go_no; (case hc => simp [hlt, gx, hx0, hOk, h2']))
    | refine go_exit ?_ | refine next_exit ?_ | refine inb_here ?_ | refine inb_past (by decide) ?_ | refine go_ret ?_ | refine next_ret ?_ | refine inb_ret ?_))
        exact ⟨hlt, by simp [hw'], hI⟩
    · rw [if_neg h1] at hI
      rw [decide_eq_false h1] at hOk
      subst hI
      (repeat (first
    | (apply is_ok; (case hw => simp [hlt, gx, hx0, hOk]); (case he => simp [hlt, gx, hx0, hOk]; exact is_rfl))
    | (apply op_no; (case hw => simp [hlt, gx, hx0, hOk]))
    | refine op_nil ?_ | refine next_normal ?_ | refine go_seq ?_ | refine go_region ?_ | refine go_skip ?_ | refine go_block ?_ | refine inb_normal ?_
    | (apply go_yes; (case hc => simp [hlt, gx, hx0, hOk])) | (apply go_no; (case hc => simp [hlt, gx, hx0, hOk]))
    | refine go_exit ?_ | refine next_exit ?_ | refine inb_here ?_ | refine inb_past (by decide) ?_ | refine go_ret ?_ | refine next_ret ?_ | refine inb_ret ?_))
      (apply ends_ok; (case h1 => simp; exact is_rfl); (case h2 => simp; exact is_rfl))
      simp
  · rw [List.drop_eq_nil_of_le (by omega), wrongI] at hI
    rw [← hI] at hR ⊢
    rw [if_pos rfl]
    have hall := fun w hw => wrongI_ok hR w (mergeL_sub hw)
    generalize mergeL l = m at hM hlen hall
    by_cases h16 : 16 < m.length
    · rw [if_pos h16]
      have h16' : (16 : Int) < m.length := by omega
      (repeat (first
    | (apply is_ok; (case hw => simp [hlt, hM, h16']); (case he => simp [hlt, hM, h16']; exact is_rfl))
    | (apply op_no; (case hw => simp [hlt, hM, h16']))
    | refine op_nil ?_ | refine next_normal ?_ | refine go_seq ?_ | refine go_region ?_ | refine go_skip ?_ | refine go_block ?_ | refine inb_normal ?_
    | (apply go_yes; (case hc => simp [hlt, hM, h16'])) | (apply go_no; (case hc => simp [hlt, hM, h16']))
    | refine go_exit ?_ | refine next_exit ?_ | refine inb_here ?_ | refine inb_past (by decide) ?_ | refine go_ret ?_ | refine next_ret ?_ | refine inb_ret ?_))
      (apply ends_ok; (case h1 => simp; exact is_rfl); (case h2 => simp; exact is_rfl))
      simp
    rw [if_neg h16]
    have h16' : ¬ (16 : Int) < m.length := by omega
    by_cases h0 : m.length = 0
    · rw [if_pos h0]
      (repeat (first
    | (apply is_ok; (case hw => simp [hlt, hM, h0]); (case he => simp [hlt, hM, h0]; exact is_rfl))
    | (apply op_no; (case hw => simp [hlt, hM, h0]))
    | refine op_nil ?_ | refine next_normal ?_ | refine go_seq ?_ | refine go_region ?_ | refine go_skip ?_ | refine go_block ?_ | refine inb_normal ?_
    | (apply go_yes; (case hc => simp [hlt, hM, h0])) | (apply go_no; (case hc => simp [hlt, hM, h0]))
    | refine go_exit ?_ | refine next_exit ?_ | refine inb_here ?_ | refine inb_past (by decide) ?_ | refine go_ret ?_ | refine next_ret ?_ | refine inb_ret ?_))
      (apply ends_ok; (case h1 => simp; exact is_rfl); (case h2 => simp; exact is_rfl))
      simp
    rw [if_neg h0]
    have hP := Put_eq (m.length : Int) (by omega)
    (repeat (first
    | (apply is_ok; (case hw => simp [hlt, hM, h16', h0, hP]); (case he => simp [hlt, hM, h16', h0, hP]; exact is_rfl))
    | (apply op_no; (case hw => simp [hlt, hM, h16', h0, hP]))
    | refine op_nil ?_ | refine next_normal ?_ | refine go_seq ?_ | refine go_region ?_ | refine go_skip ?_ | refine go_block ?_ | refine inb_normal ?_
    | (apply go_yes; (case hc => simp [hlt, hM, h16', h0, hP])) | (apply go_no; (case hc => simp [hlt, hM, h16', h0, hP]))
    | refine go_exit ?_ | refine next_exit ?_ | refine inb_here ?_ | refine inb_past (by decide) ?_ | refine go_ret ?_ | refine next_ret ?_ | refine inb_ret ?_))
    refine go_count m.length (fun i => [(10, .own 0 m.length 0 m.length), (11, .own 1 i 0 i), (12, .str (put2 m.length ++ (m.take i).flatMap (fun w => put2 w.1))), (54, .int .i64 m.length), (55, .int .i64 i)])
      (fun i => [.dat true 2 (((m.take i).map padW ++ m.drop i).map wrV), .dat true 2 (((logL m).take i).map wrV)]) (fun _ => True) (by simp) trivial fun i hi _ => ?_
    have hw' : IntKind.i64.wrap ((i : Int) + 1) = ((i + 1 : Nat) : Int) := wrap_id (by omega) (by omega)
    have hw2 : IntKind.i64.wrap (2 + (i : Int)) = 2 + (i : Int) := wrap_id (by omega) (by omega)
    have hll : (logL m).length = m.length := by simp [logL]
    by_cases hlt : i < m.length
    · have hx := hall _ (List.getElem_mem hlt)
      have hA0 : ∀ h, ((m.take i).map padW ++ m.drop i)[i]'h = m[i]'hlt := fun h => by
        rw [List.getElem_append_right (by rw [List.length_map, List.length_take]; omega), List.getElem_drop]
        congr 1
        rw [List.length_map, List.length_take]
        omega
      have hAl : ((m.take i).map padW ++ m.drop i).length = m.length := by rw [List.length_append, List.length_map, List.length_take, List.length_drop]; omega
      have hAs : ((m.take i).map padW ++ m.drop i).set i (padW (m[i]'hlt)) = (m.take (i + 1)).map padW ++ m.drop (i + 1) := by
        rw [List.drop_eq_getElem_cons hlt, List.set_append_right _ _ (by rw [List.length_map, List.length_take]; omega), List.take_succ_eq_append_getElem hlt, List.map_append]
        rw [show i - ((m.take i).map padW).length = 0 by rw [List.length_map, List.length_take]; omega]
        simp only [List.map_cons, List.map_nil, List.append_assoc, List.cons_append, List.nil_append, List.set_cons_zero]
      have hlt2 := logL_take hlt
      have hht := headL_take hlt
      generalize (m.take i).map padW ++ m.drop i = A at hA0 hAl hAs
      generalize m[i]'hlt = x at hx hA0 hAs hlt2 hht
      obtain ⟨k, s⟩ := x
      dsimp only at hx hlt2 hht
      have hPd := padded_eq s hx.2.2
      have hPu := Put_eq k (by omega)
      have hll2 : ((logL m).take i).length = i := by rw [List.length_take]; omega
      generalize (logL m).take i = G at hlt2 hll2
      generalize hhd : put2 m.length ++ (m.take i).flatMap (fun w => put2 w.1) = hd at hht
      have hhl : hd.length = 2 + 2 * i := by
        rw [← hhd, List.length_append, put2_length, flat_len, List.length_take]
        omega
      have r1 : (i + 1) * 24 ≤ room := by unfold room; omega
      have r2 : i + 1 ≤ room := by unfold room; omega
      have r3 : 2 + 2 * i + 2 ≤ room := by unfold room; omega
      rw [hlt2, hht, ← hAs]
      (repeat (first
    | (apply is_ok; (case hw => simp [hlt, hA0, hAl, hPd, hPu, hw2, hll2, hhl, r1, r2, r3]); (case he => simp [hlt, hA0, hAl, hPd, hPu, hw2, hll2, hhl, r1, r2, r3]; exact is_rfl))
    | (apply op_no; (case hw => simp [hlt, hA0, hAl, hPd, hPu, hw2, hll2, hhl, r1, r2, r3]))
    | refine op_nil ?_ | refine next_normal ?_ | refine go_seq ?_ | refine go_region ?_ | refine go_skip ?_ | refine go_block ?_ | refine inb_normal ?_
    | (apply go_yes; (case hc => simp [hlt, hA0, hAl, hPd, hPu, hw2, hll2, hhl, r1, r2, r3])) | (apply go_no; (case hc => simp [hlt, hA0, hAl, hPd, hPu, hw2, hll2, hhl, r1, r2, r3]))
    | refine go_exit ?_ | refine next_exit ?_ | refine inb_here ?_ | refine inb_past (by decide) ?_ | refine go_ret ?_ | refine next_ret ?_ | refine inb_ret ?_))
      refine ⟨hlt, ?_, trivial⟩
      simp [hw', padW, List.map_set, hAl]
    · have hin : i = m.length := by omega
      subst hin
      rw [List.take_length, List.drop_length, List.append_nil, show (logL m).take m.length = logL m by rw [← hll, List.take_length]]
      have hhl : (headL m).length ≤ 128 := by unfold headL; rw [List.length_append, put2_length, flat_len]; omega
      have hPd := padded_eq _ hhl
      have hbl := blank_pad
      have hml : (m.map padW).length = m.length := by simp
      show Go1 DC _ _ _ _ _ _
      rw [show put2 (m.length : Int) ++ m.flatMap (fun w => put2 w.1) = headL m from rfl]
      have hpl : (planL m).length = 2 * m.length + 2 := by unfold planL; rw [List.length_append, List.length_cons, List.length_append, hml, hll]; simp; omega
      unfold planL at hpl ⊢
      generalize logL m = L at hll hpl ⊢
      generalize m.map padW = D at hml hpl ⊢
      generalize padS (headL m) = hd at hPd
      generalize padS [] = zz at hbl
      obtain ⟨r1, r2, r3, r4, r5, r6⟩ := rooms (Nat.le_of_not_lt h16)
      have hq : m.length + (m.length + 1) = m.length + 1 + m.length := by rw [← Nat.add_assoc, Nat.add_right_comm]
      have hq2 : m.length + (m.length + 1 + 1) = m.length + 1 + m.length + 1 := by rw [← Nat.add_assoc, hq]
      (repeat (first
    | (apply is_ok; (case hw => simp [hPd, hbl, hll, hml, r1, r2, r3, r4, r5, r6, hq]); (case he => simp [hPd, hbl, hll, hml, r1, r2, r3, r4, r5, r6, hq]; exact is_rfl))
    | (apply op_no; (case hw => simp [hPd, hbl, hll, hml, r1, r2, r3, r4, r5, r6, hq]))
    | refine op_nil ?_ | refine next_normal ?_ | refine go_seq ?_ | refine go_region ?_ | refine go_skip ?_ | refine go_block ?_ | refine inb_normal ?_
    | (apply go_yes; (case hc => simp [hPd, hbl, hll, hml, r1, r2, r3, r4, r5, r6, hq])) | (apply go_no; (case hc => simp [hPd, hbl, hll, hml, r1, r2, r3, r4, r5, r6, hq]))
    | refine go_exit ?_ | refine next_exit ?_ | refine inb_here ?_ | refine inb_past (by decide) ?_ | refine go_ret ?_ | refine next_ret ?_ | refine inb_ret ?_))
      (apply ends_ok; (case h1 => simp; exact is_rfl); (case h2 => simp; exact is_rfl))
      simp [hll, hml, hq, hq2]
end Go.Abs

