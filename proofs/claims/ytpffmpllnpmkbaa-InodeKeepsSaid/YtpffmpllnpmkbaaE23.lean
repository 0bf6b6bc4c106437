/- Proved here: what functions of the program compute, over the evaluator. No condition but those that each theorem states. -/
import Derived.Test.YtpffmpllnpmkbaaE22
namespace Go.Abs
open Go.Proofs
set_option maxRecDepth 100000
set_option linter.unusedSimpArgs false
set_option linter.unusedVariables false

theorem Has_eq (l : List Int) (hl : l.length ≤ 1000000) (x : Int) : bodyW DC 32 [.sl (ints l), .int .i64 x] [] = some (.bool (decide (x ∈ l)), []) := by
  (refine gives_iff ?_; refine go_func Try.f32 rfl rfl (by simp [Try.f32]) ?_; dsimp only [codeL, Try.f32, scL, sopsL, guardL, dstAt, loopKey])
  (repeat (first
    | (apply is_ok; (case hw => simp); (case he => simp; exact is_rfl))
    | (apply op_no; (case hw => simp))
    | refine op_nil ?_ | refine next_normal ?_ | refine go_seq ?_ | refine go_region ?_ | refine go_skip ?_ | refine go_block ?_ | refine inb_normal ?_
    | (apply go_yes; (case hc => simp)) | (apply go_no; (case hc => simp))
    | refine go_exit ?_ | refine next_exit ?_ | refine inb_here ?_ | refine inb_past (by decide) ?_ | refine go_ret ?_ | refine next_ret ?_ | refine inb_ret ?_))
  refine go_count l.length (fun i => [(0, .sl (ints l)), (1, .int .i64 x), (5, .int .i64 i)]) (fun _ => []) (fun i => ∀ y ∈ l.take i, y ≠ x) (by simp) (by simp) fun i hi hI => ?_
  have hw : IntKind.i64.wrap ((i : Int) + 1) = ((i + 1 : Nat) : Int) := wrap_id (by omega) (by omega)
  by_cases hlt : i < l.length
  · by_cases hx : l[i] = x
    · have hm : x ∈ l := by rw [← hx]; exact List.getElem_mem hlt
      (repeat (first
    | (apply is_ok; (case hw => simp [hlt, hx]); (case he => simp [hlt, hx]; exact is_rfl))
    | (apply op_no; (case hw => simp [hlt, hx]))
    | refine op_nil ?_ | refine next_normal ?_ | refine go_seq ?_ | refine go_region ?_ | refine go_skip ?_ | refine go_block ?_ | refine inb_normal ?_
    | (apply go_yes; (case hc => simp [hlt, hx])) | (apply go_no; (case hc => simp [hlt, hx]))
    | refine go_exit ?_ | refine next_exit ?_ | refine inb_here ?_ | refine inb_past (by decide) ?_ | refine go_ret ?_ | refine next_ret ?_ | refine inb_ret ?_))
      (apply ends_ok; (case h1 => simp; exact is_rfl); (case h2 => simp; exact is_rfl))
      simp [hm]
    · (repeat (first
    | (apply is_ok; (case hw => simp [hlt, hx]); (case he => simp [hlt, hx]; exact is_rfl))
    | (apply op_no; (case hw => simp [hlt, hx]))
    | refine op_nil ?_ | refine next_normal ?_ | refine go_seq ?_ | refine go_region ?_ | refine go_skip ?_ | refine go_block ?_ | refine inb_normal ?_
    | (apply go_yes; (case hc => simp [hlt, hx])) | (apply go_no; (case hc => simp [hlt, hx]))
    | refine go_exit ?_ | refine next_exit ?_ | refine inb_here ?_ | refine inb_past (by decide) ?_ | refine go_ret ?_ | refine next_ret ?_ | refine inb_ret ?_))
      refine ⟨hlt, by simp [hw], fun y hy => ?_⟩
      rw [List.take_succ_eq_append_getElem hlt] at hy
      rcases List.mem_append.1 hy with hy | hy
      · exact hI y hy
      · rw [List.mem_singleton] at hy; rw [hy]; exact hx
  · rw [List.take_of_length_le (by omega)] at hI
    have hm : x ∉ l := fun h => hI x h rfl
    (repeat (first
    | (apply is_ok; (case hw => simp [hlt]); (case he => simp [hlt]; exact is_rfl))
    | (apply op_no; (case hw => simp [hlt]))
    | refine op_nil ?_ | refine next_normal ?_ | refine go_seq ?_ | refine go_region ?_ | refine go_skip ?_ | refine go_block ?_ | refine inb_normal ?_
    | (apply go_yes; (case hc => simp [hlt])) | (apply go_no; (case hc => simp [hlt]))
    | refine go_exit ?_ | refine next_exit ?_ | refine inb_here ?_ | refine inb_past (by decide) ?_ | refine go_ret ?_ | refine next_ret ?_ | refine inb_ret ?_))
    (apply ends_ok; (case h1 => simp; exact is_rfl); (case h2 => simp; exact is_rfl))
    simp [hm]

def chk2 (x r q : Nat) : Bool := (decide (markN x r true / 2 ^ q % 2 = if q = r then 1 else x / 2 ^ q % 2) && decide (markN x r false / 2 ^ q % 2 = if q = r then 0 else x / 2 ^ q % 2))
theorem chk2_all : ((List.range 256).all fun x => (List.range 8).all fun r => (List.range 8).all fun q => chk2 x r q) = true := by kernel_rfl
theorem chk2_at {x r q : Nat} (hx : x < 256) (hr : r < 8) (hq : q < 8) (u : Bool) : markN x r u / 2 ^ q % 2 = if q = r then (if u then 1 else 0) else x / 2 ^ q % 2 := by
  have h := List.all_eq_true.1 (List.all_eq_true.1 (List.all_eq_true.1 chk2_all x (List.mem_range.2 hx)) r (List.mem_range.2 hr)) q (List.mem_range.2 hq)
  unfold chk2 at h
  simp only [Bool.and_eq_true, decide_eq_true_eq] at h
  cases u
  · exact h.2
  · exact h.1
theorem markN_lt {x r : Nat} (hx : x < 256) (hr : r < 8) (u : Bool) : markN x r u < 256 := by
  have h := chk_at hx hr
  cases u
  · exact h.2.1
  · exact h.1
theorem bitB_mark (s : List UInt8) (m i : Nat) (u : Bool) (hm : m / 8 < s.length) : bitB (markS s m u) i = if i = m then u else bitB s i := by
  unfold bitB markS
  have hx := (s.getD (m / 8) 0).toNat_lt
  have hr : m % 8 < 8 := Nat.mod_lt _ (by omega)
  have hr' : i % 8 < 8 := Nat.mod_lt _ (by omega)
  by_cases h8 : i / 8 = m / 8
  · rw [h8]
    rw [List.getD_eq_getElem?_getD, List.getElem?_set_self hm, Option.getD_some]
    have hlt := markN_lt (x := (s.getD (m / 8) 0).toNat) (by omega) hr u
    rw [UInt8.toNat_ofNat_of_lt' hlt, chk2_at (by omega) hr hr' u]
    by_cases hi : i = m
    · subst hi
      rw [if_pos rfl, if_pos rfl]
      cases u <;> rfl
    · rw [if_neg hi, if_neg (by omega)]
  · rw [List.getD_eq_getElem?_getD, List.getElem?_set_ne (Ne.symm h8), ← List.getD_eq_getElem?_getD]
    rw [if_neg (by omega)]
theorem markF_ok {N : Int} {u : Bool} (hN : N ≤ 229) : ∀ {l : List Int} {s t : List UInt8}, s.length = 128 → markF N u s l = some t → t.length = 128 ∧ ∀ i : Nat, bitB t i = if (i : Int) ∈ l then u else bitB s i
  | [], s, t, hs, h => by
    simp [markF] at h
    subst h
    exact ⟨hs, fun i => by simp⟩
  | x :: l, s, t, hs, h => by
    rw [markF] at h
    split at h
    · rename_i hx
      obtain ⟨h1, h2⟩ := markF_ok hN (by rw [markS_length]; exact hs) h
      refine ⟨h1, fun i => ?_⟩
      rw [h2, bitB_mark s x.toNat i u (by omega)]
      by_cases hi : (i : Int) ∈ l
      · rw [if_pos hi, if_pos (List.mem_cons_of_mem _ hi)]
      · rw [if_neg hi]
        by_cases hix : i = x.toNat
        · rw [if_pos hix, if_pos (by rw [show (i : Int) = x by omega]; exact List.mem_cons_self ..)]
        · rw [if_neg hix, if_neg (by
            intro hm
            rcases List.mem_cons.1 hm with hm | hm
            · omega
            · exact hi hm)]
    · cases h
/-- After the write of a mark. -/
theorem mark_ok {S : List (List UInt8)} {B l : List Int} {u : Bool} (h : (markW S B l u).2 = 0) :
    VolP S B ∧ (mapS S B).2 = 0 ∧ faultI S.length B (markW S B l u).1 = 0 ∧ ∃ t, (markW S B l u).1 = (18, t) ∧ VolP (putS S (18, t)) B ∧ freeN (putS S (18, t)) = freeN S ∧ mapS (putS S (18, t)) B = (t, 0) ∧ t.length = 128 ∧ ∀ i : Nat, bitB t i = if (i : Int) ∈ l then u else bitB (mapS S B).1 i := by
  unfold markW at h ⊢
  by_cases h1 : (mapS S B).2 = 0
  case neg => rw [if_neg h1] at h; exact absurd h h1
  rw [if_pos h1] at h ⊢
  obtain ⟨hv, hl⟩ := map_ok h1
  have hN := (freeN_eq hv).2
  generalize ht : markF (freeN S) u (mapS S B).1 l = r at h ⊢
  match r, ht with
  | none, _ => cases h
  | some t, ht =>
    obtain ⟨h2, h3⟩ := markF_ok (by omega) hl ht
    have hvb := vol_bounds hv
    have hB18 : (18 : Int) ∉ B := by
      intro hm
      unfold mapS at h1
      rw [if_pos hv] at h1
      unfold readS at h1
      rw [if_pos (by omega), if_pos hm] at h1
      exact absurd h1 (by simp)
    have hf : faultI S.length B (18, t) = 0 := faultI_zero.2 ⟨⟨by dsimp only; omega, by dsimp only; omega⟩, by dsimp only; omega, hB18⟩
    obtain ⟨hv', hsw⟩ := putS_vol (w := (18, t)) hv (by dsimp only; omega) (by dsimp only; omega)
    refine ⟨hv, h1, hf, t, rfl, hv', by unfold freeN; rw [hsw, putS_length], ?_, h2, h3⟩
    unfold mapS
    rw [if_pos hv', readS_put hf]
    simp [h2]
theorem freeL_mem {s : List UInt8} {n : Nat} {x : Int} (h : x ∈ freeL s n) : ∃ m : Nat, x = m ∧ 27 ≤ m ∧ m < 27 + n ∧ bitB s m = false := by
  unfold freeL at h
  obtain ⟨i, h1, rfl⟩ := List.mem_map.1 h
  obtain ⟨h2, h3⟩ := List.mem_filter.1 h1
  have := List.mem_range.1 h2
  exact ⟨27 + i, rfl, by omega, by omega, by simpa using h3⟩
theorem freeL_sorted (s : List UInt8) (n : Nat) : (freeL s n).Pairwise (· < ·) := by
  unfold freeL
  refine List.Pairwise.map _ (fun a b (h : a < b) => ?_) (List.Pairwise.filter _ List.pairwise_lt_range)
  omega

set_option maxHeartbeats 4000000 in
theorem InodeKeeps_eq (S : List (List UInt8)) (B : List Int) (hS : S.length ≤ maxLen) (hB : B.length ≤ maxLen) (l : List Int) (hX : In64 l) (u : Bool) :
    bodyW DC 8 [drv S B, .sl (ints l), .bool u] [] = some (.bool true, []) := by
  have hM := small38_eq S B hS
  by_cases hs : SmallD S B
  case neg =>
    (refine gives_iff ?_; refine go_func Try.f8 rfl rfl (by simp [Try.f8]) ?_; dsimp only [codeL, Try.f8, scL, sopsL, guardL, dstAt, loopKey])
    (repeat (first
    | (apply is_ok; (case hw => simp [hM, hs]); (case he => simp [hM, hs]; exact is_rfl))
    | (apply op_no; (case hw => simp [hM, hs]))
    | refine op_nil ?_ | refine next_normal ?_ | refine go_seq ?_ | refine go_region ?_ | refine go_skip ?_ | refine go_block ?_ | refine inb_normal ?_
    | (apply go_yes; (case hc => simp [hM, hs])) | (apply go_no; (case hc => simp [hM, hs]))
    | refine go_exit ?_ | refine next_exit ?_ | refine inb_here ?_ | refine inb_past (by decide) ?_ | refine go_ret ?_ | refine next_ret ?_ | refine inb_ret ?_))
    (apply ends_ok; (case h1 => simp; exact is_rfl); (case h2 => simp; exact is_rfl))
    simp
  by_cases hl : l.length ≤ 300
  case neg =>
    have hl' : (300 : Int) < l.length := by omega
    (refine gives_iff ?_; refine go_func Try.f8 rfl rfl (by simp [Try.f8]) ?_; dsimp only [codeL, Try.f8, scL, sopsL, guardL, dstAt, loopKey])
    (repeat (first
    | (apply is_ok; (case hw => simp [hM, hs, hl']); (case he => simp [hM, hs, hl']; exact is_rfl))
    | (apply op_no; (case hw => simp [hM, hs, hl']))
    | refine op_nil ?_ | refine next_normal ?_ | refine go_seq ?_ | refine go_region ?_ | refine go_skip ?_ | refine go_block ?_ | refine inb_normal ?_
    | (apply go_yes; (case hc => simp [hM, hs, hl'])) | (apply go_no; (case hc => simp [hM, hs, hl']))
    | refine go_exit ?_ | refine next_exit ?_ | refine inb_here ?_ | refine inb_past (by decide) ?_ | refine go_ret ?_ | refine next_ret ?_ | refine inb_ret ?_))
    (apply ends_ok; (case h1 => simp; exact is_rfl); (case h2 => simp; exact is_rfl))
    simp
  have hl' : ¬ (300 : Int) < l.length := by omega
  have hRt := RightR_eq S B hB
  by_cases hr : RightP S B
  case neg =>
    (refine gives_iff ?_; refine go_func Try.f8 rfl rfl (by simp [Try.f8]) ?_; dsimp only [codeL, Try.f8, scL, sopsL, guardL, dstAt, loopKey])
    (repeat (first
    | (apply is_ok; (case hw => simp [hM, hs, hl', hRt, hr]); (case he => simp [hM, hs, hl', hRt, hr]; exact is_rfl))
    | (apply op_no; (case hw => simp [hM, hs, hl', hRt, hr]))
    | refine op_nil ?_ | refine next_normal ?_ | refine go_seq ?_ | refine go_region ?_ | refine go_skip ?_ | refine go_block ?_ | refine inb_normal ?_
    | (apply go_yes; (case hc => simp [hM, hs, hl', hRt, hr])) | (apply go_no; (case hc => simp [hM, hs, hl', hRt, hr]))
    | refine go_exit ?_ | refine next_exit ?_ | refine inb_here ?_ | refine inb_past (by decide) ?_ | refine go_ret ?_ | refine next_ret ?_ | refine inb_ret ?_))
    (apply ends_ok; (case h1 => simp; exact is_rfl); (case h2 => simp; exact is_rfl))
    simp
  have hA := alive38_eq
  have hP := Mark_eq S B hB l (by omega) hX u
  by_cases he : (markW S B l u).2 = 0
  case neg =>
    have h0 : (markW S B l u).1 = (0, []) := by
      unfold markW at he ⊢
      split
      · rename_i h1
        rw [if_pos h1] at he
        split at he
        · exact absurd rfl he
        · rfl
      · rfl
    rw [h0] at hP
    have hE2 := same_wr 0 []
    (refine gives_iff ?_; refine go_func Try.f8 rfl rfl (by simp [Try.f8]) ?_; dsimp only [codeL, Try.f8, scL, sopsL, guardL, dstAt, loopKey])
    (repeat (first
    | (apply is_ok; (case hw => simp [-binV, hM, hs, hl', hRt, hr, hP, he, hA, hE2]); (case he => simp [-binV, hM, hs, hl', hRt, hr, hP, he, hA, hE2]; exact is_rfl))
    | (apply op_no; (case hw => simp [-binV, hM, hs, hl', hRt, hr, hP, he, hA, hE2]))
    | refine op_nil ?_ | refine next_normal ?_ | refine go_seq ?_ | refine go_region ?_ | refine go_skip ?_ | refine go_block ?_ | refine inb_normal ?_
    | (apply go_yes; (case hc => simp [-binV, hM, hs, hl', hRt, hr, hP, he, hA, hE2])) | (apply go_no; (case hc => simp [-binV, hM, hs, hl', hRt, hr, hP, he, hA, hE2]))
    | refine go_exit ?_ | refine next_exit ?_ | refine inb_here ?_ | refine inb_past (by decide) ?_ | refine go_ret ?_ | refine next_ret ?_ | refine inb_ret ?_))
    (apply ends_ok; (case h1 => simp; exact is_rfl); (case h2 => simp; exact is_rfl))
    simp
  obtain ⟨hv, hmap, hf, t, ht, hv', hfN, hmap', htl, hbit⟩ := mark_ok he
  have b1 : S.length ≤ 1000000 := by have := hs.2.1; omega
  have b2 : B.length ≤ 1000000 := by have := hs.2.2; omega
  have hMd := made_eq S B b1 b2 _ hf
  rw [he] at hP
  rw [ht] at hP hMd
  have hm2 : (mapS (putS S (18, t)) B).2 = 0 := by rw [hmap']
  have hF := Free_ok (putS S (18, t)) B hB hm2
  rw [hfN, hmap'] at hF
  dsimp only at hF
  have hU := fun n => Used_eq (putS S (18, t)) B hB n
  have hUd := fun n => Used_eq S B hB n
  have huT : ∀ i : Nat, usedB (putS S (18, t)) B i = (decide (i < S.length) && bitB t i) := fun i => by
    unfold usedB
    rw [hmap', putS_length]
    simp
  have huS : ∀ i : Nat, usedB S B i = (decide (i < S.length) && bitB (mapS S B).1 i) := fun i => by
    unfold usedB
    rw [hmap]
    simp
  have hlS : (strs (putS S (18, t))).length = S.length := by simp [putS_length]
  generalize putS S (18, t) = T at hMd hF hU hlS huT
  have hfl := freeL_length t (freeN S)
  have hfm := fun x => freeL_mem (s := t) (n := freeN S) (x := x)
  have hfs := freeL_sorted t (freeN S)
  have hfn := (freeN_eq hv).2
  have hfS := (freeN_eq hv).1
  have hsw := vol_bounds hv
  generalize freeL t (freeN S) = F at hF hfl hfm hfs
  (refine gives_iff ?_; refine go_func Try.f8 rfl rfl (by simp [Try.f8]) ?_; dsimp only [codeL, Try.f8, scL, sopsL, guardL, dstAt, loopKey])
  (repeat (first
    | (apply is_ok; (case hw => simp [-binV, hM, hs, hl', hRt, hr, hP, hMd, hlS]); (case he => simp [-binV, hM, hs, hl', hRt, hr, hP, hMd, hlS]; exact is_rfl))
    | (apply op_no; (case hw => simp [-binV, hM, hs, hl', hRt, hr, hP, hMd, hlS]))
    | refine op_nil ?_ | refine next_normal ?_ | refine go_seq ?_ | refine go_region ?_ | refine go_skip ?_ | refine go_block ?_ | refine inb_normal ?_
    | (apply go_yes; (case hc => simp [-binV, hM, hs, hl', hRt, hr, hP, hMd, hlS])) | (apply go_no; (case hc => simp [-binV, hM, hs, hl', hRt, hr, hP, hMd, hlS]))
    | refine go_exit ?_ | refine next_exit ?_ | refine inb_here ?_ | refine inb_past (by decide) ?_ | refine go_ret ?_ | refine next_ret ?_ | refine inb_ret ?_))
  refine go_count S.length (fun i => [(1, .sl (ints l)), (2, .bool u), (3, .ptr 0 1 0 0), (9, .ptr 1 1 0 0), (11, .int .i64 i)])
    (fun i => [.box (drv S B), .box (.agg [.own 2 S.length 0 S.length, .own 3 B.length 0 B.length]), .dat true 1 (strs T), .dat true 1 (ints B)]) (fun _ => True) (by simp) trivial fun i hi _ => ?_
  have hw' : IntKind.i64.wrap ((i : Int) + 1) = ((i + 1 : Nat) : Int) := wrap_id (by omega) (by omega)
  by_cases hlt : i < S.length
  · have hH := Has_eq l (by omega) i
    have hU1 := hU i
    have hU2 := hUd i
    rw [huT i, decide_eq_true hlt, Bool.true_and, hbit i] at hU1
    rw [huS i, decide_eq_true hlt, Bool.true_and] at hU2
    by_cases hin : (i : Int) ∈ l
    · rw [decide_eq_true hin] at hH
      rw [if_pos hin] at hU1
      (repeat (first
    | (apply is_ok; (case hw => simp [-binV, binV_ii, binV_bb, hlt, hlS, hH, hU1, hU2]); (case he => simp [-binV, binV_ii, binV_bb, hlt, hlS, hH, hU1, hU2]; exact is_rfl))
    | (apply op_no; (case hw => simp [-binV, binV_ii, binV_bb, hlt, hlS, hH, hU1, hU2]))
    | refine op_nil ?_ | refine next_normal ?_ | refine go_seq ?_ | refine go_region ?_ | refine go_skip ?_ | refine go_block ?_ | refine inb_normal ?_
    | (apply go_yes; (case hc => simp [-binV, binV_ii, binV_bb, hlt, hlS, hH, hU1, hU2])) | (apply go_no; (case hc => simp [-binV, binV_ii, binV_bb, hlt, hlS, hH, hU1, hU2]))
    | refine go_exit ?_ | refine next_exit ?_ | refine inb_here ?_ | refine inb_past (by decide) ?_ | refine go_ret ?_ | refine next_ret ?_ | refine inb_ret ?_))
      exact ⟨hlt, by simp [hw'], trivial⟩
    · rw [decide_eq_false hin] at hH
      rw [if_neg hin] at hU1
      generalize bitB (mapS S B).1 i = bb at hU1 hU2
      (repeat (first
    | (apply is_ok; (case hw => simp [-binV, binV_ii, binV_bb, hlt, hlS, hH, hU1, hU2]); (case he => simp [-binV, binV_ii, binV_bb, hlt, hlS, hH, hU1, hU2]; exact is_rfl))
    | (apply op_no; (case hw => simp [-binV, binV_ii, binV_bb, hlt, hlS, hH, hU1, hU2]))
    | refine op_nil ?_ | refine next_normal ?_ | refine go_seq ?_ | refine go_region ?_ | refine go_skip ?_ | refine go_block ?_ | refine inb_normal ?_
    | (apply go_yes; (case hc => simp [-binV, binV_ii, binV_bb, hlt, hlS, hH, hU1, hU2])) | (apply go_no; (case hc => simp [-binV, binV_ii, binV_bb, hlt, hlS, hH, hU1, hU2]))
    | refine go_exit ?_ | refine next_exit ?_ | refine inb_here ?_ | refine inb_past (by decide) ?_ | refine go_ret ?_ | refine next_ret ?_ | refine inb_ret ?_))
      exact ⟨hlt, by simp [hw'], trivial⟩
  · (repeat (first
    | (apply is_ok; (case hw => simp [-binV, binV_ii, hlt, hlS, hF]); (case he => simp [-binV, binV_ii, hlt, hlS, hF]; exact is_rfl))
    | (apply op_no; (case hw => simp [-binV, binV_ii, hlt, hlS, hF]))
    | refine op_nil ?_ | refine next_normal ?_ | refine go_seq ?_ | refine go_region ?_ | refine go_skip ?_ | refine go_block ?_ | refine inb_normal ?_
    | (apply go_yes; (case hc => simp [-binV, binV_ii, hlt, hlS, hF])) | (apply go_no; (case hc => simp [-binV, binV_ii, hlt, hlS, hF]))
    | refine go_exit ?_ | refine next_exit ?_ | refine inb_here ?_ | refine inb_past (by decide) ?_ | refine go_ret ?_ | refine next_ret ?_ | refine inb_ret ?_))
    refine go_count F.length (fun i => [(9, .ptr 0 1 0 0), (13, .own 3 F.length 0 F.length), (14, .int .i64 0), (15, .int .i64 i)])
      (fun i => [.box (.agg [.own 1 S.length 0 S.length, .own 2 B.length 0 B.length]), .dat true 1 (strs T), .dat true 1 (ints B), .dat true 1 (ints F)]) (fun _ => True) (by simp) trivial fun i hi _ => ?_
    have hw' : IntKind.i64.wrap ((i : Int) + 1) = ((i + 1 : Nat) : Int) := wrap_id (by omega) (by omega)
    by_cases hlt2 : i < F.length
    · obtain ⟨m, hm1, hm2, hm3, hm4⟩ := hfm (F[i]'hlt2) (List.getElem_mem hlt2)
      have hU1 := hU m
      rw [huT m, decide_eq_true (by omega), Bool.true_and, hm4] at hU1
      by_cases hi0 : i = 0
      · subst hi0
        (repeat (first
    | (apply is_ok; (case hw => simp [-binV, binV_ii, binV_bb, hlt2, hlS, hm1, hU1]); (case he => simp [-binV, binV_ii, binV_bb, hlt2, hlS, hm1, hU1]; exact is_rfl))
    | (apply op_no; (case hw => simp [-binV, binV_ii, binV_bb, hlt2, hlS, hm1, hU1]))
    | refine op_nil ?_ | refine next_normal ?_ | refine go_seq ?_ | refine go_region ?_ | refine go_skip ?_ | refine go_block ?_ | refine inb_normal ?_
    | (apply go_yes; (case hc => simp [-binV, binV_ii, binV_bb, hlt2, hlS, hm1, hU1])) | (apply go_no; (case hc => simp [-binV, binV_ii, binV_bb, hlt2, hlS, hm1, hU1]))
    | refine go_exit ?_ | refine next_exit ?_ | refine inb_here ?_ | refine inb_past (by decide) ?_ | refine go_ret ?_ | refine next_ret ?_ | refine inb_ret ?_))
        exact ⟨hlt2, by simp [hw'], trivial⟩
      · obtain ⟨j, rfl⟩ : ∃ j, i = j + 1 := ⟨i - 1, by omega⟩
        have hj : j < F.length := by omega
        have hlt3 := (List.pairwise_iff_getElem.1 hfs) j (j + 1) hj hlt2 (by omega)
        have hw2 : IntKind.i64.wrap (((j + 1 : Nat) : Int) - 1) = (j : Int) := wrap_id (by omega) (by omega) |>.trans (by omega)
        rw [hm1] at hlt3
        have hlt4 : ¬ ((m : Int) ≤ F[j]) := by omega
        have g1 : (j : Int) + 1 < F.length := by omega
        have g2 : ((j : Int) + 1).toNat = j + 1 := by omega
        have g3 : (0 : Int) < (j : Int) + 1 := by omega
        have g4 : (0 : Int) ≤ (j : Int) + 1 := by omega
        have g5 : IntKind.i64.wrap (j : Int) = j := wrap_id (by omega) (by omega)
        (repeat (first
    | (apply is_ok; (case hw => simp [-binV, binV_ii, binV_bb, hlt2, hlS, hm1, hU1, hw2, hj, hlt4, g1, g2, g3, g4, g5]); (case he => simp [-binV, binV_ii, binV_bb, hlt2, hlS, hm1, hU1, hw2, hj, hlt4, g1, g2, g3, g4, g5]; exact is_rfl))
    | (apply op_no; (case hw => simp [-binV, binV_ii, binV_bb, hlt2, hlS, hm1, hU1, hw2, hj, hlt4, g1, g2, g3, g4, g5]))
    | refine op_nil ?_ | refine next_normal ?_ | refine go_seq ?_ | refine go_region ?_ | refine go_skip ?_ | refine go_block ?_ | refine inb_normal ?_
    | (apply go_yes; (case hc => simp [-binV, binV_ii, binV_bb, hlt2, hlS, hm1, hU1, hw2, hj, hlt4, g1, g2, g3, g4, g5])) | (apply go_no; (case hc => simp [-binV, binV_ii, binV_bb, hlt2, hlS, hm1, hU1, hw2, hj, hlt4, g1, g2, g3, g4, g5]))
    | refine go_exit ?_ | refine next_exit ?_ | refine inb_here ?_ | refine inb_past (by decide) ?_ | refine go_ret ?_ | refine next_ret ?_ | refine inb_ret ?_))
        exact ⟨hlt2, by simp; exact wrap_id (by omega) (by omega), trivial⟩
    · (repeat (first
    | (apply is_ok; (case hw => simp [-binV, binV_ii, hlt2, hA]); (case he => simp [-binV, binV_ii, hlt2, hA]; exact is_rfl))
    | (apply op_no; (case hw => simp [-binV, binV_ii, hlt2, hA]))
    | refine op_nil ?_ | refine next_normal ?_ | refine go_seq ?_ | refine go_region ?_ | refine go_skip ?_ | refine go_block ?_ | refine inb_normal ?_
    | (apply go_yes; (case hc => simp [-binV, binV_ii, hlt2, hA])) | (apply go_no; (case hc => simp [-binV, binV_ii, hlt2, hA]))
    | refine go_exit ?_ | refine next_exit ?_ | refine inb_here ?_ | refine inb_past (by decide) ?_ | refine go_ret ?_ | refine next_ret ?_ | refine inb_ret ?_))
      (apply ends_ok; (case h1 => simp; exact is_rfl); (case h2 => simp; exact is_rfl))
      simp
end Go.Abs
