/- Proved here: what functions of the program compute, over the evaluator. No condition but those that each theorem states. -/
import Derived.Test.YtoeakhllpijkiaaD13
namespace Go.Abs
open Go.Proofs
set_option maxRecDepth 100000
set_option linter.unusedSimpArgs false

abbrev OkAll (n : Nat) (B : List Int) (l : List (Int × List UInt8)) : Prop := ∀ w ∈ l, faultI n B w = 0
abbrev puts (S : List (List UInt8)) (l : List (Int × List UInt8)) : List (List UInt8) := l.foldl putS S

theorem puts_length : ∀ (l : List (Int × List UInt8)) (S : List (List UInt8)), (puts S l).length = S.length
  | [], S => rfl
  | w :: l, S => by show (puts (putS S w) l).length = _; rw [puts_length l, putS_length]

theorem applyS_fuse (B : List Int) : ∀ (l : List (Int × List UInt8)) (S : List (List UInt8)) (i k : Nat), OkAll S.length B l → i ≤ k → applyS B k S i l = (puts S (l.take (k - i)), min k (i + l.length), 0)
  | [], S, i, k, _, h => by simp [applyS]; omega
  | w :: l, S, i, k, ho, h => by
    rw [applyS]
    by_cases hk : i = k
    · subst hk
      simp
    · rw [if_neg (by omega), if_pos (ho w (List.mem_cons_self ..)), applyS_fuse B l (putS S w) (i + 1) k (by rw [putS_length]; exact fun w hw => ho w (List.mem_cons_of_mem _ hw)) (by omega)]
      have : k - i = (k - (i + 1)) + 1 := by omega
      rw [this, List.take_succ_cons, List.length_cons, show i + 1 + l.length = i + (l.length + 1) by omega]
      rfl
theorem applyS_all (B : List Int) : ∀ (l : List (Int × List UInt8)) (S : List (List UInt8)) (i : Nat), OkAll S.length B l → applyS B (-1) S i l = (puts S l, i + l.length, 0)
  | [], S, i, _ => rfl
  | w :: l, S, i, ho => by
    rw [applyS, if_neg (by omega), if_pos (ho w (List.mem_cons_self ..)), applyS_all B l (putS S w) (i + 1) (by rw [putS_length]; exact fun w hw => ho w (List.mem_cons_of_mem _ hw))]
    rw [List.length_cons, show i + 1 + l.length = i + (l.length + 1) by omega]
    rfl
theorem applyS_err (B : List Int) : ∀ (l : List (Int × List UInt8)) (S : List (List UInt8)) (i : Nat), ¬ OkAll S.length B l → (applyS B (-1) S i l).2.2 ≠ 0 ∧ (applyS B (-1) S i l).2.1 < i + l.length
  | [], S, i, ho => absurd (fun w hw => by simp at hw) ho
  | w :: l, S, i, ho => by
    rw [applyS, if_neg (by omega)]
    by_cases hw : faultI S.length B w = 0
    · rw [if_pos hw]
      have := applyS_err B l (putS S w) (i + 1) (fun h => ho fun v hv => by
        rw [putS_length] at h
        rcases List.mem_cons.1 hv with rfl | hv
        · exact hw
        · exact h v hv)
      simp only [List.length_cons]
      exact ⟨this.1, by omega⟩
    · rw [if_neg hw]
      exact ⟨hw, by simp⟩
theorem RightP_puts {B : List Int} : ∀ (l : List (Int × List UInt8)) (S : List (List UInt8)), RightP S B → OkAll S.length B l → RightP (puts S l) B
  | [], S, h, _ => h
  | w :: l, S, h, ho => RightP_puts l (putS S w) (RightP_put h (faultI_zero.1 (ho w (List.mem_cons_self ..))).2.1) (by rw [putS_length]; exact fun v hv => ho v (List.mem_cons_of_mem _ hv))
theorem puts_other {B : List Int} : ∀ (l : List (Int × List UInt8)) (S : List (List UInt8)), OkAll S.length B l → ∀ j : Nat, S[j]? ≠ (puts S l)[j]? → ∃ w ∈ l, w.1 = j
  | [], S, _, j, h => absurd rfl h
  | w :: l, S, ho, j, h => by
    by_cases hw : w.1 = j
    · exact ⟨w, List.mem_cons_self .., hw⟩
    · have h0 := (faultI_zero.1 (ho w (List.mem_cons_self ..))).1.1
      have e : (putS S w)[j]? = S[j]? := by
        unfold putS
        rw [List.getElem?_set_ne (by omega)]
      obtain ⟨v, hv, h2⟩ := puts_other l (putS S w) (by rw [putS_length]; exact fun v hv => ho v (List.mem_cons_of_mem _ hv)) j (by rw [e]; exact h)
      exact ⟨v, List.mem_cons_of_mem _ hv, h2⟩
theorem diffL_mem {S T : List (List UInt8)} {n : Nat} {x : Int} (h : x ∈ diffL S T n) : ∃ j : Nat, x = j ∧ S[j]? ≠ T[j]? := by
  unfold diffL at h
  obtain ⟨j, h1, rfl⟩ := List.mem_map.1 h
  rw [List.mem_filter] at h1
  exact ⟨j, rfl, by simpa using h1.2⟩

theorem is_same {C : Ctx} {d : Bool} {env : Env} {H : Heap} {N : Env → Heap → Prop} {dst : Option Nat} {op : Op} {t : Nat} {g : Option (Option Nat × Bool)} {r : List Sop} {v : V} (hw : want1 env g = .yes) (he : ev1 C.P (callW C d) env H op t = some (v, H)) (h : Op1 C d r (env.put dst v) H N) : Op1 C d (⟨dst, op, t, g⟩ :: r) env H N := op_yes hw he h

theorem DriveSplits_eq (S : List (List UInt8)) (B : List Int) (hB : B.length ≤ maxLen) (l : List (Int × List UInt8)) (k : Nat) (hk : k ≤ 255) : bodyW DC 9 [drv S B, .sl (l.map wrV), .int .u8 k] [] = some (.bool true, []) := by
  have hG := good_eq S B hB
  have hM := small_eq l
  have hA := alive_eq
  by_cases h : FairP S B ∧ RightP S B
  case neg =>
    (refine gives_iff ?_; refine go_func Try.f9 rfl rfl (by simp [Try.f9]) ?_; dsimp only [codeL, Try.f9, scL, sopsL, guardL, dstAt, loopKey])
    (repeat (first
    | (apply is_ok; (case hw => simp [hG, h, hA]); (case he => simp [hG, h, hA]; exact is_rfl))
    | (apply op_no; (case hw => simp [hG, h, hA]))
    | refine op_nil ?_ | refine next_normal ?_ | refine go_seq ?_ | refine go_region ?_ | refine go_skip ?_ | refine go_block ?_ | refine inb_normal ?_
    | (apply go_yes; (case hc => simp [hG, h, hA])) | (apply go_no; (case hc => simp [hG, h, hA]))
    | refine go_exit ?_ | refine next_exit ?_ | refine inb_here ?_ | refine inb_past (by decide) ?_ | refine go_ret ?_ | refine next_ret ?_ | refine inb_ret ?_))
    (apply ends_ok; (case h1 => simp; exact is_rfl); (case h2 => simp; exact is_rfl))
    simp
  by_cases h2 : SmallP l
  case neg =>
    (refine gives_iff ?_; refine go_func Try.f9 rfl rfl (by simp [Try.f9]) ?_; dsimp only [codeL, Try.f9, scL, sopsL, guardL, dstAt, loopKey])
    (repeat (first
    | (apply is_ok; (case hw => simp [hG, h, hM, h2, hA]); (case he => simp [hG, h, hM, h2, hA]; exact is_rfl))
    | (apply op_no; (case hw => simp [hG, h, hM, h2, hA]))
    | refine op_nil ?_ | refine next_normal ?_ | refine go_seq ?_ | refine go_region ?_ | refine go_skip ?_ | refine go_block ?_ | refine inb_normal ?_
    | (apply go_yes; (case hc => simp [hG, h, hM, h2, hA])) | (apply go_no; (case hc => simp [hG, h, hM, h2, hA]))
    | refine go_exit ?_ | refine next_exit ?_ | refine inb_here ?_ | refine inb_past (by decide) ?_ | refine go_ret ?_ | refine next_ret ?_ | refine inb_ret ?_))
    (apply ends_ok; (case h1 => simp; exact is_rfl); (case h2 => simp; exact is_rfl))
    simp
  have b1 : S.length ≤ 1000000 := by have := h.1.1; omega
  have b2 : B.length ≤ 1000000 := by have := h.1.2.1; omega
  have b3 : l.length ≤ 1000000 := by have := h2.1; omega
  have hP := Apply_eq S B b1 b2 l b3 (-1)
  by_cases ho : OkAll S.length B l
  case neg =>
    have he := applyS_err B l S 0 ho
    generalize applyS B (-1) S 0 l = R at hP he
    have he2 : R.2.1 < l.length := by omega
    have he1 := he.1
    (refine gives_iff ?_; refine go_func Try.f9 rfl rfl (by simp [Try.f9]) ?_; dsimp only [codeL, Try.f9, scL, sopsL, guardL, dstAt, loopKey])
    (repeat (first
    | (apply is_ok; (case hw => simp [hG, h, hM, h2, hA, hP, he1, he2]); (case he => simp [hG, h, hM, h2, hA, hP, he1, he2]; exact is_rfl))
    | (apply op_no; (case hw => simp [hG, h, hM, h2, hA, hP, he1, he2]))
    | refine op_nil ?_ | refine next_normal ?_ | refine go_seq ?_ | refine go_region ?_ | refine go_skip ?_ | refine go_block ?_ | refine inb_normal ?_
    | (apply go_yes; (case hc => simp [hG, h, hM, h2, hA, hP, he1, he2])) | (apply go_no; (case hc => simp [hG, h, hM, h2, hA, hP, he1, he2]))
    | refine go_exit ?_ | refine next_exit ?_ | refine inb_here ?_ | refine inb_past (by decide) ?_ | refine go_ret ?_ | refine next_ret ?_ | refine inb_ret ?_))
    (apply ends_ok; (case h1 => simp; exact is_rfl); (case h2 => simp; exact is_rfl))
    simp
  rw [applyS_all B l S 0 ho] at hP
  have hP2 := Apply_eq S B b1 b2 l b3 k
  rw [applyS_fuse B l S 0 k ho (Nat.zero_le _)] at hP2
  have hlS := puts_length (l.take k) S
  have hP3 := Apply_eq (puts S (l.take k)) B (by omega) b2 (l.drop (min k l.length)) (by rw [List.length_drop]; omega) (-1)
  have hdr : l.drop (min k l.length) = l.drop k := by
    by_cases hkl : k ≤ l.length
    · rw [Nat.min_eq_left hkl]
    · rw [Nat.min_eq_right (by omega), List.drop_length, List.drop_eq_nil_of_le (by omega)]
  rw [applyS_all B _ _ 0 (by rw [hlS]; exact fun w hw => ho w (List.mem_of_mem_drop hw))] at hP3
  have hpp : puts (puts S (l.take k)) (l.drop (min k l.length)) = puts S l := by
    rw [hdr]
    show List.foldl putS (List.foldl putS S (l.take k)) (l.drop k) = _
    rw [← List.foldl_append, List.take_append_drop]
  rw [hpp] at hP3
  have hT := puts_length l S
  have hR := RightP_puts l S h.2 ho
  have hV := Right_eq (puts S l) B hB
  have hoth := puts_other l S ho
  simp only [Nat.zero_add, Nat.sub_zero] at hP hP2 hP3
  generalize puts S l = T at hP hP3 hT hR hV hoth
  generalize puts S (l.take k) = U at hP2 hP3 hlS
  have hD := Diff_eq S T B B b1 (by omega)
  have hD2 := Diff_eq T T B B (by omega) (by omega)
  rw [diffA_nil.2 rfl] at hD2
  have hDl := diffL_length S T (max S.length T.length)
  have hmem : ∀ x ∈ diffA S T, ∃ w ∈ l, w.1 = x := fun x hx => by
    obtain ⟨j, rfl, h3⟩ := diffL_mem hx
    exact hoth j h3
  have hlen : (diffA S T).length ≤ 1000000 := by
    show (diffL S T (max S.length T.length)).length ≤ 1000000
    omega
  clear hDl hoth hdr hpp
  generalize diffA S T = D at hD hmem hlen
  have hm : min (k : Int) (l.length : Int) = ((min k l.length : Nat) : Int) := by omega
  have hmk : min k l.length ≤ l.length := by omega
  have hwk : IntKind.i64.wrap (k : Int) = k := wrap_id (by omega) (by omega)
  rw [hlS] at hP3
  generalize min k l.length = m at hP2 hP3 hm hmk
  rw [List.map_drop] at hP3
  have hml : m = 0 ∨ m = l.length ∨ m < l.length := by omega
  (refine gives_iff ?_; refine go_func Try.f9 rfl rfl (by simp [Try.f9]) ?_; dsimp only [codeL, Try.f9, scL, sopsL, guardL, dstAt, loopKey])
  (repeat (first
    | (apply is_ok; (case hw => simp [hG, h, hM, h2, hA, hP, hP2, hP3, hm, hmk, hwk, hlS, hT]); (case he => simp [hG, h, hM, h2, hA, hP, hP2, hP3, hm, hmk, hwk, hlS, hT]; exact is_rfl))
    | (apply op_no; (case hw => simp [hG, h, hM, h2, hA, hP, hP2, hP3, hm, hmk, hwk, hlS, hT]))
    | refine op_nil ?_ | refine next_normal ?_ | refine go_seq ?_ | refine go_region ?_ | refine go_skip ?_ | refine go_block ?_ | refine inb_normal ?_
    | (apply go_yes; (case hc => simp [hG, h, hM, h2, hA, hP, hP2, hP3, hm, hmk, hwk, hlS, hT])) | (apply go_no; (case hc => simp [hG, h, hM, h2, hA, hP, hP2, hP3, hm, hmk, hwk, hlS, hT]))
    | refine go_exit ?_ | refine next_exit ?_ | refine inb_here ?_ | refine inb_past (by decide) ?_ | refine go_ret ?_ | refine next_ret ?_ | refine inb_ret ?_))
  have htk : (l.map wrV).take l.length = l.map wrV := List.take_of_length_le (by simp)
  refine is_same (v := .sl ((l.map wrV).drop m)) (by simp) ?_ ?_
  · rcases hml with h0 | h0 | h0
    · simp [h0, htk]
    · simp [h0]
    · simp [h0, hmk, htk]
  (repeat (first
    | (apply is_ok; (case hw => simp [hP3, hlS, hT, hD]); (case he => simp [hP3, hlS, hT, hD]; exact is_rfl))
    | (apply op_no; (case hw => simp [hP3, hlS, hT, hD]))
    | refine op_nil ?_ | refine next_normal ?_ | refine go_seq ?_ | refine go_region ?_ | refine go_skip ?_ | refine go_block ?_ | refine inb_normal ?_
    | (apply go_yes; (case hc => simp [hP3, hlS, hT, hD])) | (apply go_no; (case hc => simp [hP3, hlS, hT, hD]))
    | refine go_exit ?_ | refine next_exit ?_ | refine inb_here ?_ | refine inb_past (by decide) ?_ | refine go_ret ?_ | refine next_ret ?_ | refine inb_ret ?_))
  refine go_count D.length (fun i => [(1, .sl (l.map wrV)), (7, .ptr 0 1 0 0), (13, .ptr 3 1 0 0), (15, .int .i64 0), (16, .own 6 D.length 0 D.length), (17, .int .i64 i)])
    (fun i => [.box (.agg [.own 1 S.length 0 S.length, .own 2 B.length 0 B.length]), .dat true 1 (strs T), .dat true 1 (ints B), .box (.agg [.own 4 S.length 0 S.length, .own 5 B.length 0 B.length]), .dat true 1 (strs T), .dat true 1 (ints B), .dat true 1 (ints D)]) (fun _ => True) (by simp) trivial fun i hi _ => ?_
  by_cases hlt : i < D.length
  · have hw : IntKind.i64.wrap ((i : Int) + 1) = (i : Int) + 1 := wrap_id (by omega) (by omega)
    (repeat (first
    | (apply is_ok; (case hw => simp [hlt]); (case he => simp [hlt]; exact is_rfl))
    | (apply op_no; (case hw => simp [hlt]))
    | refine op_nil ?_ | refine next_normal ?_ | refine go_seq ?_ | refine go_region ?_ | refine go_skip ?_ | refine go_block ?_ | refine inb_normal ?_
    | (apply go_yes; (case hc => simp [hlt])) | (apply go_no; (case hc => simp [hlt]))
    | refine go_exit ?_ | refine next_exit ?_ | refine inb_here ?_ | refine inb_past (by decide) ?_ | refine go_ret ?_ | refine next_ret ?_ | refine inb_ret ?_))
    refine go_count l.length (fun j => [(1, .sl (l.map wrV)), (7, .ptr 0 1 0 0), (13, .ptr 3 1 0 0), (15, .int .i64 0), (16, .own 6 D.length 0 D.length), (17, .int .i64 i), (18, .bool (decide (∃ w ∈ l.take j, w.1 = D[i]))), (19, .int .i64 j)])
      (fun j => [.box (.agg [.own 1 S.length 0 S.length, .own 2 B.length 0 B.length]), .dat true 1 (strs T), .dat true 1 (ints B), .box (.agg [.own 4 S.length 0 S.length, .own 5 B.length 0 B.length]), .dat true 1 (strs T), .dat true 1 (ints B), .dat true 1 (ints D)]) (fun _ => True) (by simp) trivial fun j hj _ => ?_
    have hwj : IntKind.i64.wrap ((j : Int) + 1) = (j : Int) + 1 := wrap_id (by omega) (by omega)
    by_cases hlj : j < l.length
    · have htj := List.take_succ_eq_append_getElem hlj
      by_cases hex : ∃ w ∈ l.take j, w.1 = D[i]
      · have hex' : ∃ w ∈ l.take (j + 1), w.1 = D[i] := by
          obtain ⟨w, h3, h4⟩ := hex
          exact ⟨w, by rw [htj]; exact List.mem_append_left _ h3, h4⟩
        rw [decide_eq_true hex]
        (repeat (first
    | (apply is_ok; (case hw => simp [hlj, hlt]); (case he => simp [hlj, hlt]; exact is_rfl))
    | (apply op_no; (case hw => simp [hlj, hlt]))
    | refine op_nil ?_ | refine next_normal ?_ | refine go_seq ?_ | refine go_region ?_ | refine go_skip ?_ | refine go_block ?_ | refine inb_normal ?_
    | (apply go_yes; (case hc => simp [hlj, hlt])) | (apply go_no; (case hc => simp [hlj, hlt]))
    | refine go_exit ?_ | refine next_exit ?_ | refine inb_here ?_ | refine inb_past (by decide) ?_ | refine go_ret ?_ | refine next_ret ?_ | refine inb_ret ?_))
        exact ⟨hlj, by simp only [decide_eq_true hex']; simp [hwj], trivial⟩
      · by_cases hw1 : l[j].1 = D[i]
        · have hex' : ∃ w ∈ l.take (j + 1), w.1 = D[i] := ⟨l[j], by rw [htj]; exact List.mem_append_right _ (List.mem_singleton.2 rfl), hw1⟩
          rw [decide_eq_false hex]
          (repeat (first
    | (apply is_ok; (case hw => simp [hlj, hlt, hw1]); (case he => simp [hlj, hlt, hw1]; exact is_rfl))
    | (apply op_no; (case hw => simp [hlj, hlt, hw1]))
    | refine op_nil ?_ | refine next_normal ?_ | refine go_seq ?_ | refine go_region ?_ | refine go_skip ?_ | refine go_block ?_ | refine inb_normal ?_
    | (apply go_yes; (case hc => simp [hlj, hlt, hw1])) | (apply go_no; (case hc => simp [hlj, hlt, hw1]))
    | refine go_exit ?_ | refine next_exit ?_ | refine inb_here ?_ | refine inb_past (by decide) ?_ | refine go_ret ?_ | refine next_ret ?_ | refine inb_ret ?_))
          exact ⟨hlj, by simp only [decide_eq_true hex']; simp [hwj], trivial⟩
        · have hex' : ¬ ∃ w ∈ l.take (j + 1), w.1 = D[i] := fun ⟨w, h3, h4⟩ => by
            rw [htj] at h3
            rcases List.mem_append.1 h3 with h3 | h3
            · exact hex ⟨w, h3, h4⟩
            · rw [List.mem_singleton.1 h3] at h4; exact hw1 h4
          rw [decide_eq_false hex]
          (repeat (first
    | (apply is_ok; (case hw => simp [hlj, hlt, hw1]); (case he => simp [hlj, hlt, hw1]; exact is_rfl))
    | (apply op_no; (case hw => simp [hlj, hlt, hw1]))
    | refine op_nil ?_ | refine next_normal ?_ | refine go_seq ?_ | refine go_region ?_ | refine go_skip ?_ | refine go_block ?_ | refine inb_normal ?_
    | (apply go_yes; (case hc => simp [hlj, hlt, hw1])) | (apply go_no; (case hc => simp [hlj, hlt, hw1]))
    | refine go_exit ?_ | refine next_exit ?_ | refine inb_here ?_ | refine inb_past (by decide) ?_ | refine go_ret ?_ | refine next_ret ?_ | refine inb_ret ?_))
          exact ⟨hlj, by simp only [decide_eq_false hex']; simp [hwj, hw1], trivial⟩
    · have hjl : j = l.length := by omega
      have hex : ∃ w ∈ l.take j, w.1 = D[i] := by rw [hjl, List.take_length]; exact hmem _ (List.getElem_mem hlt)
      rw [decide_eq_true hex]
      (repeat (first
    | (apply is_ok; (case hw => simp [hlj, hlt]); (case he => simp [hlj, hlt]; exact is_rfl))
    | (apply op_no; (case hw => simp [hlj, hlt]))
    | refine op_nil ?_ | refine next_normal ?_ | refine go_seq ?_ | refine go_region ?_ | refine go_skip ?_ | refine go_block ?_ | refine inb_normal ?_
    | (apply go_yes; (case hc => simp [hlj, hlt])) | (apply go_no; (case hc => simp [hlj, hlt]))
    | refine go_exit ?_ | refine next_exit ?_ | refine inb_here ?_ | refine inb_past (by decide) ?_ | refine go_ret ?_ | refine next_ret ?_ | refine inb_ret ?_))
      exact ⟨hlt, by simp [hw], trivial⟩
  · (repeat (first
    | (apply is_ok; (case hw => simp [hlt, hT, hD2, hV, hR, hA]); (case he => simp [hlt, hT, hD2, hV, hR, hA]; exact is_rfl))
    | (apply op_no; (case hw => simp [hlt, hT, hD2, hV, hR, hA]))
    | refine op_nil ?_ | refine next_normal ?_ | refine go_seq ?_ | refine go_region ?_ | refine go_skip ?_ | refine go_block ?_ | refine inb_normal ?_
    | (apply go_yes; (case hc => simp [hlt, hT, hD2, hV, hR, hA])) | (apply go_no; (case hc => simp [hlt, hT, hD2, hV, hR, hA]))
    | refine go_exit ?_ | refine next_exit ?_ | refine inb_here ?_ | refine inb_past (by decide) ?_ | refine go_ret ?_ | refine next_ret ?_ | refine inb_ret ?_))
    (apply ends_ok; (case h1 => simp; exact is_rfl); (case h2 => simp; exact is_rfl))
    simp
end Go.Abs
