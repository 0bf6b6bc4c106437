/- Proved here: what functions of the program compute, over the evaluator. No condition but those that each theorem states. -/
import Derived.Test.YtpffmpllnpmkbaaDoorE20
import Derived.Test.YtpffmpllnpmkbaaDoorD13
namespace Go.Abs
open Go.Proofs
set_option maxRecDepth 100000
set_option linter.unusedSimpArgs false
set_option linter.unusedVariables false

theorem word_put2 {n : Int} (h : 0 ≤ n) (h2 : n ≤ 65535) : word (UInt8.ofNat (n.toNat % 256)) (UInt8.ofNat (n.toNat / 256 % 256)) = n := by
  unfold word
  simp
  omega
/-- What is encoded is read. -/
theorem parse_bytes {k l z : Int} {L : List Int} (hL : L.length = 8) (h : validI k l z L) : parseV (bytesI k l z L) = inoV k l z L ∧ parseE (bytesI k l z L) = 0 := by
  match L, hL with
  | [a, b, c, d, e, f, g, h'], hL =>
    have hr : (0 ≤ k ∧ k ≤ 65535) ∧ (0 ≤ l ∧ l ≤ 65535) ∧ (0 ≤ z ∧ z ≤ 65535) ∧ (0 ≤ a ∧ a ≤ 65535) ∧ (0 ≤ b ∧ b ≤ 65535) ∧ (0 ≤ c ∧ c ≤ 65535) ∧ (0 ≤ d ∧ d ≤ 65535) ∧ (0 ≤ e ∧ e ≤ 65535) ∧ (0 ≤ f ∧ f ≤ 65535) ∧ (0 ≤ g ∧ g ≤ 65535) ∧ (0 ≤ h' ∧ h' ≤ 65535) := by
      unfold validI at h
      split at h
      · simp [List.replicate] at h; omega
      · obtain ⟨h1, h2, h3, h4, h5, h6⟩ := h
        have p := fun i (hi : i < 8) => h6 i (List.mem_range.2 hi)
        have p0 := p 0 (by decide); have p1 := p 1 (by decide); have p2 := p 2 (by decide); have p3 := p 3 (by decide)
        have p4 := p 4 (by decide); have p5 := p 5 (by decide); have p6 := p 6 (by decide); have p7 := p 7 (by decide)
        simp at p0 p1 p2 p3 p4 p5 p6 p7
        omega
    obtain ⟨r0, r1, r2, r3, r4, r5, r6, r7, r8, r9, r10⟩ := hr
    have w0 := word_put2 r0.1 r0.2; have w1 := word_put2 r1.1 r1.2; have w2 := word_put2 r2.1 r2.2; have w3 := word_put2 r3.1 r3.2; have w4 := word_put2 r4.1 r4.2
    have w5 := word_put2 r5.1 r5.2; have w6 := word_put2 r6.1 r6.2; have w7 := word_put2 r7.1 r7.2; have w8 := word_put2 r8.1 r8.2; have w9 := word_put2 r9.1 r9.2; have w10 := word_put2 r10.1 r10.2
    have e0 : wd (bytesI k l z [a, b, c, d, e, f, g, h']) 0 = k := w0
    have e1 : wd (bytesI k l z [a, b, c, d, e, f, g, h']) 1 = l := w1
    have e2 : wd (bytesI k l z [a, b, c, d, e, f, g, h']) 2 = z := w2
    have e3 : wd (bytesI k l z [a, b, c, d, e, f, g, h']) 3 = a := w3
    have e4 : wd (bytesI k l z [a, b, c, d, e, f, g, h']) 4 = b := w4
    have e5 : wd (bytesI k l z [a, b, c, d, e, f, g, h']) 5 = c := w5
    have e6 : wd (bytesI k l z [a, b, c, d, e, f, g, h']) 6 = d := w6
    have e7 : wd (bytesI k l z [a, b, c, d, e, f, g, h']) 7 = e := w7
    have e8 : wd (bytesI k l z [a, b, c, d, e, f, g, h']) 8 = f := w8
    have e9 : wd (bytesI k l z [a, b, c, d, e, f, g, h']) 9 = g := w9
    have e10 : wd (bytesI k l z [a, b, c, d, e, f, g, h']) 10 = h' := w10
    have eL : wdL (bytesI k l z [a, b, c, d, e, f, g, h']) = [a, b, c, d, e, f, g, h'] := by
      unfold wdL
      rw [e3, e4, e5, e6, e7, e8, e9, e10]
    have ho : okS (bytesI k l z [a, b, c, d, e, f, g, h']) := ⟨bytesI_length hL, by rw [e0, e1, e2, eL]; exact h, by rw [e0, e1, e2, eL]⟩
    unfold parseV parseE
    rw [if_pos ho, if_pos ho, e0, e1, e2, eL]
    exact ⟨rfl, rfl⟩

theorem getD_putS {S : List (List UInt8)} {w : Int × List UInt8} {j : Nat} (h : j ≠ w.1.toNat) : (putS S w).getD j [] = S.getD j [] := by
  unfold putS
  rw [List.getD_eq_getElem?_getD, List.getD_eq_getElem?_getD, List.getElem?_set_ne (Ne.symm h)]
theorem putS_vol {S : List (List UInt8)} {B : List Int} {w : Int × List UInt8} (h : VolP S B) (h1 : 1 ≤ w.1) (hw : w.2.length ≤ 128) : VolP (putS S w) B ∧ swapW (putS S w) = swapW S := by
  have h0 : (putS S w).getD 0 [] = S.getD 0 [] := getD_putS (by omega)
  have hs : swapW (putS S w) = swapW S := by unfold swapW; rw [h0]
  exact ⟨⟨RightP_put h.1 hw, by rw [putS_length]; exact h.2.1, h.2.2.1, by rw [hs, putS_length]; exact h.2.2.2.1, by rw [h0, hs, putS_length]; exact h.2.2.2.2⟩, hs⟩
theorem readS_other {S : List (List UInt8)} {B : List Int} {w : Int × List UInt8} {m : Int} (h0 : 0 ≤ w.1) (h : m ≠ w.1) : readS (putS S w) B m = readS S B m := by
  unfold readS
  rw [putS_length]
  split
  · rename_i h2
    rw [getD_putS (by omega)]
  · rfl
/-- What the write of an inode is. -/
theorem put_ok {S : List (List UInt8)} {B : List Int} {n k l z : Int} {L : List Int} (hL : L.length = 8) (h : (putW S B n k l z L).2 = 0) :
    VolP S B ∧ 1 ≤ n ∧ n < 32 ∧ validI k l z L ∧ (readS S B (19 + n / 4)).2 = 0 ∧ (readS S B (19 + n / 4)).1.length = 128 ∧ faultI S.length B (putW S B n k l z L).1 = 0 ∧ (putW S B n k l z L).1.2.length = 128 ∧
      (putW S B n k l z L).1 = (19 + n / 4, (readS S B (19 + n / 4)).1.take (n.toNat % 4 * 32) ++ (bytesI k l z L ++ (readS S B (19 + n / 4)).1.drop (n.toNat % 4 * 32 + 32))) := by
  unfold putW at h ⊢
  by_cases h1 : (secS S B n).2 = 0
  case neg => rw [if_neg h1] at h; exact absurd h h1
  rw [if_pos h1] at h ⊢
  by_cases h2 : validI k l z L
  case neg => rw [if_neg h2] at h; exact absurd h (by simp)
  rw [if_pos h2]
  unfold secS at h1 ⊢
  by_cases hv : VolP S B
  case neg => rw [if_neg hv] at h1; exact absurd h1 (by simp)
  rw [if_pos hv] at h1 ⊢
  by_cases hn : 1 ≤ n ∧ n < 32
  case neg => rw [if_neg hn] at h1; exact absurd h1 (by simp)
  rw [if_pos hn] at h1 ⊢
  have hlen : (readS S B (19 + n / 4)).1.length = 128 ∧ 0 ≤ 19 + n / 4 ∧ 19 + n / 4 < S.length ∧ 19 + n / 4 ∉ B := by
    unfold readS at h1 ⊢
    by_cases h3 : 0 ≤ 19 + n / 4 ∧ 19 + n / 4 < S.length
    case neg => rw [if_neg h3] at h1; exact absurd h1 (by simp)
    rw [if_pos h3] at h1 ⊢
    by_cases h4 : 19 + n / 4 ∈ B
    · rw [if_pos h4] at h1; exact absurd h1 (by simp)
    · rw [if_neg h4]
      have hlt : (19 + n / 4).toNat < S.length := by omega
      exact ⟨by rw [getD_at hlt]; exact hv.1.2.2.1 _ (List.getElem_mem hlt), h3.1, h3.2, h4⟩
  have hd : ((readS S B (19 + n / 4)).1.take (n.toNat % 4 * 32) ++ (bytesI k l z L ++ (readS S B (19 + n / 4)).1.drop (n.toNat % 4 * 32 + 32))).length = 128 := by
    rw [List.length_append, List.length_append, List.length_take, List.length_drop, bytesI_length hL, hlen.1]
    omega
  exact ⟨hv, hn.1, hn.2, h2, h1, hlen.1, faultI_zero.2 ⟨⟨hlen.2.1, hlen.2.2.1⟩, by rw [hd]; exact Nat.le_refl _, hlen.2.2.2⟩, hd, rfl⟩
theorem secS_put {S : List (List UInt8)} {B : List Int} {w : Int × List UInt8} (hv : VolP S B) (h1 : 1 ≤ w.1) (hw : w.2.length = 128) (hf : faultI S.length B w = 0) (i : Int) :
    secS (putS S w) B i = if 1 ≤ i ∧ i < 32 ∧ 19 + i / 4 = w.1 then (w.2, 0) else secS S B i := by
  obtain ⟨hv', _⟩ := putS_vol hv h1 (by omega)
  unfold secS
  rw [if_pos hv', if_pos hv]
  by_cases h2 : 1 ≤ i ∧ i < 32
  · by_cases h3 : 19 + i / 4 = w.1
    · rw [if_pos h2, if_pos ⟨h2.1, h2.2, h3⟩, h3, readS_put hf, hw]
      simp
    · rw [if_pos h2, if_neg (fun h => h3 h.2.2), if_pos h2, readS_other (by omega) h3]
  · rw [if_neg h2, if_neg (fun h => h2 ⟨h.1, h.2.1⟩), if_neg h2]
theorem slot_same (s b : List UInt8) (o : Nat) (ho : o + 32 ≤ s.length) (hb : b.length = 32) : ((s.take o ++ (b ++ s.drop (o + 32))).drop o).take 32 = b := by
  rw [List.drop_append_of_le_length (by rw [List.length_take]; omega), List.drop_eq_nil_of_le (by rw [List.length_take]; omega), List.nil_append, List.take_append_of_le_length (by omega), List.take_of_length_le (by omega)]
theorem slot_other (s b : List UInt8) (o o' : Nat) (ho : o + 32 ≤ s.length) (hb : b.length = 32) (h : o' + 32 ≤ o ∨ o + 32 ≤ o') : ((s.take o ++ (b ++ s.drop (o + 32))).drop o').take 32 = (s.drop o').take 32 := by
  apply List.ext_getElem?
  intro j
  by_cases hj : j < 32
  · rw [List.getElem?_take_of_lt hj, List.getElem?_take_of_lt hj, List.getElem?_drop, List.getElem?_drop]
    rcases h with h | h
    · rw [List.getElem?_append_left (by rw [List.length_take]; omega), List.getElem?_take_of_lt (by omega)]
    · rw [List.getElem?_append_right (by rw [List.length_take]; omega), List.getElem?_append_right (by rw [List.length_take]; omega), List.getElem?_drop, List.length_take, hb]
      congr 1
      omega
  · rw [List.getElem?_eq_none (by rw [List.length_take]; omega), List.getElem?_eq_none (by rw [List.length_take]; omega)]
/-- After the write of an inode. -/
theorem get_put {S : List (List UInt8)} {B : List Int} {n k l z : Int} {L : List Int} (hL : L.length = 8) (h : (putW S B n k l z L).2 = 0) (i : Int) :
    getV (putS S (putW S B n k l z L).1) B i = (if i = n then inoV k l z L else getV S B i) ∧ getE (putS S (putW S B n k l z L).1) B i = if i = n then 0 else getE S B i := by
  obtain ⟨hv, hn1, hn2, hval, hr, hlen, hf, hw, he⟩ := put_ok hL h
  have hs := secS_put hv (by rw [he]; dsimp only; omega) hw hf i
  have hself : secS S B n = readS S B (19 + n / 4) := by unfold secS; rw [if_pos hv, if_pos ⟨hn1, hn2⟩]
  generalize putW S B n k l z L = p at h hf hw he hs
  generalize hrr : readS S B (19 + n / 4) = r at hr hlen he hself
  have hB := bytesI_length (k := k) (l := l) (z := z) hL
  have ho : n.toNat % 4 * 32 + 32 ≤ r.1.length := by omega
  unfold getV getE inoS
  by_cases hi : i = n
  · rw [if_pos hi, if_pos hi]
    subst hi
    rw [he] at hs
    rw [if_pos ⟨hn1, hn2, rfl⟩] at hs
    rw [he, hs]
    dsimp only
    rw [if_pos rfl, if_pos rfl, slot_same _ _ _ ho hB]
    exact parse_bytes hL hval
  · rw [if_neg hi, if_neg hi, hs]
    by_cases h3 : 1 ≤ i ∧ i < 32 ∧ 19 + i / 4 = p.1.1
    · rw [if_pos h3]
      have h4 : 19 + i / 4 = 19 + n / 4 := by have := h3.2.2; rw [he] at this; exact this
      have hi' : secS S B i = r := by unfold secS; rw [if_pos hv, if_pos ⟨h3.1, h3.2.1⟩, h4, hrr]
      rw [hi', hr, he]
      dsimp only
      rw [if_pos rfl, if_pos rfl, slot_other _ _ _ _ ho hB (by omega)]
      exact ⟨rfl, rfl⟩
    · rw [if_neg h3]
      exact ⟨rfl, rfl⟩
end Go.Abs
