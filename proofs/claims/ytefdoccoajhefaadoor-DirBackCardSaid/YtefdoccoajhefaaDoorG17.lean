/- Proved here: what functions of the program compute, over the evaluator. No condition but those that each theorem states. -/
import Derived.Test.YtefdoccoajhefaaDoorG16
namespace Go.Abs
open Go.Proofs
set_option maxRecDepth 100000
set_option linter.unusedSimpArgs false
set_option linter.unusedVariables false

theorem decE_eq (s : List UInt8) (j : Nat) : decE s j = (trimR ((s.drop (16 * j + 2)).take 14), word (s.getD (16 * j) 0) (s.getD (16 * j + 1) 0)) := by
  unfold decE
  rw [List.drop_take, show 16 * j + 16 - (16 * j + 2) = 14 by omega]
theorem decE_succ (s : List UInt8) (j : Nat) : decE s (j + 1) = decE (s.drop 16) j := by
  rw [decE_eq, decE_eq, List.drop_drop]
  have e1 : 16 * (j + 1) + 2 = 16 + (16 * j + 2) := by omega
  have e2 : (s.drop 16).getD (16 * j) 0 = s.getD (16 * (j + 1)) 0 := by
    rw [List.getD_eq_getElem?_getD, List.getD_eq_getElem?_getD, List.getElem?_drop, show 16 + 16 * j = 16 * (j + 1) by omega]
  have e3 : (s.drop 16).getD (16 * j + 1) 0 = s.getD (16 * (j + 1) + 1) 0 := by
    rw [List.getD_eq_getElem?_getD, List.getD_eq_getElem?_getD, List.getElem?_drop, show 16 + (16 * j + 1) = 16 * (j + 1) + 1 by omega]
  rw [e1, e2, e3]
theorem decL_cons (s : List UInt8) (n : Nat) : decL s (n + 1) = decE s 0 :: decL (s.drop 16) n := by
  unfold decL
  rw [List.range_succ_eq_map, List.map_cons, List.map_map]
  congr 1
  apply List.map_congr_left
  intro j _
  exact decE_succ s j

theorem trimR_zeros (t : List UInt8) : ∀ n, trimR (t ++ List.replicate n 0) = trimR t
  | 0 => by simp
  | n + 1 => by rw [List.replicate_succ', ← List.append_assoc, trimR_snoc, if_pos rfl, trimR_zeros t n]
theorem trimR_pad : ∀ (k : Nat) (t : List UInt8), t.length = k → t = trimR t ++ List.replicate (t.length - (trimR t).length) 0
  | 0, t, h => by
    have : t = [] := List.length_eq_zero_iff.1 h
    subst this
    rfl
  | k + 1, t, h => by
    rcases List.eq_nil_or_concat t with h0 | ⟨u, x, h0⟩
    · subst h0; cases h
    · rw [List.concat_eq_append] at h0
      subst h0
      have hu : u.length = k := by simpa using h
      rw [trimR_snoc]
      by_cases hx : x = 0
      · subst hx
        have ih := trimR_pad k u hu
        have hl := trimR_length u
        rw [if_pos rfl, List.length_append, List.length_singleton, show u.length + 1 - (trimR u).length = (u.length - (trimR u).length) + 1 by omega, List.replicate_succ', ← List.append_assoc, ← ih]
      · rw [if_neg hx]; simp
theorem trimR_same {t : List UInt8} (h : ∀ x ∈ t, x ≠ 0) : trimR t = t := by
  rcases List.eq_nil_or_concat t with h0 | ⟨u, x, h0⟩
  · subst h0; rfl
  · rw [List.concat_eq_append] at h0
    subst h0
    rw [trimR_snoc, if_neg (h x (by simp))]

theorem put2_word (x y : UInt8) : put2 (word x y) = [x, y] := by
  have hx := x.toNat_lt
  have hy := y.toNat_lt
  have e : (word x y).toNat = x.toNat + 256 * y.toNat := by unfold word; omega
  unfold put2
  rw [e, show (x.toNat + 256 * y.toNat) % 256 = x.toNat by omega, show (x.toNat + 256 * y.toNat) / 256 % 256 = y.toNat by omega]
  simp
theorem word_put2 {n : Int} (h1 : 0 ≤ n) (h2 : n < 256) : ∃ x y, put2 n = [x, y] ∧ word x y = n := by
  refine ⟨_, _, rfl, ?_⟩
  unfold word
  have e1 : (UInt8.ofNat (n.toNat % 256)).toNat = n.toNat := by rw [UInt8.toNat_ofNat']; omega
  have e2 : (UInt8.ofNat (n.toNat / 256 % 256)).toNat = 0 := by rw [UInt8.toNat_ofNat']; omega
  rw [e1, e2]
  omega

theorem nameOk_nz {s : List UInt8} (h : nameOk s = true) : ∀ x ∈ s, x ≠ 0 := fun x hx h0 => by
  simp only [nameOk, Bool.and_eq_true] at h
  have := List.all_eq_true.1 h.2 x hx
  subst h0
  exact absurd this (by decide)

theorem dec_enc (p : List UInt8 × Int) (hp : entOk p = true) (t : List UInt8) : decE (encE p ++ t) 0 = p ∧ (encE p ++ t).drop 16 = t := by
  obtain ⟨h1, h2, h3⟩ := entOk_len hp
  obtain ⟨x, y, e1, e2⟩ := word_put2 (n := p.2) (by omega) (by omega)
  have h16 := encE_length hp
  have hn : nameOk p.1 = true := by rw [entOk, Bool.and_eq_true] at hp; exact hp.1
  refine ⟨?_, List.drop_left' h16⟩
  rw [decE_eq]
  have e3 : encE p ++ t = x :: y :: (p.1 ++ List.replicate (14 - p.1.length) 0 ++ t) := by simp [encE, e1]
  rw [e3]
  have e4 : (p.1 ++ List.replicate (14 - p.1.length) (0 : UInt8)).length = 14 := by simp; omega
  simp only [Nat.mul_zero, Nat.zero_add, List.drop_succ_cons, List.drop_zero, List.getD_cons_zero, List.getD_cons_succ]
  rw [List.take_left' e4, trimR_zeros, trimR_same (nameOk_nz hn), e2]
theorem dec_encL : ∀ (l : List (List UInt8 × Int)), (∀ p ∈ l, entOk p = true) → decL (encL l) l.length = l
  | [], _ => rfl
  | p :: l, h => by
    have e1 : encL (p :: l) = encE p ++ encL l := rfl
    obtain ⟨h1, h2⟩ := dec_enc p (h p (by simp)) (encL l)
    rw [e1, List.length_cons, decL_cons, h1, h2, dec_encL l fun q hq => h q (by simp [hq])]
theorem enc_dec (s : List UInt8) (h : 16 ≤ s.length) : encE (decE s 0) = s.take 16 := by
  rw [decE_eq]
  match s, h with
  | x :: y :: r, h =>
    simp only [Nat.mul_zero, Nat.zero_add, List.drop_succ_cons, List.drop_zero, List.getD_cons_zero, List.getD_cons_succ]
    unfold encE
    simp only
    rw [put2_word]
    have hr : (r.take 14).length = 14 := by simp at h ⊢; omega
    have := trimR_pad 14 (r.take 14) hr
    rw [hr] at this
    rw [← this]
    rfl
theorem enc_decL : ∀ (n : Nat) (s : List UInt8), s.length = 16 * n → encL (decL s n) = s
  | 0, s, h => by
    have : s = [] := List.length_eq_zero_iff.1 (by omega)
    subst this
    rfl
  | n + 1, s, h => by
    rw [decL_cons]
    show encE (decE s 0) ++ encL (decL (s.drop 16) n) = s
    rw [enc_dec s (by omega), enc_decL n (s.drop 16) (by simp; omega), List.take_append_drop]
end Go.Abs
