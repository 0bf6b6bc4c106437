/- Proved here: what functions of the program compute, over the evaluator. No condition but those that each theorem states. -/
import Derived.Test.YtpffmpllnpmkbaaDoorE22
namespace Go.Abs
open Go.Proofs
set_option maxRecDepth 100000
set_option linter.unusedSimpArgs false
set_option linter.unusedVariables false

def chk2 (x r q : Nat) : Bool := (decide (markN x r true / 2 ^ q % 2 = if q = r then 1 else x / 2 ^ q % 2) && decide (markN x r false / 2 ^ q % 2 = if q = r then 0 else x / 2 ^ q % 2))
theorem chk2_all : ((List.range 256).all fun x => (List.range 8).all fun r => (List.range 8).all fun q => chk2 x r q) = true := by kernel_rfl
theorem chk2_at {x r q : Nat} (hx : x < 256) (hr : r < 8) (hq : q < 8) (u : Bool) : markN x r u / 2 ^ q % 2 = if q = r then (if u then 1 else 0) else x / 2 ^ q % 2 := by
  have h := List.all_eq_true.1 (List.all_eq_true.1 (List.all_eq_true.1 chk2_all x (List.mem_range.2 hx)) r (List.mem_range.2 hr)) q (List.mem_range.2 hq)
  unfold chk2 at h
  simp only [Bool.and_eq_true, decide_eq_true_eq] at h
  cases u
  · exact h.2
  · exact h.1
theorem markN_lt {x r : Nat} (hx : x < 256) (hr : r < 8) (u : Bool) : markN x r u < 256 := by
  have h := chk_at hx hr
  cases u
  · exact h.2.1
  · exact h.1
theorem bitB_mark (s : List UInt8) (m i : Nat) (u : Bool) (hm : m / 8 < s.length) : bitB (markS s m u) i = if i = m then u else bitB s i := by
  unfold bitB markS
  have hx := (s.getD (m / 8) 0).toNat_lt
  have hr : m % 8 < 8 := Nat.mod_lt _ (by omega)
  have hr' : i % 8 < 8 := Nat.mod_lt _ (by omega)
  by_cases h8 : i / 8 = m / 8
  · rw [h8]
    rw [List.getD_eq_getElem?_getD, List.getElem?_set_self hm, Option.getD_some]
    have hlt := markN_lt (x := (s.getD (m / 8) 0).toNat) (by omega) hr u
    rw [UInt8.toNat_ofNat_of_lt' hlt, chk2_at (by omega) hr hr' u]
    by_cases hi : i = m
    · subst hi
      rw [if_pos rfl, if_pos rfl]
      cases u <;> rfl
    · rw [if_neg hi, if_neg (by omega)]
  · rw [List.getD_eq_getElem?_getD, List.getElem?_set_ne (Ne.symm h8), ← List.getD_eq_getElem?_getD]
    rw [if_neg (by omega)]
theorem markF_ok {N : Int} {u : Bool} (hN : N ≤ 229) : ∀ {l : List Int} {s t : List UInt8}, s.length = 128 → markF N u s l = some t → t.length = 128 ∧ ∀ i : Nat, bitB t i = if (i : Int) ∈ l then u else bitB s i
  | [], s, t, hs, h => by
    simp [markF] at h
    subst h
    exact ⟨hs, fun i => by simp⟩
  | x :: l, s, t, hs, h => by
    rw [markF] at h
    split at h
    · rename_i hx
      obtain ⟨h1, h2⟩ := markF_ok hN (by rw [markS_length]; exact hs) h
      refine ⟨h1, fun i => ?_⟩
      rw [h2, bitB_mark s x.toNat i u (by omega)]
      by_cases hi : (i : Int) ∈ l
      · rw [if_pos hi, if_pos (List.mem_cons_of_mem _ hi)]
      · rw [if_neg hi]
        by_cases hix : i = x.toNat
        · rw [if_pos hix, if_pos (by rw [show (i : Int) = x by omega]; exact List.mem_cons_self ..)]
        · rw [if_neg hix, if_neg (by
            intro hm
            rcases List.mem_cons.1 hm with hm | hm
            · omega
            · exact hi hm)]
    · cases h
/-- After the write of a mark. -/
theorem mark_ok {S : List (List UInt8)} {B l : List Int} {u : Bool} (h : (markW S B l u).2 = 0) :
    VolP S B ∧ (mapS S B).2 = 0 ∧ faultI S.length B (markW S B l u).1 = 0 ∧ ∃ t, (markW S B l u).1 = (18, t) ∧ VolP (putS S (18, t)) B ∧ freeN (putS S (18, t)) = freeN S ∧ mapS (putS S (18, t)) B = (t, 0) ∧ t.length = 128 ∧ ∀ i : Nat, bitB t i = if (i : Int) ∈ l then u else bitB (mapS S B).1 i := by
  unfold markW at h ⊢
  by_cases h1 : (mapS S B).2 = 0
  case neg => rw [if_neg h1] at h; exact absurd h h1
  rw [if_pos h1] at h ⊢
  obtain ⟨hv, hl⟩ := map_ok h1
  have hN := (freeN_eq hv).2
  generalize ht : markF (freeN S) u (mapS S B).1 l = r at h ⊢
  match r, ht with
  | none, _ => cases h
  | some t, ht =>
    obtain ⟨h2, h3⟩ := markF_ok (by omega) hl ht
    have hvb := vol_bounds hv
    have hB18 : (18 : Int) ∉ B := by
      intro hm
      unfold mapS at h1
      rw [if_pos hv] at h1
      unfold readS at h1
      rw [if_pos (by omega), if_pos hm] at h1
      exact absurd h1 (by simp)
    have hf : faultI S.length B (18, t) = 0 := faultI_zero.2 ⟨⟨by dsimp only; omega, by dsimp only; omega⟩, by dsimp only; omega, hB18⟩
    obtain ⟨hv', hsw⟩ := putS_vol (w := (18, t)) hv (by dsimp only; omega) (by dsimp only; omega)
    refine ⟨hv, h1, hf, t, rfl, hv', by unfold freeN; rw [hsw, putS_length], ?_, h2, h3⟩
    unfold mapS
    rw [if_pos hv', readS_put hf]
    simp [h2]
theorem freeL_mem {s : List UInt8} {n : Nat} {x : Int} (h : x ∈ freeL s n) : ∃ m : Nat, x = m ∧ 27 ≤ m ∧ m < 27 + n ∧ bitB s m = false := by
  unfold freeL at h
  obtain ⟨i, h1, rfl⟩ := List.mem_map.1 h
  obtain ⟨h2, h3⟩ := List.mem_filter.1 h1
  have := List.mem_range.1 h2
  exact ⟨27 + i, rfl, by omega, by omega, by simpa using h3⟩
theorem freeL_sorted (s : List UInt8) (n : Nat) : (freeL s n).Pairwise (· < ·) := by
  unfold freeL
  refine List.Pairwise.map _ (fun a b (h : a < b) => ?_) (List.Pairwise.filter _ List.pairwise_lt_range)
  omega

end Go.Abs
