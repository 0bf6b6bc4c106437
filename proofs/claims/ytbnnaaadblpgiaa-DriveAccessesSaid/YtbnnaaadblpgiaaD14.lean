/- Proved here: what functions of the program compute, over the evaluator. No condition but those that each theorem states. -/
import Derived.Test.YtbnnaaadblpgiaaD13
namespace Go.Abs
open Go.Proofs
set_option maxRecDepth 100000
set_option linter.unusedSimpArgs false

abbrev OkAll (n : Nat) (B : List Int) (l : List (Int × List UInt8)) : Prop := ∀ w ∈ l, faultI n B w = 0
abbrev puts (S : List (List UInt8)) (l : List (Int × List UInt8)) : List (List UInt8) := l.foldl putS S

theorem puts_length : ∀ (l : List (Int × List UInt8)) (S : List (List UInt8)), (puts S l).length = S.length
  | [], S => rfl
  | w :: l, S => by show (puts (putS S w) l).length = _; rw [puts_length l, putS_length]

theorem applyS_fuse (B : List Int) : ∀ (l : List (Int × List UInt8)) (S : List (List UInt8)) (i k : Nat), OkAll S.length B l → i ≤ k → applyS B k S i l = (puts S (l.take (k - i)), min k (i + l.length), 0)
  | [], S, i, k, _, h => by simp [applyS]; omega
  | w :: l, S, i, k, ho, h => by
    rw [applyS]
    by_cases hk : i = k
    · subst hk
      simp
    · rw [if_neg (by omega), if_pos (ho w (List.mem_cons_self ..)), applyS_fuse B l (putS S w) (i + 1) k (by rw [putS_length]; exact fun w hw => ho w (List.mem_cons_of_mem _ hw)) (by omega)]
      have : k - i = (k - (i + 1)) + 1 := by omega
      rw [this, List.take_succ_cons, List.length_cons, show i + 1 + l.length = i + (l.length + 1) by omega]
      rfl
theorem applyS_all (B : List Int) : ∀ (l : List (Int × List UInt8)) (S : List (List UInt8)) (i : Nat), OkAll S.length B l → applyS B (-1) S i l = (puts S l, i + l.length, 0)
  | [], S, i, _ => rfl
  | w :: l, S, i, ho => by
    rw [applyS, if_neg (by omega), if_pos (ho w (List.mem_cons_self ..)), applyS_all B l (putS S w) (i + 1) (by rw [putS_length]; exact fun w hw => ho w (List.mem_cons_of_mem _ hw))]
    rw [List.length_cons, show i + 1 + l.length = i + (l.length + 1) by omega]
    rfl
theorem applyS_err (B : List Int) : ∀ (l : List (Int × List UInt8)) (S : List (List UInt8)) (i : Nat), ¬ OkAll S.length B l → (applyS B (-1) S i l).2.2 ≠ 0 ∧ (applyS B (-1) S i l).2.1 < i + l.length
  | [], S, i, ho => absurd (fun w hw => by simp at hw) ho
  | w :: l, S, i, ho => by
    rw [applyS, if_neg (by omega)]
    by_cases hw : faultI S.length B w = 0
    · rw [if_pos hw]
      have := applyS_err B l (putS S w) (i + 1) (fun h => ho fun v hv => by
        rw [putS_length] at h
        rcases List.mem_cons.1 hv with rfl | hv
        · exact hw
        · exact h v hv)
      simp only [List.length_cons]
      exact ⟨this.1, by omega⟩
    · rw [if_neg hw]
      exact ⟨hw, by simp⟩
theorem RightP_puts {B : List Int} : ∀ (l : List (Int × List UInt8)) (S : List (List UInt8)), RightP S B → OkAll S.length B l → RightP (puts S l) B
  | [], S, h, _ => h
  | w :: l, S, h, ho => RightP_puts l (putS S w) (RightP_put h (faultI_zero.1 (ho w (List.mem_cons_self ..))).2.1) (by rw [putS_length]; exact fun v hv => ho v (List.mem_cons_of_mem _ hv))
theorem puts_other {B : List Int} : ∀ (l : List (Int × List UInt8)) (S : List (List UInt8)), OkAll S.length B l → ∀ j : Nat, S[j]? ≠ (puts S l)[j]? → ∃ w ∈ l, w.1 = j
  | [], S, _, j, h => absurd rfl h
  | w :: l, S, ho, j, h => by
    by_cases hw : w.1 = j
    · exact ⟨w, List.mem_cons_self .., hw⟩
    · have h0 := (faultI_zero.1 (ho w (List.mem_cons_self ..))).1.1
      have e : (putS S w)[j]? = S[j]? := by
        unfold putS
        rw [List.getElem?_set_ne (by omega)]
      obtain ⟨v, hv, h2⟩ := puts_other l (putS S w) (by rw [putS_length]; exact fun v hv => ho v (List.mem_cons_of_mem _ hv)) j (by rw [e]; exact h)
      exact ⟨v, List.mem_cons_of_mem _ hv, h2⟩
theorem diffL_mem {S T : List (List UInt8)} {n : Nat} {x : Int} (h : x ∈ diffL S T n) : ∃ j : Nat, x = j ∧ S[j]? ≠ T[j]? := by
  unfold diffL at h
  obtain ⟨j, h1, rfl⟩ := List.mem_map.1 h
  rw [List.mem_filter] at h1
  exact ⟨j, rfl, by simpa using h1.2⟩

theorem is_same {C : Ctx} {d : Bool} {env : Env} {H : Heap} {N : Env → Heap → Prop} {dst : Option Nat} {op : Op} {t : Nat} {g : Option (Option Nat × Bool)} {r : List Sop} {v : V} (hw : want1 env g = .yes) (he : ev1 C.P (pickC C.loud d (callW C) op) env H op t = some (v, H)) (h : Op1 C d r (env.put dst v) H N) : Op1 C d (⟨dst, op, t, g⟩ :: r) env H N := op_yes hw he h

end Go.Abs
