/- Proved here: what functions of the program compute, over the evaluator. No condition but those that each theorem states. -/
import Derived.Test.YtefdoccoajhefaaDoorCUT
namespace Go.Abs
open Go.Proofs
set_option maxRecDepth 100000
set_option linter.unusedSimpArgs false
set_option linter.unusedVariables false

@[simp] theorem u8s_len (a : List UInt8) : (u8s a).length = a.length := by simp [u8s]
@[simp] theorem u8s_get (s : List UInt8) (i : Nat) (h : i < (u8s s).length) : (u8s s)[i] = .int .u8 ((s[i]'(by simpa using h)).toNat : Nat) := by simp [u8s]
theorem u8s_at {s : List UInt8} {i : Nat} (h : i < s.length) : (u8s s)[i]? = some (.int .u8 (s[i].toNat : Nat)) := by simp [u8s, h]
theorem all_step {α : Type} {p : α → Bool} {s : List α} {i : Nat} (hi : i < s.length) (h : (s.take i).all p = true) (hp : p s[i] = true) : (s.take (i + 1)).all p = true := by
  rw [List.take_succ_eq_append_getElem hi, List.all_append, h, List.all_cons, hp]; rfl
theorem all_not {α : Type} {p : α → Bool} {s : List α} {i : Nat} (hi : i < s.length) (hp : p s[i] = false) : s.all p = false := by
  rw [Bool.eq_false_iff]
  intro h
  rw [List.all_eq_true] at h
  rw [h _ (List.getElem_mem hi)] at hp
  cases hp

theorem ch_int {c : UInt8} : chOk c = (decide ((33 : Int) ≤ c.toNat) && decide ((c.toNat : Int) ≤ 126) && !((c.toNat : Int) == 47)) := by
  unfold chOk
  have h1 : decide (33 ≤ c.toNat) = decide ((33 : Int) ≤ c.toNat) := by congr 1; exact propext (by omega)
  have h2 : decide (c.toNat ≤ 126) = decide ((c.toNat : Int) ≤ 126) := by congr 1; exact propext (by omega)
  have h3 : (c == 47) = ((c.toNat : Int) == 47) := by
    rw [Bool.eq_iff_iff]
    simp only [beq_iff_eq]
    rw [← UInt8.toNat_inj]
    show c.toNat = 47 ↔ _
    omega
  rw [h1, h2, h3]

theorem Valid_eq (s : List UInt8) : bodyW D0 11 [.str s] [] = some (.bool (nameOk s), []) := by
  by_cases h1 : s = []
  · subst h1
    (refine gives_iff ?_; refine go_func Tryd.f11 rfl rfl (by simp [Tryd.f11]) ?_; dsimp only [codeL, Tryd.f11, scL, sopsL, guardL, dstAt, loopKey])
    (repeat (first
    | (apply is_ok; (case hw => simp); (case he => simp; exact is_rfl))
    | (apply op_no; (case hw => simp))
    | refine op_nil ?_ | refine next_normal ?_ | refine go_seq ?_ | refine go_region ?_ | refine go_skip ?_ | refine go_block ?_ | refine inb_normal ?_
    | (apply go_yes; (case hc => simp)) | (apply go_no; (case hc => simp))
    | refine go_exit ?_ | refine next_exit ?_ | refine inb_here ?_ | refine inb_past (by decide) ?_ | refine go_ret ?_ | refine next_ret ?_ | refine inb_ret ?_))
    (apply ends_ok; (case h1 => simp; exact is_rfl); (case h2 => simp; exact is_rfl))
    exact ⟨rfl, rfl⟩
  by_cases h2 : s = [46]
  · subst h2
    (refine gives_iff ?_; refine go_func Tryd.f11 rfl rfl (by simp [Tryd.f11]) ?_; dsimp only [codeL, Tryd.f11, scL, sopsL, guardL, dstAt, loopKey])
    (repeat (first
    | (apply is_ok; (case hw => simp); (case he => simp; exact is_rfl))
    | (apply op_no; (case hw => simp))
    | refine op_nil ?_ | refine next_normal ?_ | refine go_seq ?_ | refine go_region ?_ | refine go_skip ?_ | refine go_block ?_ | refine inb_normal ?_
    | (apply go_yes; (case hc => simp)) | (apply go_no; (case hc => simp))
    | refine go_exit ?_ | refine next_exit ?_ | refine inb_here ?_ | refine inb_past (by decide) ?_ | refine go_ret ?_ | refine next_ret ?_ | refine inb_ret ?_))
    (apply ends_ok; (case h1 => simp; exact is_rfl); (case h2 => simp; exact is_rfl))
    exact ⟨rfl, rfl⟩
  by_cases h3 : s = [46, 46]
  · subst h3
    (refine gives_iff ?_; refine go_func Tryd.f11 rfl rfl (by simp [Tryd.f11]) ?_; dsimp only [codeL, Tryd.f11, scL, sopsL, guardL, dstAt, loopKey])
    (repeat (first
    | (apply is_ok; (case hw => simp); (case he => simp; exact is_rfl))
    | (apply op_no; (case hw => simp))
    | refine op_nil ?_ | refine next_normal ?_ | refine go_seq ?_ | refine go_region ?_ | refine go_skip ?_ | refine go_block ?_ | refine inb_normal ?_
    | (apply go_yes; (case hc => simp)) | (apply go_no; (case hc => simp))
    | refine go_exit ?_ | refine next_exit ?_ | refine inb_here ?_ | refine inb_past (by decide) ?_ | refine go_ret ?_ | refine next_ret ?_ | refine inb_ret ?_))
    (apply ends_ok; (case h1 => simp; exact is_rfl); (case h2 => simp; exact is_rfl))
    exact ⟨rfl, rfl⟩
  by_cases h4 : (14 : Int) < s.length
  · have : nameOk s = false := by
      have : decide (s.length ≤ 14) = false := by simp; omega
      simp [nameOk, this]
    rw [this]
    (refine gives_iff ?_; refine go_func Tryd.f11 rfl rfl (by simp [Tryd.f11]) ?_; dsimp only [codeL, Tryd.f11, scL, sopsL, guardL, dstAt, loopKey])
    (repeat (first
    | (apply is_ok; (case hw => simp [h1, h2, h3, h4]); (case he => simp [h1, h2, h3, h4]; exact is_rfl))
    | (apply op_no; (case hw => simp [h1, h2, h3, h4]))
    | refine op_nil ?_ | refine next_normal ?_ | refine go_seq ?_ | refine go_region ?_ | refine go_skip ?_ | refine go_block ?_ | refine inb_normal ?_
    | (apply go_yes; (case hc => simp [h1, h2, h3, h4])) | (apply go_no; (case hc => simp [h1, h2, h3, h4]))
    | refine go_exit ?_ | refine next_exit ?_ | refine inb_here ?_ | refine inb_past (by decide) ?_ | refine go_ret ?_ | refine next_ret ?_ | refine inb_ret ?_))
    (apply ends_ok; (case h1 => simp; exact is_rfl); (case h2 => simp; exact is_rfl))
    exact ⟨rfl, rfl⟩
  have h5 : s.length ≤ room := by unfold room; omega
  have h6 : nameOk s = s.all chOk := by
    have e1 : (s == []) = false := by simpa using h1
    have e2 : (s == [46]) = false := by simpa using h2
    have e3 : (s == [46, 46]) = false := by simpa using h3
    have e4 : decide (s.length ≤ 14) = true := by simp; omega
    unfold nameOk
    rw [e1, e2, e3, e4]
    simp
  rw [h6]
  (refine gives_iff ?_; refine go_func Tryd.f11 rfl rfl (by simp [Tryd.f11]) ?_; dsimp only [codeL, Tryd.f11, scL, sopsL, guardL, dstAt, loopKey])
  (repeat (first
    | (apply is_ok; (case hw => simp [h1, h2, h3, h4, h5]); (case he => simp [h1, h2, h3, h4, h5]; exact is_rfl))
    | (apply op_no; (case hw => simp [h1, h2, h3, h4, h5]))
    | refine op_nil ?_ | refine next_normal ?_ | refine go_seq ?_ | refine go_region ?_ | refine go_skip ?_ | refine go_block ?_ | refine inb_normal ?_
    | (apply go_yes; (case hc => simp [h1, h2, h3, h4, h5])) | (apply go_no; (case hc => simp [h1, h2, h3, h4, h5]))
    | refine go_exit ?_ | refine next_exit ?_ | refine inb_here ?_ | refine inb_past (by decide) ?_ | refine go_ret ?_ | refine next_ret ?_ | refine inb_ret ?_))
  refine go_count s.length (fun i => [(21, .own 0 s.length 0 s.length), (22, .int .i64 s.length), (23, .int .i64 i)]) (fun _ => [.dat true 1 (u8s s)]) (fun i => (s.take i).all chOk = true) (by simp) rfl fun i hi hall => ?_
  by_cases hlt : i < s.length
  · have g1 : (i : Int) < s.length := by omega
    by_cases hc : chOk s[i] = true
    · have hc' := hc
      rw [ch_int] at hc
      simp only [Bool.and_eq_true, decide_eq_true_eq, Bool.not_eq_true', beq_eq_false_iff_ne, ne_eq] at hc
      have q1 : ¬ (s[i].toNat : Int) < 33 := by omega
      have q2 : ¬ (126 : Int) < s[i].toNat := by omega
      have q3 : ¬ (s[i].toNat : Int) = 47 := hc.2
      have q4 : IntKind.i64.wrap ((i : Int) + 1) = (i : Int) + 1 := wrap_id (by omega) (by omega)
      (repeat (first
    | (apply is_ok; (case hw => simp [g1, hlt, u8s_at hlt, q1, q2, q3, q4]); (case he => simp [g1, hlt, u8s_at hlt, q1, q2, q3, q4]; exact is_rfl))
    | (apply op_no; (case hw => simp [g1, hlt, u8s_at hlt, q1, q2, q3, q4]))
    | refine op_nil ?_ | refine next_normal ?_ | refine go_seq ?_ | refine go_region ?_ | refine go_skip ?_ | refine go_block ?_ | refine inb_normal ?_
    | (apply go_yes; (case hc => simp [g1, hlt, u8s_at hlt, q1, q2, q3, q4])) | (apply go_no; (case hc => simp [g1, hlt, u8s_at hlt, q1, q2, q3, q4]))
    | refine go_exit ?_ | refine next_exit ?_ | refine inb_here ?_ | refine inb_past (by decide) ?_ | refine go_ret ?_ | refine next_ret ?_ | refine inb_ret ?_))
      exact ⟨hlt, by simp, all_step hlt hall hc'⟩
    · have hc' : chOk s[i] = false := by simpa using hc
      rw [all_not hlt hc']
      rw [ch_int] at hc
      simp only [Bool.and_eq_true, decide_eq_true_eq, Bool.not_eq_true', beq_eq_false_iff_ne, ne_eq] at hc
      by_cases q1 : (s[i].toNat : Int) < 33
      · (repeat (first
    | (apply is_ok; (case hw => simp [g1, hlt, u8s_at hlt, q1]); (case he => simp [g1, hlt, u8s_at hlt, q1]; exact is_rfl))
    | (apply op_no; (case hw => simp [g1, hlt, u8s_at hlt, q1]))
    | refine op_nil ?_ | refine next_normal ?_ | refine go_seq ?_ | refine go_region ?_ | refine go_skip ?_ | refine go_block ?_ | refine inb_normal ?_
    | (apply go_yes; (case hc => simp [g1, hlt, u8s_at hlt, q1])) | (apply go_no; (case hc => simp [g1, hlt, u8s_at hlt, q1]))
    | refine go_exit ?_ | refine next_exit ?_ | refine inb_here ?_ | refine inb_past (by decide) ?_ | refine go_ret ?_ | refine next_ret ?_ | refine inb_ret ?_))
        (apply ends_ok; (case h1 => simp; exact is_rfl); (case h2 => simp; exact is_rfl))
        exact ⟨rfl, rfl⟩
      by_cases q2 : (126 : Int) < s[i].toNat
      · (repeat (first
    | (apply is_ok; (case hw => simp [g1, hlt, u8s_at hlt, q1, q2]); (case he => simp [g1, hlt, u8s_at hlt, q1, q2]; exact is_rfl))
    | (apply op_no; (case hw => simp [g1, hlt, u8s_at hlt, q1, q2]))
    | refine op_nil ?_ | refine next_normal ?_ | refine go_seq ?_ | refine go_region ?_ | refine go_skip ?_ | refine go_block ?_ | refine inb_normal ?_
    | (apply go_yes; (case hc => simp [g1, hlt, u8s_at hlt, q1, q2])) | (apply go_no; (case hc => simp [g1, hlt, u8s_at hlt, q1, q2]))
    | refine go_exit ?_ | refine next_exit ?_ | refine inb_here ?_ | refine inb_past (by decide) ?_ | refine go_ret ?_ | refine next_ret ?_ | refine inb_ret ?_))
        (apply ends_ok; (case h1 => simp; exact is_rfl); (case h2 => simp; exact is_rfl))
        exact ⟨rfl, rfl⟩
      have q3 : (s[i].toNat : Int) = 47 := by omega
      (repeat (first
    | (apply is_ok; (case hw => simp [g1, hlt, u8s_at hlt, q1, q2, q3]); (case he => simp [g1, hlt, u8s_at hlt, q1, q2, q3]; exact is_rfl))
    | (apply op_no; (case hw => simp [g1, hlt, u8s_at hlt, q1, q2, q3]))
    | refine op_nil ?_ | refine next_normal ?_ | refine go_seq ?_ | refine go_region ?_ | refine go_skip ?_ | refine go_block ?_ | refine inb_normal ?_
    | (apply go_yes; (case hc => simp [g1, hlt, u8s_at hlt, q1, q2, q3])) | (apply go_no; (case hc => simp [g1, hlt, u8s_at hlt, q1, q2, q3]))
    | refine go_exit ?_ | refine next_exit ?_ | refine inb_here ?_ | refine inb_past (by decide) ?_ | refine go_ret ?_ | refine next_ret ?_ | refine inb_ret ?_))
      (apply ends_ok; (case h1 => simp; exact is_rfl); (case h2 => simp; exact is_rfl))
      exact ⟨rfl, rfl⟩
  · have g1 : ¬ (i : Int) < s.length := by omega
    have : i = s.length := by omega
    subst this
    rw [List.take_length] at hall
    rw [hall]
    (repeat (first
    | (apply is_ok; (case hw => simp [g1]); (case he => simp [g1]; exact is_rfl))
    | (apply op_no; (case hw => simp [g1]))
    | refine op_nil ?_ | refine next_normal ?_ | refine go_seq ?_ | refine go_region ?_ | refine go_skip ?_ | refine go_block ?_ | refine inb_normal ?_
    | (apply go_yes; (case hc => simp [g1])) | (apply go_no; (case hc => simp [g1]))
    | refine go_exit ?_ | refine next_exit ?_ | refine inb_here ?_ | refine inb_past (by decide) ?_ | refine go_ret ?_ | refine next_ret ?_ | refine inb_ret ?_))
    (apply ends_ok; (case h1 => simp; exact is_rfl); (case h2 => simp; exact is_rfl))
    exact ⟨rfl, rfl⟩
end Go.Abs
