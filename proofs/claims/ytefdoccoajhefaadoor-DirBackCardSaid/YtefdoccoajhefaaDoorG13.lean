/- Proved here: what functions of the program compute, over the evaluator. No condition but those that each theorem states. -/
import Derived.Test.YtefdoccoajhefaaDoorG12
import Derived.Test.YtefdoccoajhefaaDoorOCT
import Derived.Test.YtefdoccoajhefaaDoorTRM
namespace Go.Abs
open Go.Proofs
set_option maxRecDepth 100000
set_option linter.unusedSimpArgs false
set_option linter.unusedVariables false

def encE (p : List UInt8 × Int) : List UInt8 := put2 p.2 ++ (p.1 ++ List.replicate (14 - p.1.length) 0)
def encL (l : List (List UInt8 × Int)) : List UInt8 := l.flatMap encE
theorem repeatL_zero' (n : Nat) : Lib.repeatL [0] n = List.replicate n (0 : UInt8) := by
  induction n with
  | zero => rfl
  | succ n ih => rw [Lib.repeatL, ih, List.replicate_succ]; rfl
theorem entOk_len {p : List UInt8 × Int} (h : entOk p = true) : p.1.length ≤ 14 ∧ 1 ≤ p.2 ∧ p.2 < 32 := by
  rw [entOk, Bool.and_eq_true] at h
  obtain ⟨h1, h2⟩ := h
  simp only [nameOk, Bool.and_eq_true, decide_eq_true_eq] at h1
  simp only [inoOk, Bool.and_eq_true, decide_eq_true_eq] at h2
  exact ⟨h1.1.2, h2⟩
theorem encE_length {p : List UInt8 × Int} (h : entOk p = true) : (encE p).length = 16 := by
  have := (entOk_len h).1
  simp [encE, put2]
  omega
theorem encL_length : ∀ {l : List (List UInt8 × Int)}, (∀ p ∈ l, entOk p = true) → (encL l).length = 16 * l.length
  | [], _ => rfl
  | p :: l, h => by
    rw [encL, List.flatMap_cons, List.length_append, encE_length (h p (by simp)), show (List.flatMap encE l).length = _ from encL_length fun q hq => h q (by simp [hq]), List.length_cons]
    omega
theorem rep_eq (n : Nat) (hn : n ≤ 14) : repeatX [.str [0], .int .i64 (14 - (n : Int))] = some (.str (List.replicate (14 - n) 0), []) := by
  have e : (14 - (n : Int)).toNat = 14 - n := by omega
  simp only [repeatX]
  rw [e, if_pos ⟨by omega, by omega, by simp; omega⟩, repeatL_zero']

@[simp] theorem all_u8s (s : List UInt8) : ((u8s s).all fun e => decide (e.cells.length = 1)) = true := by
  rw [List.all_eq_true]
  intro x hx
  unfold u8s at hx
  obtain ⟨c, _, rfl⟩ := List.mem_map.1 hx
  rfl
@[simp] theorem refsL_u8s (s : List UInt8) : refsL (u8s s) = [] := refsL_none fun x hx => by obtain ⟨a, _, rfl⟩ := List.mem_map.1 hx; rfl
@[simp] theorem renL_u8s (ρ : Nat → Option Nat) (s : List UInt8) : renL ρ (u8s s) = u8s s := renL_same fun x hx => by obtain ⟨a, _, rfl⟩ := List.mem_map.1 hx; rfl
@[simp] theorem u8s_app (a b : List UInt8) : u8s a ++ u8s b = u8s (a ++ b) := by simp [u8s]
/-- What a Builder holds that was begun, or not. -/
def bldV (i : Nat) : V := if i = 0 then .nilx 0 else .ptr 0 1 0 0
theorem WS_eq (i : Nat) (b s : List UInt8) (hb : b.length + s.length ≤ 1000000) (q : List UInt8) (z : Int) : bodyW DC 28 [.ptr 0 1 0 0, .str s] [.arr (some 49) 2 [.agg [bldV i, .own 1 b.length 0 b.length]], .arr (some 5) 1 (u8s b), .box (.agg [.str q, .int .i64 z])] =
    some (.tuple [.int .i64 s.length, .nilx 2], [.arr (some 49) 2 [.agg [.ptr 0 1 0 0, .own 1 (b.length + s.length) 0 (b.length + s.length)]], .arr (some 5) 1 (u8s (b ++ s)), .box (.agg [.str q, .int .i64 z])]) := by
  have r1 : (b.length + s.length) * 1 ≤ room := by unfold room; omega
  have r2 : b.length + s.length ≤ room := by unfold room; omega
  cases i with
  | zero =>
    (refine gives_iff ?_; refine go_func Tryd.f28 rfl rfl (by simp [Tryd.f28]) ?_; dsimp only [codeL, Tryd.f28, scL, sopsL, guardL, dstAt, loopKey])
    (repeat (first
    | (apply is_ok; (case hw => simp [r1, r2, bldV, copyX, pSelf]); (case he => simp [r1, r2, bldV, copyX, pSelf]; exact is_rfl))
    | (apply op_no; (case hw => simp [r1, r2, bldV, copyX, pSelf]))
    | refine op_nil ?_ | refine next_normal ?_ | refine go_seq ?_ | refine go_region ?_ | refine go_skip ?_ | refine go_block ?_ | refine inb_normal ?_
    | (apply go_yes; (case hc => simp [r1, r2, bldV, copyX, pSelf])) | (apply go_no; (case hc => simp [r1, r2, bldV, copyX, pSelf]))
    | refine go_exit ?_ | refine next_exit ?_ | refine inb_here ?_ | refine inb_past (by decide) ?_ | refine go_ret ?_ | refine next_ret ?_ | refine inb_ret ?_))
    (apply ends_ok; (case h1 => simp; exact is_rfl); (case h2 => simp; exact is_rfl))
    simp
  | succ i =>
    (refine gives_iff ?_; refine go_func Tryd.f28 rfl rfl (by simp [Tryd.f28]) ?_; dsimp only [codeL, Tryd.f28, scL, sopsL, guardL, dstAt, loopKey])
    (repeat (first
    | (apply is_ok; (case hw => simp [r1, r2, bldV, copyX, pSelf]); (case he => simp [r1, r2, bldV, copyX, pSelf]; exact is_rfl))
    | (apply op_no; (case hw => simp [r1, r2, bldV, copyX, pSelf]))
    | refine op_nil ?_ | refine next_normal ?_ | refine go_seq ?_ | refine go_region ?_ | refine go_skip ?_ | refine go_block ?_ | refine inb_normal ?_
    | (apply go_yes; (case hc => simp [r1, r2, bldV, copyX, pSelf])) | (apply go_no; (case hc => simp [r1, r2, bldV, copyX, pSelf]))
    | refine go_exit ?_ | refine next_exit ?_ | refine inb_here ?_ | refine inb_past (by decide) ?_ | refine go_ret ?_ | refine next_ret ?_ | refine inb_ret ?_))
    (apply ends_ok; (case h1 => simp; exact is_rfl); (case h2 => simp; exact is_rfl))
    simp

theorem Bytes_eq (l : List (List UInt8 × Int)) (hl : l.length ≤ 70) : bodyW DC 14 [.sl (l.map entV)] [] = some (if 64 < l.length then .tuple [.str [], .int .i64 12] else if validB [] l = true then .tuple [.str (encL l), .int .i64 0] else .tuple [.str [], .int .i64 9], []) := by
  by_cases h1 : 64 < l.length
  · have h1' : (64 : Int) < l.length := by omega
    rw [if_pos h1]
    (refine gives_iff ?_; refine go_func Tryd.f14 rfl rfl (by simp [Tryd.f14]) ?_; dsimp only [codeL, Tryd.f14, scL, sopsL, guardL, dstAt, loopKey])
    (repeat (first
    | (apply is_ok; (case hw => simp [h1']); (case he => simp [h1']; exact is_rfl))
    | (apply op_no; (case hw => simp [h1']))
    | refine op_nil ?_ | refine next_normal ?_ | refine go_seq ?_ | refine go_region ?_ | refine go_skip ?_ | refine go_block ?_ | refine inb_normal ?_
    | (apply go_yes; (case hc => simp [h1'])) | (apply go_no; (case hc => simp [h1']))
    | refine go_exit ?_ | refine next_exit ?_ | refine inb_here ?_ | refine inb_past (by decide) ?_ | refine go_ret ?_ | refine next_ret ?_ | refine inb_ret ?_))
    (apply ends_ok; (case h1 => simp; exact is_rfl); (case h2 => simp; exact is_rfl))
    simp
  rw [if_neg h1]
  have h1' : ¬ (64 : Int) < l.length := by omega
  have v1 := valid_eq l (by unfold maxLen; omega)
  rw [show decide (l.length ≤ 64) = true by simp; omega, Bool.and_true] at v1
  cases hv : validB [] l with
  | false =>
    rw [hv] at v1
    rw [if_neg (by simp)]
    (refine gives_iff ?_; refine go_func Tryd.f14 rfl rfl (by simp [Tryd.f14]) ?_; dsimp only [codeL, Tryd.f14, scL, sopsL, guardL, dstAt, loopKey])
    (repeat (first
    | (apply is_ok; (case hw => simp [h1', v1]); (case he => simp [h1', v1]; exact is_rfl))
    | (apply op_no; (case hw => simp [h1', v1]))
    | refine op_nil ?_ | refine next_normal ?_ | refine go_seq ?_ | refine go_region ?_ | refine go_skip ?_ | refine go_block ?_ | refine inb_normal ?_
    | (apply go_yes; (case hc => simp [h1', v1])) | (apply go_no; (case hc => simp [h1', v1]))
    | refine go_exit ?_ | refine next_exit ?_ | refine inb_here ?_ | refine inb_past (by decide) ?_ | refine go_ret ?_ | refine next_ret ?_ | refine inb_ret ?_))
    (apply ends_ok; (case h1 => simp; exact is_rfl); (case h2 => simp; exact is_rfl))
    simp
  | true =>
  rw [hv] at v1
  rw [if_pos rfl]
  obtain ⟨_, _, hok⟩ := validB_sort l [] hv
  (refine gives_iff ?_; refine go_func Tryd.f14 rfl rfl (by simp [Tryd.f14]) ?_; dsimp only [codeL, Tryd.f14, scL, sopsL, guardL, dstAt, loopKey])
  (repeat (first
    | (apply is_ok; (case hw => simp [h1', v1]); (case he => simp [h1', v1]; exact is_rfl))
    | (apply op_no; (case hw => simp [h1', v1]))
    | refine op_nil ?_ | refine next_normal ?_ | refine go_seq ?_ | refine go_region ?_ | refine go_skip ?_ | refine go_block ?_ | refine inb_normal ?_
    | (apply go_yes; (case hc => simp [h1', v1])) | (apply go_no; (case hc => simp [h1', v1]))
    | refine go_exit ?_ | refine next_exit ?_ | refine inb_here ?_ | refine inb_past (by decide) ?_ | refine go_ret ?_ | refine next_ret ?_ | refine inb_ret ?_))
  refine go_count l.length (fun i => [(4, .ptr 0 1 0 0), (15, .sl (l.map entV)), (16, .int .i64 l.length), (17, .int .i64 i)])
    (fun i => [.arr (some 49) 2 [.agg [bldV i, .own 1 (encL (l.take i)).length 0 (encL (l.take i)).length]], .arr (some 5) 1 (u8s (encL (l.take i)))]) (fun _ => True) (by simp [encL, u8s, bldV]) trivial fun i hi _ => ?_
  have hb16 : (encL (l.take i)).length = 16 * (l.take i).length := encL_length fun p hp => hok p (List.mem_of_mem_take hp)
  have hti : (l.take i).length = i := by simp; omega
  rw [hti] at hb16
  by_cases hlt : i < l.length
  · have g1 : (i : Int) < l.length := by omega
    have g2 : l[i]? = some l[i] := List.getElem?_eq_getElem hlt
    obtain ⟨k1, k2, k3⟩ := entOk_len (hok l[i] (List.getElem_mem hlt))
    have he16 := encE_length (hok l[i] (List.getElem_mem hlt))
    have hn : encL (l.take (i + 1)) = encL (l.take i) ++ encE l[i] := by
      unfold encL
      rw [List.take_succ_eq_append_getElem hlt, List.flatMap_append, List.flatMap_cons, List.flatMap_nil, List.append_nil]
    have w1 : IntKind.i64.wrap ((i : Int) + 1) = (i : Int) + 1 := wrap_id (by omega) (by omega)
    have w2 : IntKind.i64.wrap (14 - (l[i].1.length : Int)) = 14 - l[i].1.length := wrap_id (by omega) (by omega)
    have v2 := Put_eq l[i].2 (by omega)
    have v3 := rep_eq l[i].1.length k1
    have v4 := WS_eq i (encL (l.take i)) (encE l[i]) (by omega) l[i].1 l[i].2
    have p2 : (put2 l[i].2).length = 2 := rfl
    rw [hn]
    rw [encE] at v4 he16
    generalize encL (l.take i) = B at v4
    have e1 : encE l[i] = put2 l[i].2 ++ (l[i].1 ++ List.replicate (14 - l[i].1.length) 0) := rfl
    rw [e1]
    have r1 : 2 + l[i].1.length ≤ room := by unfold room; omega
    have r2 : 2 + (l[i].1.length + (14 - l[i].1.length)) ≤ room := by unfold room; omega
    have r3 : 2 + l[i].1.length + (14 - l[i].1.length) ≤ room := by unfold room; omega
    (repeat (first
    | (apply is_ok; (case hw => simp [g1, g2, hlt, entV, v2, v3, v4, w1, w2, p2, r1, r2, r3]); (case he => simp [g1, g2, hlt, entV, v2, v3, v4, w1, w2, p2, r1, r2, r3]; exact is_rfl))
    | (apply op_no; (case hw => simp [g1, g2, hlt, entV, v2, v3, v4, w1, w2, p2, r1, r2, r3]))
    | refine op_nil ?_ | refine next_normal ?_ | refine go_seq ?_ | refine go_region ?_ | refine go_skip ?_ | refine go_block ?_ | refine inb_normal ?_
    | (apply go_yes; (case hc => simp [g1, g2, hlt, entV, v2, v3, v4, w1, w2, p2, r1, r2, r3])) | (apply go_no; (case hc => simp [g1, g2, hlt, entV, v2, v3, v4, w1, w2, p2, r1, r2, r3]))
    | refine go_exit ?_ | refine next_exit ?_ | refine inb_here ?_ | refine inb_past (by decide) ?_ | refine go_ret ?_ | refine next_ret ?_ | refine inb_ret ?_))
    exact ⟨hlt, by simp [w1, bldV, p2], trivial⟩
  · have g1 : ¬ (i : Int) < l.length := by omega
    have : i = l.length := by omega
    subst this
    rw [List.take_length]
    generalize encL l = B
    have hs : strX 49 5 [.ptr 0 1 0 0] [.arr (some 49) 2 [.agg [bldV l.length, .own 1 B.length 0 B.length]], .arr (some 5) 1 (u8s B)] = some (.str B, [.arr (some 49) 2 [.agg [bldV l.length, .own 1 B.length 0 B.length]], spent 5 (u8s B)]) := by simp [strX]
    (repeat (first
    | (apply is_ok; (case hw => simp [g1, hs]); (case he => simp [g1, hs]; exact is_rfl))
    | (apply op_no; (case hw => simp [g1, hs]))
    | refine op_nil ?_ | refine next_normal ?_ | refine go_seq ?_ | refine go_region ?_ | refine go_skip ?_ | refine go_block ?_ | refine inb_normal ?_
    | (apply go_yes; (case hc => simp [g1, hs])) | (apply go_no; (case hc => simp [g1, hs]))
    | refine go_exit ?_ | refine next_exit ?_ | refine inb_here ?_ | refine inb_past (by decide) ?_ | refine go_ret ?_ | refine next_ret ?_ | refine inb_ret ?_))
    (apply ends_ok; (case h1 => simp; exact is_rfl); (case h2 => simp; exact is_rfl))
    simp

theorem BytesR_eq (l : List (List UInt8 × Int)) (hl : l.length ≤ 70) : bodyW DC 15 [.sl (l.map entV)] [] = some (if 64 < l.length then .tuple [.str [], .int .i64 12] else if validB [] l = true then .tuple [.str (encL l), .int .i64 0] else .tuple [.str [], .int .i64 9], []) := by
  by_cases h1 : 64 < l.length
  · have h1' : (64 : Int) < l.length := by omega
    rw [if_pos h1]
    (refine gives_iff ?_; refine go_func Tryd.f15 rfl rfl (by simp [Tryd.f15]) ?_; dsimp only [codeL, Tryd.f15, scL, sopsL, guardL, dstAt, loopKey])
    (repeat (first
    | (apply is_ok; (case hw => simp [h1']); (case he => simp [h1']; exact is_rfl))
    | (apply op_no; (case hw => simp [h1']))
    | refine op_nil ?_ | refine next_normal ?_ | refine go_seq ?_ | refine go_region ?_ | refine go_skip ?_ | refine go_block ?_ | refine inb_normal ?_
    | (apply go_yes; (case hc => simp [h1'])) | (apply go_no; (case hc => simp [h1']))
    | refine go_exit ?_ | refine next_exit ?_ | refine inb_here ?_ | refine inb_past (by decide) ?_ | refine go_ret ?_ | refine next_ret ?_ | refine inb_ret ?_))
    (apply ends_ok; (case h1 => simp; exact is_rfl); (case h2 => simp; exact is_rfl))
    simp
  rw [if_neg h1]
  have h1' : ¬ (64 : Int) < l.length := by omega
  have v1 := Right_eq l (by unfold maxLen; omega)
  cases hv : validB [] l with
  | false =>
    rw [hv] at v1
    rw [if_neg (by simp)]
    (refine gives_iff ?_; refine go_func Tryd.f15 rfl rfl (by simp [Tryd.f15]) ?_; dsimp only [codeL, Tryd.f15, scL, sopsL, guardL, dstAt, loopKey])
    (repeat (first
    | (apply is_ok; (case hw => simp [h1', v1]); (case he => simp [h1', v1]; exact is_rfl))
    | (apply op_no; (case hw => simp [h1', v1]))
    | refine op_nil ?_ | refine next_normal ?_ | refine go_seq ?_ | refine go_region ?_ | refine go_skip ?_ | refine go_block ?_ | refine inb_normal ?_
    | (apply go_yes; (case hc => simp [h1', v1])) | (apply go_no; (case hc => simp [h1', v1]))
    | refine go_exit ?_ | refine next_exit ?_ | refine inb_here ?_ | refine inb_past (by decide) ?_ | refine go_ret ?_ | refine next_ret ?_ | refine inb_ret ?_))
    (apply ends_ok; (case h1 => simp; exact is_rfl); (case h2 => simp; exact is_rfl))
    simp
  | true =>
  rw [hv] at v1
  rw [if_pos rfl]
  obtain ⟨_, _, hok⟩ := validB_sort l [] hv
  (refine gives_iff ?_; refine go_func Tryd.f15 rfl rfl (by simp [Tryd.f15]) ?_; dsimp only [codeL, Tryd.f15, scL, sopsL, guardL, dstAt, loopKey])
  (repeat (first
    | (apply is_ok; (case hw => simp [h1', v1]); (case he => simp [h1', v1]; exact is_rfl))
    | (apply op_no; (case hw => simp [h1', v1]))
    | refine op_nil ?_ | refine next_normal ?_ | refine go_seq ?_ | refine go_region ?_ | refine go_skip ?_ | refine go_block ?_ | refine inb_normal ?_
    | (apply go_yes; (case hc => simp [h1', v1])) | (apply go_no; (case hc => simp [h1', v1]))
    | refine go_exit ?_ | refine next_exit ?_ | refine inb_here ?_ | refine inb_past (by decide) ?_ | refine go_ret ?_ | refine next_ret ?_ | refine inb_ret ?_))
  refine go_count l.length (fun i => [(0, .sl (l.map entV)), (4, .str (encL (l.take i))), (5, .int .i64 i)]) (fun i => []) (fun _ => True) (by simp [encL]) trivial fun i hi _ => ?_
  have hb16 : (encL (l.take i)).length = 16 * (l.take i).length := encL_length fun p hp => hok p (List.mem_of_mem_take hp)
  have hti : (l.take i).length = i := by simp; omega
  rw [hti] at hb16
  by_cases hlt : i < l.length
  · have g1 : (i : Int) < l.length := by omega
    have g2 : l[i]? = some l[i] := List.getElem?_eq_getElem hlt
    obtain ⟨k1, k2, k3⟩ := entOk_len (hok l[i] (List.getElem_mem hlt))
    have hn : encL (l.take (i + 1)) = encL (l.take i) ++ encE l[i] := by
      unfold encL
      rw [List.take_succ_eq_append_getElem hlt, List.flatMap_append, List.flatMap_cons, List.flatMap_nil, List.append_nil]
    have w1 : IntKind.i64.wrap ((i : Int) + 1) = (i : Int) + 1 := wrap_id (by omega) (by omega)
    have v2 := PutR_eq l[i].2 (by omega)
    have p2 : (put2 l[i].2).length = 2 := rfl
    rw [hn]
    generalize encL (l.take i) = B at hb16
    have e1 : encE l[i] = put2 l[i].2 ++ (l[i].1 ++ List.replicate (14 - l[i].1.length) 0) := rfl
    rw [e1]
    have r1 : B.length + 2 ≤ room := by unfold room; omega
    have r2 : B.length + 2 + l[i].1.length ≤ room := by unfold room; omega
    have r3 : B.length + (2 + l[i].1.length) ≤ room := by unfold room; omega
    (repeat (first
    | (apply is_ok; (case hw => simp [g1, g2, hlt, entV, v2, w1, p2, r1, r2, r3]); (case he => simp [g1, g2, hlt, entV, v2, w1, p2, r1, r2, r3]; exact is_rfl))
    | (apply op_no; (case hw => simp [g1, g2, hlt, entV, v2, w1, p2, r1, r2, r3]))
    | refine op_nil ?_ | refine next_normal ?_ | refine go_seq ?_ | refine go_region ?_ | refine go_skip ?_ | refine go_block ?_ | refine inb_normal ?_
    | (apply go_yes; (case hc => simp [g1, g2, hlt, entV, v2, w1, p2, r1, r2, r3])) | (apply go_no; (case hc => simp [g1, g2, hlt, entV, v2, w1, p2, r1, r2, r3]))
    | refine go_exit ?_ | refine next_exit ?_ | refine inb_here ?_ | refine inb_past (by decide) ?_ | refine go_ret ?_ | refine next_ret ?_ | refine inb_ret ?_))
    refine go_count (14 - l[i].1.length) (fun m => [(0, .sl (l.map entV)), (4, .str (B ++ (put2 l[i].2 ++ (l[i].1 ++ List.replicate m 0)))), (5, .int .i64 i), (6, .int .i64 ((l[i].1.length + m : Nat) : Int))]) (fun _ => []) (fun _ => True) (by simp [entV]) trivial fun m hm _ => ?_
    obtain ⟨c, hc⟩ : ∃ c, c = l[i].1.length + m := ⟨_, rfl⟩
    have hc2 : ((l[i].1.length + (m + 1) : Nat) : Int) = (c : Int) + 1 := by omega
    rw [← hc]
    by_cases hm14 : c < 14
    · have g3 : (c : Int) < 14 := by omega
      have w4 : IntKind.i64.wrap ((c : Int) + 1) = (c : Int) + 1 := wrap_id (by omega) (by omega)
      have r4 : B.length + (2 + (l[i].1.length + m)) + 1 ≤ room := by unfold room; omega
      rw [hc2]
      (repeat (first
    | (apply is_ok; (case hw => simp [g3, w4, r4, p2]); (case he => simp [g3, w4, r4, p2]; exact is_rfl))
    | (apply op_no; (case hw => simp [g3, w4, r4, p2]))
    | refine op_nil ?_ | refine next_normal ?_ | refine go_seq ?_ | refine go_region ?_ | refine go_skip ?_ | refine go_block ?_ | refine inb_normal ?_
    | (apply go_yes; (case hc => simp [g3, w4, r4, p2])) | (apply go_no; (case hc => simp [g3, w4, r4, p2]))
    | refine go_exit ?_ | refine next_exit ?_ | refine inb_here ?_ | refine inb_past (by decide) ?_ | refine go_ret ?_ | refine next_ret ?_ | refine inb_ret ?_))
      exact ⟨by omega, by simp [w4, List.replicate_succ'], trivial⟩
    · have g3 : ¬ (c : Int) < 14 := by omega
      have hm' : 14 - l[i].1.length = m := by omega
      rw [hm']
      (repeat (first
    | (apply is_ok; (case hw => simp [g3, w1]); (case he => simp [g3, w1]; exact is_rfl))
    | (apply op_no; (case hw => simp [g3, w1]))
    | refine op_nil ?_ | refine next_normal ?_ | refine go_seq ?_ | refine go_region ?_ | refine go_skip ?_ | refine go_block ?_ | refine inb_normal ?_
    | (apply go_yes; (case hc => simp [g3, w1])) | (apply go_no; (case hc => simp [g3, w1]))
    | refine go_exit ?_ | refine next_exit ?_ | refine inb_here ?_ | refine inb_past (by decide) ?_ | refine go_ret ?_ | refine next_ret ?_ | refine inb_ret ?_))
      exact ⟨hlt, by simp [w1], trivial⟩
  · have g1 : ¬ (i : Int) < l.length := by omega
    have : i = l.length := by omega
    subst this
    rw [List.take_length]
    (repeat (first
    | (apply is_ok; (case hw => simp [g1]); (case he => simp [g1]; exact is_rfl))
    | (apply op_no; (case hw => simp [g1]))
    | refine op_nil ?_ | refine next_normal ?_ | refine go_seq ?_ | refine go_region ?_ | refine go_skip ?_ | refine go_block ?_ | refine inb_normal ?_
    | (apply go_yes; (case hc => simp [g1])) | (apply go_no; (case hc => simp [g1]))
    | refine go_exit ?_ | refine next_exit ?_ | refine inb_here ?_ | refine inb_past (by decide) ?_ | refine go_ret ?_ | refine next_ret ?_ | refine inb_ret ?_))
    (apply ends_ok; (case h1 => simp; exact is_rfl); (case h2 => simp; exact is_rfl))
    simp
end Go.Abs
