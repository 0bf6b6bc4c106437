/- Proved here: what functions of the program compute, over the evaluator. No condition but those that each theorem states. -/
import Derived.Test.YtbnnaaadblpgiaaGreatM3
import Derived.Test.YtbnnaaadblpgiaaGreatM6
import Derived.Test.YtbnnaaadblpgiaaGreatM2
namespace Go.Abs
open Go.Proofs
set_option maxRecDepth 100000
set_option linter.unusedSimpArgs false
set_option linter.unusedVariables false

theorem hasT_succ {P : Program} : ∀ (n : Nat) (t : TypeId) (xs : List V), HasT P n t xs → HasT P (n + 1) t xs
  | 0, _, _, h => h.elim
  | n + 1, t, xs, h => by
    rw [HasT]
    rw [HasT] at h
    cases hu : P.underlying t with
    | none => rw [hu] at h; exact h
    | some d =>
      rw [hu] at h
      cases d
      case slice e =>
        simp only at h ⊢
        split at h
        · rename_i hc; rw [if_pos hc]; exact h
        · rename_i hc
          rw [if_neg hc]
          obtain ⟨es, h1, h2, h3⟩ := h
          exact ⟨es, h1, h2, fun x hx => ⟨(h3 x hx).1, hasT_succ n _ _ (h3 x hx).2⟩⟩
      case struct fs => exact ⟨h.1, fun f hf => hasT_succ n _ _ (h.2 f hf)⟩
      case array m e => exact ⟨h.1, fun i hi => hasT_succ n _ _ (h.2 i hi)⟩
      all_goals exact h
theorem hasT_le {P : Program} {n m : Nat} (hm : n ≤ m) {t : TypeId} {xs : List V} (h : HasT P n t xs) : HasT P m t xs := by
  induction m with
  | zero => obtain rfl : n = 0 := by omega
            exact h
  | succ m ih =>
    by_cases he : n = m + 1
    · subst he; exact h
    · exact hasT_succ _ _ _ (ih (by omega))

theorem ext_part {xs ys : List V} {o k : Nat} (h : ∀ j, o ≤ j → j < o + k → xs[j]? = ys[j]?) : (xs.drop o).take k = (ys.drop o).take k := by
  apply List.ext_getElem?
  intro j
  rw [List.getElem?_take, List.getElem?_take]
  split
  · rw [List.getElem?_drop, List.getElem?_drop]
    exact h _ (by omega) (by omega)
  · rfl

noncomputable def prPlan (fs : List Field) : Bool := fs.all fun f => decide (f.offset + Tryz.prog.cellsOf f.type ≤ 13) || (f.offset == 14 && Tryz.prog.cellsOf f.type == 1) || decide (16 ≤ f.offset) || (f.offset == 13 && f.type == 3) || (f.offset == 15 && f.type == 4)

theorem Pr.cells_set (p : Pr) (b : Int) (f : Bool) : Pr.cells { p with base := b, swd := f } = (p.cells.set 13 (.int .i64 b)).set 15 (.bool f) := by
  have h1 := pr_set_base p b
  have h2 := pr_set_swd { p with base := b } f
  have hx : ∀ (q : Pr) (o : Nat) (v : V), v.isAgg = false → o < 29 → setSub (.agg q.cells) o v = some (.agg (q.cells.set o v)) := fun q o v hv ho => by
    have hc : v.cells = [v] := cells_one hv
    unfold setSub
    simp only [hv, hc]
    refine (if_neg (by simp)).trans ((if_pos (by simp; omega)).trans ?_)
    rw [List.set_eq_take_append_cons_drop, if_pos (by simp; omega)]
    simp
  rw [hx p 13 _ rfl (by decide)] at h1
  rw [hx _ 15 _ rfl (by decide)] at h2
  have e1 := V.agg.inj (Option.some.inj h1)
  have e2 := V.agg.inj (Option.some.inj h2)
  rw [← e1] at e2
  exact e2.symm

theorem Pr.hasT_set {n : Nat} (p : Pr) (h : HasT Tryz.prog n 47 p.cells) (b : Int) (hb : (Lit.int .i64 b).wf = true) (f : Bool) : HasT Tryz.prog n 47 (Pr.cells { p with base := b, swd := f }) := by
  obtain ⟨m, rfl⟩ := hasT_pos h
  simp only [HasT, Tryz.underlying47] at h ⊢
  refine ⟨by rw [Pr.cells_len, ← p.cells_len]; exact h.1, fun g hg => ?_⟩
  have hp := h.2 g hg
  have plan := List.all_eq_true.1 (show prPlan _ = true from by kernel_rfl) g hg
  obtain ⟨q, rfl⟩ := hasT_pos hp
  have same : (∀ j, g.offset ≤ j → j < g.offset + Tryz.prog.cellsOf g.type → j ≠ 13 ∧ j ≠ 15) → HasT Tryz.prog (q + 1) g.type (((Pr.cells { p with base := b, swd := f }).drop g.offset).take (Tryz.prog.cellsOf g.type)) := fun hd => by
    have : ((Pr.cells { p with base := b, swd := f }).drop g.offset).take (Tryz.prog.cellsOf g.type) = (p.cells.drop g.offset).take (Tryz.prog.cellsOf g.type) := ext_part fun j h1 h2 => by
      obtain ⟨d1, d2⟩ := hd j h1 h2
      rw [p.cells_set, List.getElem?_set_ne (Ne.symm d2), List.getElem?_set_ne (Ne.symm d1)]
    rw [this]
    exact hp
  simp only [Bool.or_eq_true, Bool.and_eq_true, decide_eq_true_eq, beq_iff_eq] at plan
  rcases plan with (((h1 | ⟨h1, h2⟩) | h1) | ⟨h1, h2⟩) | ⟨h1, h2⟩
  · exact same fun j a b => by omega
  · exact same fun j a b => by omega
  · exact same fun j a b => by omega
  · rw [h1, h2, show Tryz.prog.cellsOf 3 = 1 by kernel_rfl]
    have : ((Pr.cells { p with base := b, swd := f }).drop 13).take 1 = [V.int .i64 b] := by
      rw [Pr.cells_base, List.drop_left' (Pr.pre_base _)]; rfl
    rw [this]
    simp only [HasT, Tryz.underlying3]
    exact ⟨b, rfl, hb⟩
  · rw [h1, h2, show Tryz.prog.cellsOf 4 = 1 by kernel_rfl]
    have : ((Pr.cells { p with base := b, swd := f }).drop 15).take 1 = [V.bool f] := by
      rw [Pr.cells_swd, List.drop_left' (Pr.pre_swd _)]; rfl
    rw [this]
    simp only [HasT, Tryz.underlying4]
    exact ⟨f, rfl⟩

theorem prs_hasT {ps : List Pr} (hl : ps.length = 8) (h : ∀ p ∈ ps, ∃ n, HasT Tryz.prog n 47 p.cells) : ∃ n, HasT Tryz.prog n 48 (prsC ps) := by
  have hN : ∀ l : List Pr, (∀ p ∈ l, ∃ n, HasT Tryz.prog n 47 p.cells) → ∃ N, ∀ p ∈ l, HasT Tryz.prog N 47 p.cells := fun l => by
    induction l with
    | nil => intro _; exact ⟨0, by simp⟩
    | cons p l ih =>
      intro hq
      obtain ⟨a, ha⟩ := hq p (by simp)
      obtain ⟨b, hb⟩ := ih fun q hq' => hq q (by simp [hq'])
      refine ⟨max a b, fun q hq' => ?_⟩
      rcases List.mem_cons.1 hq' with rfl | h1
      · exact hasT_le (by omega) ha
      · exact hasT_le (by omega) (hb q h1)
  obtain ⟨N, hN⟩ := hN ps h
  refine ⟨N + 1, ?_⟩
  simp only [HasT, Tryz.underlying48]
  refine ⟨by rw [prsC_len, hl]; kernel_rfl, fun i hi => ?_⟩
  have hj : i < ps.length := by omega
  obtain ⟨q1, q2⟩ := prsC_at (List.getElem?_eq_getElem hj)
  have e2 : ((prsC ps).drop (i * 29)).take 29 = ps[i].cells := by
    rw [q1, List.drop_left' q2, List.take_left' ps[i].cells_len]
  have := hN _ (List.getElem_mem hj)
  rw [← e2] at this
  exact this

theorem ex_same (x : Ex) : binV Tryz.prog .eql 57 (.agg [.int .i64 x.1, .int .i64 x.2]) (.agg [.int .i64 x.1, .int .i64 x.2]) = some (.bool true) := by
  have h := (binV_agg (P := Tryz.prog) (t := 57) (d := 10000) rfl (by kernel_rfl) (by kernel_rfl) rfl rfl (eqL_ex x.1 x.2 x.1 x.2)).1
  simpa using h

set_option maxHeartbeats 4000000 in
theorem sameSys_eq (s : Sys) (h : s.Parts) (h1 : s.mem.length ≤ maxLen) (h2 : s.bad.length ≤ maxLen) (h3 : s.S.length ≤ maxLen) (h4 : s.B.length ≤ maxLen) : bodyW DC 10 [.agg s.cells, .agg s.cells] [] = some (.bool true, []) := by
  have hm := s.mchP h h1 h2 h3 h4
  have v1 := diff23_refl hm
  have q1 := mch_seal hm
  have q2 := mch_refs hm
  have q3 := mch_ren hm
  have ql := s.mach_len
  have q4 : (s.mach = []) = False := by rw [eq_iff_iff, iff_false]; intro he; rw [he] at ql; cases ql
  have v2 : bodyW DC 41 [.agg s.mach, .agg s.mach] [] = some (.bool true, []) := by
    generalize s.mach = m at v1 q1 q2 q3 q4 ql
    have k0 : sub Tryz.prog 44 (.agg m) 0 = some (.agg m) := Go.Abs.sub_all inf44 agg44 (ql.trans tsz44.symm)
    (refine gives_iff ?_; refine go_func Tryz.f41 rfl rfl (by simp [Tryz.f41]) ?_; dsimp only [codeL, Tryz.f41, scL, sopsL, guardL, dstAt, loopKey])
    (repeat (first
    | (apply is_ok; (case hw => simp [v1, q1, q2, q3, q4, ql, k0]); (case he => simp [v1, q1, q2, q3, q4, ql, k0]; exact is_rfl))
    | (apply op_no; (case hw => simp [v1, q1, q2, q3, q4, ql, k0]))
    | refine op_nil ?_ | refine next_normal ?_ | refine go_seq ?_ | refine go_region ?_ | refine go_skip ?_ | refine go_block ?_ | refine inb_normal ?_
    | (apply go_yes; (case hc => simp [v1, q1, q2, q3, q4, ql, k0])) | (apply go_no; (case hc => simp [v1, q1, q2, q3, q4, ql, k0]))
    | refine go_exit ?_ | refine next_exit ?_ | refine inb_here ?_ | refine inb_past (by decide) ?_ | refine go_ret ?_ | refine next_ret ?_ | refine inb_ret ?_))
    (apply ends_ok; (case h1 => simp; exact is_rfl); (case h2 => simp; exact is_rfl))
    simp
  obtain ⟨n1, t1⟩ := prs_hasT s.hps h.prs
  obtain ⟨n2, t2⟩ := h.opn
  obtain ⟨n3, t3⟩ := h.pip
  obtain ⟨L, hL⟩ := h.tty
  obtain ⟨c1, c2, c3, hn⟩ := h.nxt
  have e1 := (same_agg (k := 10) (by decide) (by kernel_rfl) (by kernel_rfl) (by kernel_rfl) t1).1
  have e2 := (same_agg (k := 10) (by decide) (by kernel_rfl) (by kernel_rfl) (by kernel_rfl) t2).1
  have e3 := (same_agg (k := 10) (by decide) (by kernel_rfl) (by kernel_rfl) (by kernel_rfl) t3).1
  have e4 := ex_same s.sw
  have e5 := ex_same s.co
  have hl := s.cells_len
  have p3 : ∀ p q r, p + q ≤ 169 → 342 + p = r → (s.cells.drop r).take q = (s.c3.l.drop p).take q := fun p q r h5 h6 => by
    rw [s.cells_mach, ← List.append_assoc]
    exact part_of (o := 342) (p := p) (by simp) (by rw [s.c3.len]; exact h5) h6
  have p4 : ∀ p q r, p + q ≤ 3 → 515 + p = r → (s.cells.drop r).take q = (s.c4.l.drop p).take q := fun p q r h5 h6 => by
    have e : s.cells = (s.p511 ++ [.int .i64 s.sw.1, .int .i64 s.sw.2, .int .i64 s.co.1, .int .i64 s.co.2]) ++ (s.c4.l ++ []) := by rw [s.at511]; simp
    rw [e]
    exact part_of (p := p) (by simp [s.p511_len]) (by rw [s.c4.len]; exact h5) h6
  have s1 : sub Tryz.prog 44 (.agg s.cells) 0 = some (.agg s.mach) := by
    rw [s.cells_mach]; exact sub_agg (pre := []) inf44 agg44 rfl (s.mach_len.trans tsz44.symm)
  have s2 : sub Tryz.prog 51 (.agg s.cells) 342 = some (.agg ((s.c3.l.drop 0).take 144)) := sub_mid inf51 agg51 (by rw [tsz51]; omega) ((show _ = (s.cells.drop 342).take 144 by rw [tsz51]).trans (p3 0 144 342 (by decide) rfl))
  have s3 : sub Tryz.prog 54 (.agg s.cells) 486 = some (.agg ((s.c3.l.drop 144).take 24)) := sub_mid inf54 agg54 (by rw [tsz54]; omega) ((show _ = (s.cells.drop 486).take 24 by rw [tsz54]).trans (p3 144 24 486 (by decide) rfl))
  have s4 : sub Tryz.prog 55 (.agg s.cells) 510 = some (.sl L) := sub_cell inf55 agg55 tsz55 (by omega) ((p3 168 1 510 (by decide) rfl).trans hL) rfl
  have hn' : ∀ j, j < 3 → (s.cells.drop (515 + j)).take 1 = ([V.int .i64 c1, .int .i64 c2, .bool c3].drop j).take 1 := fun j hj => by
    rw [p4 j 1 (515 + j) (by omega) rfl, ← hn, drop_more (by omega), Nat.zero_add]
  have s5 : sub Tryz.prog 3 (.agg s.cells) 515 = some (.int .i64 c1) := sub_cell inf3 agg3 tsz3 (by omega) (hn' 0 (by decide)) rfl
  have s6 : sub Tryz.prog 3 (.agg s.cells) 516 = some (.int .i64 c2) := sub_cell inf3 agg3 tsz3 (by omega) (hn' 1 (by decide)) rfl
  have s7 : sub Tryz.prog 4 (.agg s.cells) 517 = some (.bool c3) := sub_cell inf4 agg4 tsz4 (by omega) (hn' 2 (by decide)) rfl
  generalize (s.c3.l.drop 0).take 144 = oo at t2 e2 s2
  generalize (s.c3.l.drop 144).take 24 = pp at t3 e3 s3
  clear hn' hn p3 p4 hL t1 t2 t3 v1 hm
  (refine gives_iff ?_; refine go_func Tryz.f10 rfl rfl (by simp [Tryz.f10]) ?_; dsimp only [codeL, Tryz.f10, scL, sopsL, guardL, dstAt, loopKey])
  simp only [List.append_eq, List.cons_append, List.nil_append, sopsL, guardL, dstAt]
  (repeat (first
    | (apply is_ok; (case hw => simp [s1, s2, s3, s4, s5, s6, s7, e1, e2, e3, e4, e5, v2, q1, q2, q3, q4, exV, -binV]); (case he => simp [s1, s2, s3, s4, s5, s6, s7, e1, e2, e3, e4, e5, v2, q1, q2, q3, q4, exV, -binV]; exact is_rfl))
    | (apply op_no; (case hw => simp [s1, s2, s3, s4, s5, s6, s7, e1, e2, e3, e4, e5, v2, q1, q2, q3, q4, exV, -binV]))
    | refine op_nil ?_ | refine next_normal ?_ | refine go_seq ?_ | refine go_region ?_ | refine go_skip ?_ | refine go_block ?_ | refine inb_normal ?_
    | (apply go_yes; (case hc => simp [s1, s2, s3, s4, s5, s6, s7, e1, e2, e3, e4, e5, v2, q1, q2, q3, q4, exV, -binV])) | (apply go_no; (case hc => simp [s1, s2, s3, s4, s5, s6, s7, e1, e2, e3, e4, e5, v2, q1, q2, q3, q4, exV, -binV]))
    | refine go_exit ?_ | refine next_exit ?_ | refine inb_here ?_ | refine inb_past (by decide) ?_ | refine go_ret ?_ | refine next_ret ?_ | refine inb_ret ?_))
  (apply ends_ok; (case h1 => simp; exact is_rfl); (case h2 => simp; exact is_rfl))
  simp
end Go.Abs

namespace Go.Abs
open Go.Proofs
set_option maxRecDepth 100000
set_option linter.unusedSimpArgs false
set_option linter.unusedVariables false

/-- What both ways of swapping out come to. -/
theorem Out_both (s : Sys) (h : Nice s) (hP : s.Parts) (k : Int) : (∃ e, bodyW DC 6 [.agg s.cells, .int .i64 k] [] = some (.tuple [.agg zN, .int .i64 e], []) ∧ bodyW DC 7 [.agg s.cells, .int .i64 k] [] = some (.tuple [.agg zN, .int .i64 e], [])) ∨
    ∃ (x : Sys) (T : List (List UInt8)), x.Parts ∧ x.mem = s.mem ∧ x.bad = s.bad ∧ x.B = s.B ∧ x.S = T ∧ T.length = s.S.length ∧
      bodyW DC 6 [.agg s.cells, .int .i64 k] [] = some (.tuple [.agg (x.cw (.sl (ints s.mem)) (.sl (ints s.bad)) (.own 0 s.S.length 0 s.S.length) (.own 1 s.B.length 0 s.B.length)), .int .i64 0], [.dat true 1 (strs T), .dat true 1 (ints s.B)]) ∧
      bodyW DC 7 [.agg s.cells, .int .i64 k] [] = some (.tuple [.agg (x.cw (.sl (ints s.mem)) (.sl (ints s.bad)) (.own 0 s.S.length 0 s.S.length) (.sl (ints s.B))), .int .i64 0], [.dat true 1 (strs T)]) := by
  cases hb : imgB s.ps k false with
  | false => exact .inl ⟨1, Out_no s k hb, OutR_no s k hb⟩
  | true =>
    obtain ⟨i, p, rfl, hp, h1, h2⟩ := imgB_iff.1 hb
    cases hf : fitN (swpL s.ps) s.sw (secN p.blk) with
    | none => exact .inl ⟨12, Out_full s h.fine i p hp h1 h2 h.wf.ps hf, OutR_full s h.fine i p hp h1 h2 h.wf.ps hf⟩
    | some n0 =>
      obtain ⟨c1, c2, c3, c4, c5, c6⟩ := core_in h.fine (List.mem_of_getElem? hp) h1 h2
      obtain ⟨s1, s2, s3⟩ := secN_bound c4 c5
      have hroom := ((fit_least (l := swpL s.ps) (w := s.sw) (k := secN p.blk) s1).1 n0 hf).1
      have u := h.fine.right.2.1
      have r1 := hroom.2.1
      have r2 := hroom.2.2
      have u1 := u.1
      have u2 := u.2.1
      have u3 := u.2.2.2
      have hw := Out_walk s h.fine i p hp h1 h2 h.wf.ps n0 hf ⟨by omega, by omega⟩
      have hv := OutR_walk s h.fine i p hp h1 h2 h.wf.ps n0 hf ⟨by omega, by omega⟩
      by_cases hz : (outR s p n0).2.2 = 0
      · rw [if_pos hz] at hw hv
        refine .inr ⟨{ s.setP i { p with base := n0, swd := true } with S := (outR s p n0).1 }, (outR s p n0).1, ?_, rfl, rfl, rfl, rfl, ?_, hw, hv⟩
        · refine { hP with prs := fun q hq => ?_ }
          have hq' : q ∈ s.ps.set i { p with base := n0, swd := true } := hq
          rcases List.mem_or_eq_of_mem_set hq' with h3 | rfl
          · exact hP.prs q h3
          · obtain ⟨n, hn⟩ := hP.prs p (List.mem_of_getElem? hp)
            exact ⟨n, p.hasT_set hn n0 (by simp [Lit.wf, IntKind.min, IntKind.max, IntKind.bits, IntKind.signed]; omega) true⟩
        · unfold outR
          exact applyS_length ..
      · rw [if_neg hz] at hw hv
        exact .inl ⟨_, hw, hv⟩

/-- What both ways of swapping in come to. -/
theorem In_both (s : Sys) (h : Nice s) (hP : s.Parts) (k : Int) : (∃ e, bodyW DC 8 [.agg s.cells, .int .i64 k] [] = some (.tuple [.agg zN, .int .i64 e], []) ∧ bodyW DC 9 [.agg s.cells, .int .i64 k] [] = some (.tuple [.agg zN, .int .i64 e], [])) ∨
    ∃ (x : Sys) (M Z : List Int) (r : Nat), x.Parts ∧ x.mem = M ∧ x.bad = Z ∧ x.B = s.B ∧ x.S = s.S ∧ M.length = s.mem.length ∧ Z.length ≤ s.bad.length ∧ r = s.bad.length - Z.length ∧
      bodyW DC 8 [.agg s.cells, .int .i64 k] [] = some (.tuple [.agg (x.cw (.own 0 s.mem.length 0 s.mem.length) (.own 1 s.bad.length 0 Z.length) (.sl (strs s.S)) (.sl (ints s.B))), .int .i64 0], [.dat true 1 (ints M), .dat true 1 (ints (Z ++ List.replicate r 0))]) ∧
      bodyW DC 9 [.agg s.cells, .int .i64 k] [] = some (.tuple [.agg (x.cw (.own 0 s.mem.length 0 s.mem.length) (.own 1 Z.length 0 Z.length) (.sl (strs s.S)) (.sl (ints s.B))), .int .i64 0], [.dat true 1 (ints M), .dat true 1 (ints Z)]) := by
  cases hb : imgB s.ps k true with
  | false => exact .inl ⟨1, In_no s k hb, InR_no s k hb⟩
  | true =>
    obtain ⟨i, p, rfl, hp, h1, h2⟩ := imgB_iff.1 hb
    cases hf : fitN (coreL s.ps) s.co p.blk with
    | none => exact .inl ⟨26, In_full s h.fine i p hp h1 h2 hf, InR_full s h.fine i p hp h1 h2 hf⟩
    | some n0 =>
      obtain ⟨c1, c2, c3, c4, c5, c6⟩ := swp_in h.fine (List.mem_of_getElem? hp) h1 h2
      have hroom := ((fit_least (l := coreL s.ps) (w := s.co) (k := p.blk) (by omega)).1 n0 hf).1
      have u := h.fine.right.1
      have r1 := hroom.2.1
      have r2 := hroom.2.2
      have u1 := u.1
      have u2 := u.2.1
      have u3 := u.2.2.2
      by_cases hall : ∀ j : Nat, (j : Int) < secN p.blk → (readS s.S s.B (p.base + j)).2 = 0
      · refine .inr ⟨{ s.setP i { p with base := n0, swd := false } with mem := storeN s.mem (n0.toNat * 64) (inT s p) (inT s p).length, bad := s.bad.filter fun a => !inR (n0 * 64) (p.blk * 64) a }, _, _, _, ?_, rfl, rfl, rfl, rfl, ?_, List.length_filter_le _ _, rfl, In_ok s h.fine i p hp h1 h2 h.wf.ps h.badl h.drv n0 hf hall, InR_ok s h.fine i p hp h1 h2 h.wf.ps h.badl h.drv n0 hf hall⟩
        · refine { hP with prs := fun q hq => ?_ }
          have hq' : q ∈ s.ps.set i { p with base := n0, swd := false } := hq
          rcases List.mem_or_eq_of_mem_set hq' with h3 | rfl
          · exact hP.prs q h3
          · obtain ⟨n, hn⟩ := hP.prs p (List.mem_of_getElem? hp)
            exact ⟨n, p.hasT_set hn n0 (by simp [Lit.wf, IntKind.min, IntKind.max, IntKind.bits, IntKind.signed]; omega) false⟩
        · simp
      · have hex : ∃ j : Nat, (j : Int) < secN p.blk ∧ (readS s.S s.B (p.base + j)).2 ≠ 0 := by
          by_cases hc : ∃ j : Nat, (j : Int) < secN p.blk ∧ (readS s.S s.B (p.base + j)).2 ≠ 0
          · exact hc
          · exact absurd (fun j hj => Classical.byContradiction fun hn => hc ⟨j, hj, hn⟩) hall
        have hwf : ∀ m : Nat, ∀ j : Nat, j ≤ m → (j : Int) < secN p.blk → (readS s.S s.B (p.base + j)).2 ≠ 0 → ∃ j0 : Nat, (j0 : Int) < secN p.blk ∧ (readS s.S s.B (p.base + j0)).2 ≠ 0 ∧ ∀ q : Nat, q < j0 → (readS s.S s.B (p.base + q)).2 = 0 := by
          intro m
          induction m with
          | zero => intro j hj h3 h4; exact ⟨j, h3, h4, fun q hq => by omega⟩
          | succ m ih =>
            intro j hj h3 h4
            by_cases hq : ∃ q : Nat, q < j ∧ (readS s.S s.B (p.base + q)).2 ≠ 0
            · obtain ⟨q, q1, q2⟩ := hq
              exact ih q (by omega) (by omega) q2
            · exact ⟨j, h3, h4, fun q hq' => Classical.byContradiction fun hn => hq ⟨q, hq', hn⟩⟩
        obtain ⟨j, h3, h4⟩ := hex
        obtain ⟨j0, a1, a2, a3⟩ := hwf j j (Nat.le_refl _) h3 h4
        exact .inl ⟨_, In_err s h.fine i p hp h1 h2 h.wf.ps h.drv n0 hf j0 a1 a2 a3, InR_err s h.fine i p hp h1 h2 h.wf.ps h.drv n0 hf j0 a1 a2 a3⟩

theorem sameZ_eq : bodyW DC 10 [.agg (zO (.sl []) (.sl []) (.sl []) (.sl []) (.sl []) (.sl []) (.sl [])), .agg (zO (.sl []) (.sl []) (.sl []) (.sl []) (.sl []) (.sl []) (.sl []))] [] = some (.bool true, []) := bodyW_iff.2 ⟨3000, by kernel_rfl⟩
theorem zN_seal (H : Heap) : sealL H zN = some (zO (.sl []) (.sl []) (.sl []) (.sl []) (.sl []) (.sl []) (.sl []), []) := rfl

set_option maxHeartbeats 4000000 in
theorem SwapMoves_eq (s : Sys) (hs : s.Wf) (hP : s.Parts) (k : Int) : bodyW DC 3 [.agg s.cells, .int .i64 k] [] = some (.bool true, []) := by
  have v0 := few_eq s hs
  cases hf : fewB s with
  | false =>
    rw [hf] at v0
    (refine gives_iff ?_; refine go_func Tryz.f3 rfl rfl (by simp [Tryz.f3]) ?_; dsimp only [codeL, Tryz.f3, scL, sopsL, guardL, dstAt, loopKey])
    (repeat (first
    | (apply is_ok; (case hw => simp [v0]); (case he => simp [v0]; exact is_rfl))
    | (apply op_no; (case hw => simp [v0]))
    | refine op_nil ?_ | refine next_normal ?_ | refine go_seq ?_ | refine go_region ?_ | refine go_skip ?_ | refine go_block ?_ | refine inb_normal ?_
    | (apply go_yes; (case hc => simp [v0])) | (apply go_no; (case hc => simp [v0]))
    | refine go_exit ?_ | refine next_exit ?_ | refine inb_here ?_ | refine inb_past (by decide) ?_ | refine go_ret ?_ | refine next_ret ?_ | refine inb_ret ?_))
    (apply ends_ok; (case h1 => simp; exact is_rfl); (case h2 => simp; exact is_rfl))
    simp
  | true =>
  rw [hf] at v0
  have hf2 := hf
  unfold fewB at hf2
  simp only [Bool.and_eq_true, decide_eq_true_eq] at hf2
  have v1 := swRightR_eq s (by omega) (by omega) fun q hq => (hs.ps q hq).2.2
  cases hr : rightB s with
  | false =>
    rw [hr] at v1
    (refine gives_iff ?_; refine go_func Tryz.f3 rfl rfl (by simp [Tryz.f3]) ?_; dsimp only [codeL, Tryz.f3, scL, sopsL, guardL, dstAt, loopKey])
    (repeat (first
    | (apply is_ok; (case hw => simp [v0, v1]); (case he => simp [v0, v1]; exact is_rfl))
    | (apply op_no; (case hw => simp [v0, v1]))
    | refine op_nil ?_ | refine next_normal ?_ | refine go_seq ?_ | refine go_region ?_ | refine go_skip ?_ | refine go_block ?_ | refine inb_normal ?_
    | (apply go_yes; (case hc => simp [v0, v1])) | (apply go_no; (case hc => simp [v0, v1]))
    | refine go_exit ?_ | refine next_exit ?_ | refine inb_here ?_ | refine inb_past (by decide) ?_ | refine go_ret ?_ | refine next_ret ?_ | refine inb_ret ?_))
    (apply ends_ok; (case h1 => simp; exact is_rfl); (case h2 => simp; exact is_rfl))
    simp
  | true =>
  rw [hr] at v1
  have hn := nice_of hs hf hr
  have va := alive45_eq
  have vz := sameZ_eq
  have zs := zN_seal
  have b1 := hn.fine.mem
  have b2 := hn.badl
  have b3 := hn.fine.S
  have b4 := hs.B
  rcases Out_both s hn hP k with ⟨e, v2, v3⟩ | ⟨x, T, xP, x1, x2, x3, x4, hT, v2, v3⟩
  · rcases In_both s hn hP k with ⟨f, v4, v5⟩ | ⟨y, M, Z, r, yP, y1, y2, y3, y4, hM, hZ, hr0, v4, v5⟩
    · rw [s.cells_cw] at v0 v1 v2 v3 v4 v5 ⊢
      (refine gives_iff ?_; refine go_func Tryz.f3 rfl rfl (by simp [Tryz.f3]) ?_; dsimp only [codeL, Tryz.f3, scL, sopsL, guardL, dstAt, loopKey])
      (repeat (first
    | (apply is_ok; (case hw => simp [v0, v1, v2, v3, v4, v5, vz, zs, va]); (case he => simp [v0, v1, v2, v3, v4, v5, vz, zs, va]; exact is_rfl))
    | (apply op_no; (case hw => simp [v0, v1, v2, v3, v4, v5, vz, zs, va]))
    | refine op_nil ?_ | refine next_normal ?_ | refine go_seq ?_ | refine go_region ?_ | refine go_skip ?_ | refine go_block ?_ | refine inb_normal ?_
    | (apply go_yes; (case hc => simp [v0, v1, v2, v3, v4, v5, vz, zs, va])) | (apply go_no; (case hc => simp [v0, v1, v2, v3, v4, v5, vz, zs, va]))
    | refine go_exit ?_ | refine next_exit ?_ | refine inb_here ?_ | refine inb_past (by decide) ?_ | refine go_ret ?_ | refine next_ret ?_ | refine inb_ret ?_))
      (apply ends_ok; (case h1 => simp; exact is_rfl); (case h2 => simp; exact is_rfl))
      simp
    · have v7 := sameSys_eq y yP (by rw [y1, hM]; unfold maxLen; omega) (by rw [y2]; unfold maxLen; omega) (by rw [y4]; unfold maxLen; omega) (by rw [y3]; exact b4)
      rw [y.cells_cw, y1, y2, y3, y4] at v7
      have hW1 : (Z ++ List.replicate r (0 : Int)).length = s.bad.length := by simp; omega
      have hW2 : (ints (Z ++ List.replicate r (0 : Int))).take Z.length = ints Z := by rw [← List.map_take, List.take_left' rfl]
      generalize Z ++ List.replicate r (0 : Int) = W at v4 hW1 hW2
      have hW3 : Z.length = s.bad.length → W = Z := fun hc => by
        have h9 : ((ints W).take Z.length) = ints W := List.take_of_length_le (by simp; omega)
        rw [h9] at hW2
        exact (List.map_inj_right (fun a b h => by injection h)).1 hW2
      rw [s.cells_cw] at v0 v1 v2 v3 v4 v5 ⊢
      by_cases hc : Z.length = s.bad.length
      · obtain rfl := hW3 hc
        rw [hc] at v4 v5
        (refine gives_iff ?_; refine go_func Tryz.f3 rfl rfl (by simp [Tryz.f3]) ?_; dsimp only [codeL, Tryz.f3, scL, sopsL, guardL, dstAt, loopKey])
        (repeat (first
    | (apply is_ok; (case hw => simp [v0, v1, v2, v3, v4, v5, v7, vz, zs, va, hM, hc]); (case he => simp [v0, v1, v2, v3, v4, v5, v7, vz, zs, va, hM, hc]; exact is_rfl))
    | (apply op_no; (case hw => simp [v0, v1, v2, v3, v4, v5, v7, vz, zs, va, hM, hc]))
    | refine op_nil ?_ | refine next_normal ?_ | refine go_seq ?_ | refine go_region ?_ | refine go_skip ?_ | refine go_block ?_ | refine inb_normal ?_
    | (apply go_yes; (case hc => simp [v0, v1, v2, v3, v4, v5, v7, vz, zs, va, hM, hc])) | (apply go_no; (case hc => simp [v0, v1, v2, v3, v4, v5, v7, vz, zs, va, hM, hc]))
    | refine go_exit ?_ | refine next_exit ?_ | refine inb_here ?_ | refine inb_past (by decide) ?_ | refine go_ret ?_ | refine next_ret ?_ | refine inb_ret ?_))
        (apply ends_ok; (case h1 => simp; exact is_rfl); (case h2 => simp; exact is_rfl))
        simp
      · (refine gives_iff ?_; refine go_func Tryz.f3 rfl rfl (by simp [Tryz.f3]) ?_; dsimp only [codeL, Tryz.f3, scL, sopsL, guardL, dstAt, loopKey])
        (repeat (first
    | (apply is_ok; (case hw => simp [v0, v1, v2, v3, v4, v5, v7, vz, zs, va, hM, hc, hW1, hW2]); (case he => simp [v0, v1, v2, v3, v4, v5, v7, vz, zs, va, hM, hc, hW1, hW2]; exact is_rfl))
    | (apply op_no; (case hw => simp [v0, v1, v2, v3, v4, v5, v7, vz, zs, va, hM, hc, hW1, hW2]))
    | refine op_nil ?_ | refine next_normal ?_ | refine go_seq ?_ | refine go_region ?_ | refine go_skip ?_ | refine go_block ?_ | refine inb_normal ?_
    | (apply go_yes; (case hc => simp [v0, v1, v2, v3, v4, v5, v7, vz, zs, va, hM, hc, hW1, hW2])) | (apply go_no; (case hc => simp [v0, v1, v2, v3, v4, v5, v7, vz, zs, va, hM, hc, hW1, hW2]))
    | refine go_exit ?_ | refine next_exit ?_ | refine inb_here ?_ | refine inb_past (by decide) ?_ | refine go_ret ?_ | refine next_ret ?_ | refine inb_ret ?_))
        (apply ends_ok; (case h1 => simp; exact is_rfl); (case h2 => simp; exact is_rfl))
        simp
  · have v6 := sameSys_eq x xP (by rw [x1]; unfold maxLen; omega) (by rw [x2]; unfold maxLen; omega) (by rw [x4, hT]; unfold maxLen; omega) (by rw [x3]; exact b4)
    rw [x.cells_cw, x1, x2, x3, x4] at v6
    rcases In_both s hn hP k with ⟨f, v4, v5⟩ | ⟨y, M, Z, r, yP, y1, y2, y3, y4, hM, hZ, hr0, v4, v5⟩
    · rw [s.cells_cw] at v0 v1 v2 v3 v4 v5 ⊢
      (refine gives_iff ?_; refine go_func Tryz.f3 rfl rfl (by simp [Tryz.f3]) ?_; dsimp only [codeL, Tryz.f3, scL, sopsL, guardL, dstAt, loopKey])
      (repeat (first
    | (apply is_ok; (case hw => simp [v0, v1, v2, v3, v4, v5, v6, vz, zs, va, hT]); (case he => simp [v0, v1, v2, v3, v4, v5, v6, vz, zs, va, hT]; exact is_rfl))
    | (apply op_no; (case hw => simp [v0, v1, v2, v3, v4, v5, v6, vz, zs, va, hT]))
    | refine op_nil ?_ | refine next_normal ?_ | refine go_seq ?_ | refine go_region ?_ | refine go_skip ?_ | refine go_block ?_ | refine inb_normal ?_
    | (apply go_yes; (case hc => simp [v0, v1, v2, v3, v4, v5, v6, vz, zs, va, hT])) | (apply go_no; (case hc => simp [v0, v1, v2, v3, v4, v5, v6, vz, zs, va, hT]))
    | refine go_exit ?_ | refine next_exit ?_ | refine inb_here ?_ | refine inb_past (by decide) ?_ | refine go_ret ?_ | refine next_ret ?_ | refine inb_ret ?_))
      (apply ends_ok; (case h1 => simp; exact is_rfl); (case h2 => simp; exact is_rfl))
      simp
    · have v7 := sameSys_eq y yP (by rw [y1, hM]; unfold maxLen; omega) (by rw [y2]; unfold maxLen; omega) (by rw [y4]; unfold maxLen; omega) (by rw [y3]; exact b4)
      rw [y.cells_cw, y1, y2, y3, y4] at v7
      have hW1 : (Z ++ List.replicate r (0 : Int)).length = s.bad.length := by simp; omega
      have hW2 : (ints (Z ++ List.replicate r (0 : Int))).take Z.length = ints Z := by rw [← List.map_take, List.take_left' rfl]
      generalize Z ++ List.replicate r (0 : Int) = W at v4 hW1 hW2
      have hW3 : Z.length = s.bad.length → W = Z := fun hc => by
        have h9 : ((ints W).take Z.length) = ints W := List.take_of_length_le (by simp; omega)
        rw [h9] at hW2
        exact (List.map_inj_right (fun a b h => by injection h)).1 hW2
      rw [s.cells_cw] at v0 v1 v2 v3 v4 v5 ⊢
      by_cases hc : Z.length = s.bad.length
      · obtain rfl := hW3 hc
        rw [hc] at v4 v5
        (refine gives_iff ?_; refine go_func Tryz.f3 rfl rfl (by simp [Tryz.f3]) ?_; dsimp only [codeL, Tryz.f3, scL, sopsL, guardL, dstAt, loopKey])
        (repeat (first
    | (apply is_ok; (case hw => simp [v0, v1, v2, v3, v4, v5, v6, hT, v7, vz, zs, va, hM, hc]); (case he => simp [v0, v1, v2, v3, v4, v5, v6, hT, v7, vz, zs, va, hM, hc]; exact is_rfl))
    | (apply op_no; (case hw => simp [v0, v1, v2, v3, v4, v5, v6, hT, v7, vz, zs, va, hM, hc]))
    | refine op_nil ?_ | refine next_normal ?_ | refine go_seq ?_ | refine go_region ?_ | refine go_skip ?_ | refine go_block ?_ | refine inb_normal ?_
    | (apply go_yes; (case hc => simp [v0, v1, v2, v3, v4, v5, v6, hT, v7, vz, zs, va, hM, hc])) | (apply go_no; (case hc => simp [v0, v1, v2, v3, v4, v5, v6, hT, v7, vz, zs, va, hM, hc]))
    | refine go_exit ?_ | refine next_exit ?_ | refine inb_here ?_ | refine inb_past (by decide) ?_ | refine go_ret ?_ | refine next_ret ?_ | refine inb_ret ?_))
        (apply ends_ok; (case h1 => simp; exact is_rfl); (case h2 => simp; exact is_rfl))
        simp
      · (refine gives_iff ?_; refine go_func Tryz.f3 rfl rfl (by simp [Tryz.f3]) ?_; dsimp only [codeL, Tryz.f3, scL, sopsL, guardL, dstAt, loopKey])
        (repeat (first
    | (apply is_ok; (case hw => simp [v0, v1, v2, v3, v4, v5, v6, hT, v7, vz, zs, va, hM, hc, hW1, hW2]); (case he => simp [v0, v1, v2, v3, v4, v5, v6, hT, v7, vz, zs, va, hM, hc, hW1, hW2]; exact is_rfl))
    | (apply op_no; (case hw => simp [v0, v1, v2, v3, v4, v5, v6, hT, v7, vz, zs, va, hM, hc, hW1, hW2]))
    | refine op_nil ?_ | refine next_normal ?_ | refine go_seq ?_ | refine go_region ?_ | refine go_skip ?_ | refine go_block ?_ | refine inb_normal ?_
    | (apply go_yes; (case hc => simp [v0, v1, v2, v3, v4, v5, v6, hT, v7, vz, zs, va, hM, hc, hW1, hW2])) | (apply go_no; (case hc => simp [v0, v1, v2, v3, v4, v5, v6, hT, v7, vz, zs, va, hM, hc, hW1, hW2]))
    | refine go_exit ?_ | refine next_exit ?_ | refine inb_here ?_ | refine inb_past (by decide) ?_ | refine go_ret ?_ | refine next_ret ?_ | refine inb_ret ?_))
        (apply ends_ok; (case h1 => simp; exact is_rfl); (case h2 => simp; exact is_rfl))
        simp
end Go.Abs

