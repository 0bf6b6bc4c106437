/- Proved here: what functions of the program compute, over the evaluator. No condition but those that each theorem states. -/
import Derived.Test.YthpkihimboiglaaPLN
import Derived.Test.YthpkihimboiglaaD3
import Derived.Test.YthpkihimboiglaaH2
namespace Go.Abs
open Go.Proofs
set_option maxRecDepth 100000
set_option linter.unusedSimpArgs false
set_option linter.unusedVariables false

/-- A process. -/
structure Pr where
  a : Cs 2
  st : Int
  b : Cs 10
  base : Int
  blk : Int
  swd : Bool
  c : Cs 13
def Pr.cells (p : Pr) : List V := p.a.l ++ .int .i64 p.st :: (p.b.l ++ .int .i64 p.base :: .int .i64 p.blk :: .bool p.swd :: p.c.l)
theorem Pr.plain (p : Pr) : ∀ x ∈ p.cells, PlainV x := by
  intro x hx
  unfold Pr.cells at hx
  simp only [List.mem_append, List.mem_cons] at hx
  rcases hx with h | rfl | h | rfl | rfl | rfl | h
  · exact p.a.pl x h
  · exact plain_int _ _
  · exact p.b.pl x h
  · exact plain_int _ _
  · exact plain_int _ _
  · exact plain_bool _
  · exact p.c.pl x h
@[simp] theorem Pr.cells_len (p : Pr) : p.cells.length = 29 := by simp [Pr.cells, p.a.len, p.b.len, p.c.len]
@[simp] theorem Pr.cells_ne (p : Pr) : (p.cells = []) = False := by
  rw [eq_iff_iff, iff_false]; intro h; have := p.cells_len; rw [h] at this; cases this
@[simp] theorem Pr.cells_seal (p : Pr) (H : Heap) : sealL H p.cells = some (p.cells, []) := plain_sealL _ p.plain
@[simp] theorem Pr.cells_refs (p : Pr) : refsL p.cells = [] := plain_refsL _ p.plain
@[simp] theorem Pr.cells_ren (p : Pr) (ρ : Nat → Option Nat) : renL ρ p.cells = p.cells := plain_renL _ p.plain

theorem Pr.cells_st (p : Pr) : p.cells = p.a.l ++ V.int .i64 p.st :: (p.b.l ++ V.int .i64 p.base :: V.int .i64 p.blk :: V.bool p.swd :: p.c.l) := rfl
theorem Pr.cells_base (p : Pr) : p.cells = (p.a.l ++ V.int .i64 p.st :: p.b.l) ++ V.int .i64 p.base :: (V.int .i64 p.blk :: V.bool p.swd :: p.c.l) := by simp [Pr.cells]
theorem Pr.cells_blk (p : Pr) : p.cells = (p.a.l ++ V.int .i64 p.st :: (p.b.l ++ [V.int .i64 p.base])) ++ V.int .i64 p.blk :: (V.bool p.swd :: p.c.l) := by simp [Pr.cells]
theorem Pr.cells_swd (p : Pr) : p.cells = (p.a.l ++ V.int .i64 p.st :: (p.b.l ++ [V.int .i64 p.base, V.int .i64 p.blk])) ++ V.bool p.swd :: p.c.l := by simp [Pr.cells]
theorem Pr.pre_base (p : Pr) : (p.a.l ++ V.int .i64 p.st :: p.b.l).length = 13 := by simp [p.a.len, p.b.len]
theorem Pr.pre_blk (p : Pr) : (p.a.l ++ V.int .i64 p.st :: (p.b.l ++ [V.int .i64 p.base])).length = 14 := by simp [p.a.len, p.b.len]
theorem Pr.pre_swd (p : Pr) : (p.a.l ++ V.int .i64 p.st :: (p.b.l ++ [V.int .i64 p.base, V.int .i64 p.blk])).length = 15 := by simp [p.a.len, p.b.len]

@[simp high] theorem Pr.sub_st (p : Pr) : sub Try.prog 3 (.agg p.cells) 2 = some (.int .i64 p.st) := by
  rw [p.cells_st]; exact sub_one (inf3) (agg3) p.a.len (tsz3) rfl
@[simp high] theorem Pr.sub_base (p : Pr) : sub Try.prog 3 (.agg p.cells) 13 = some (.int .i64 p.base) := by
  rw [p.cells_base]; exact sub_one (inf3) (agg3) p.pre_base (tsz3) rfl
@[simp high] theorem Pr.sub_blk (p : Pr) : sub Try.prog 3 (.agg p.cells) 14 = some (.int .i64 p.blk) := by
  rw [p.cells_blk]; exact sub_one (inf3) (agg3) p.pre_blk (tsz3) rfl
@[simp high] theorem Pr.sub_swd (p : Pr) : sub Try.prog 4 (.agg p.cells) 15 = some (.bool p.swd) := by
  rw [p.cells_swd]; exact sub_one (inf4) (agg4) p.pre_swd (tsz4) rfl
theorem sub_all {P : Program} {t : TypeId} {z : TypeInfo} {xs : List V} (hz : P.info? t = some z) (ha : aggT P t = some true) (hm : xs.length = z.size) : sub P t (.agg xs) 0 = some (.agg xs) := by
  have := sub_agg (pre := []) (mid := xs) (post := []) (off := 0) hz ha rfl hm
  simpa using this
@[simp high] theorem Pr.sub_all (p : Pr) : sub Try.prog 56 (.agg p.cells) 0 = some (.agg p.cells) := Go.Abs.sub_all inf56 agg56 (p.cells_len.trans tsz56.symm)

/-- The cells of some processes. -/
def prsC (ps : List Pr) : List V := ps.flatMap Pr.cells
theorem prsC_len (ps : List Pr) : (prsC ps).length = 29 * ps.length := by
  induction ps with
  | nil => rfl
  | cons p ps ih => simp [prsC] at ih ⊢; omega
theorem prsC_plain (ps : List Pr) : ∀ x ∈ prsC ps, PlainV x := by
  intro x hx
  obtain ⟨p, _, h⟩ := List.mem_flatMap.1 hx
  exact p.plain x h
theorem prsC_at {ps : List Pr} {i : Nat} {p : Pr} (h : ps[i]? = some p) : prsC ps = prsC (ps.take i) ++ (p.cells ++ prsC (ps.drop (i + 1))) ∧ (prsC (ps.take i)).length = i * 29 := by
  obtain ⟨hi, rfl⟩ := List.getElem?_eq_some_iff.1 h
  refine ⟨?_, by rw [prsC_len, List.length_take]; omega⟩
  have e : ps = ps.take i ++ (ps[i] :: ps.drop (i + 1)) := by rw [← List.drop_eq_getElem_cons hi, List.take_append_drop]
  have e2 : prsC (ps.take i ++ (ps[i] :: ps.drop (i + 1))) = prsC (ps.take i) ++ (ps[i].cells ++ prsC (ps.drop (i + 1))) := by simp only [prsC, List.flatMap_append, List.flatMap_cons]
  rw [← e] at e2
  exact e2
theorem prsC_set {ps : List Pr} {i : Nat} {p : Pr} (h : i < ps.length) : prsC (ps.set i p) = prsC (ps.take i) ++ (p.cells ++ prsC (ps.drop (i + 1))) := by
  simp [prsC, List.set_eq_take_append_cons_drop, h]
@[simp] theorem prsC_seal (ps : List Pr) (H : Heap) : sealL H (prsC ps) = some (prsC ps, []) := plain_sealL _ (prsC_plain ps)
@[simp] theorem prsC_refs (ps : List Pr) : refsL (prsC ps) = [] := plain_refsL _ (prsC_plain ps)
@[simp] theorem prsC_ren (ps : List Pr) (ρ : Nat → Option Nat) : renL ρ (prsC ps) = prsC ps := plain_renL _ (prsC_plain ps)

/-- A system. -/
structure Sys where
  c0 : Cs 10
  mem : List Int
  bad : List Int
  c1 : Cs 72
  S : List (List UInt8)
  B : List Int
  c2 : Cs 24
  ps : List Pr
  hps : ps.length = 8
  c3 : Cs 169
  sw : Ex
  co : Ex
  c4 : Cs 3
def Sys.tail1 (s : Sys) : List V := .int .i64 s.sw.1 :: .int .i64 s.sw.2 :: .int .i64 s.co.1 :: .int .i64 s.co.2 :: s.c4.l
def Sys.cells (s : Sys) : List V := s.c0.l ++ .sl (ints s.mem) :: .sl (ints s.bad) :: (s.c1.l ++ .sl (strs s.S) :: .sl (ints s.B) :: (s.c2.l ++ (prsC s.ps ++ (s.c3.l ++ s.tail1))))
theorem Sys.plain (s : Sys) : ∀ x ∈ s.cells, PlainV x := by
  intro x hx
  unfold Sys.cells Sys.tail1 at hx
  simp only [List.mem_append, List.mem_cons] at hx
  rcases hx with h | rfl | rfl | h | rfl | rfl | h | h | h | rfl | rfl | rfl | rfl | h
  · exact s.c0.pl x h
  · exact plain_sl _
  · exact plain_sl _
  · exact s.c1.pl x h
  · exact plain_sl _
  · exact plain_sl _
  · exact s.c2.pl x h
  · exact prsC_plain _ x h
  · exact s.c3.pl x h
  · exact plain_int _ _
  · exact plain_int _ _
  · exact plain_int _ _
  · exact plain_int _ _
  · exact s.c4.pl x h
@[simp] theorem Sys.prs_len (s : Sys) : (prsC s.ps).length = 232 := by rw [prsC_len, s.hps]
@[simp] theorem Sys.cells_len (s : Sys) : s.cells.length = 518 := by simp [Sys.cells, Sys.tail1, s.c0.len, s.c1.len, s.c2.len, s.c3.len, s.c4.len]
@[simp] theorem Sys.cells_ne (s : Sys) : (s.cells = []) = False := by
  rw [eq_iff_iff, iff_false]; intro h; have := s.cells_len; rw [h] at this; cases this
@[simp] theorem Sys.prs_ne (s : Sys) : (prsC s.ps = []) = False := by
  rw [eq_iff_iff, iff_false]; intro h; have := s.prs_len; rw [h] at this; cases this
@[simp] theorem Sys.cells_seal (s : Sys) (H : Heap) : sealL H s.cells = some (s.cells, []) := plain_sealL _ s.plain
@[simp] theorem Sys.cells_refs (s : Sys) : refsL s.cells = [] := plain_refsL _ s.plain
@[simp] theorem Sys.cells_ren (s : Sys) (ρ : Nat → Option Nat) : renL ρ s.cells = s.cells := plain_renL _ s.plain

def Sys.p11 (s : Sys) : List V := s.c0.l ++ [.sl (ints s.mem)]
def Sys.p84 (s : Sys) : List V := s.c0.l ++ .sl (ints s.mem) :: .sl (ints s.bad) :: s.c1.l
def Sys.p110 (s : Sys) : List V := s.c0.l ++ .sl (ints s.mem) :: .sl (ints s.bad) :: (s.c1.l ++ .sl (strs s.S) :: .sl (ints s.B) :: s.c2.l)
def Sys.p511 (s : Sys) : List V := s.c0.l ++ .sl (ints s.mem) :: .sl (ints s.bad) :: (s.c1.l ++ .sl (strs s.S) :: .sl (ints s.B) :: (s.c2.l ++ (prsC s.ps ++ s.c3.l)))
theorem Sys.p11_len (s : Sys) : s.p11.length = 11 := by simp [Sys.p11, s.c0.len]
theorem Sys.p84_len (s : Sys) : s.p84.length = 84 := by simp [Sys.p84, s.c0.len, s.c1.len]
theorem Sys.p110_len (s : Sys) : s.p110.length = 110 := by simp [Sys.p110, s.c0.len, s.c1.len, s.c2.len]
theorem Sys.p511_len (s : Sys) : s.p511.length = 511 := by simp [Sys.p511, s.c0.len, s.c1.len, s.c2.len, s.c3.len]
theorem Sys.at10 (s : Sys) : s.cells = s.c0.l ++ .sl (ints s.mem) :: (.sl (ints s.bad) :: (s.c1.l ++ .sl (strs s.S) :: .sl (ints s.B) :: (s.c2.l ++ (prsC s.ps ++ (s.c3.l ++ s.tail1))))) := rfl
theorem Sys.at11 (s : Sys) : s.cells = s.p11 ++ .sl (ints s.bad) :: (s.c1.l ++ .sl (strs s.S) :: .sl (ints s.B) :: (s.c2.l ++ (prsC s.ps ++ (s.c3.l ++ s.tail1)))) := by simp [Sys.cells, Sys.p11]
theorem Sys.at84 (s : Sys) : s.cells = s.p84 ++ ([.sl (strs s.S), .sl (ints s.B)] ++ (s.c2.l ++ (prsC s.ps ++ (s.c3.l ++ s.tail1)))) := by simp [Sys.cells, Sys.p84]
theorem Sys.at110 (s : Sys) : s.cells = s.p110 ++ (prsC s.ps ++ (s.c3.l ++ s.tail1)) := by simp [Sys.cells, Sys.p110]
theorem Sys.at511 (s : Sys) : s.cells = s.p511 ++ ([.int .i64 s.sw.1, .int .i64 s.sw.2] ++ (.int .i64 s.co.1 :: .int .i64 s.co.2 :: s.c4.l)) := by simp [Sys.cells, Sys.p511, Sys.tail1]
theorem Sys.at513 (s : Sys) : s.cells = (s.p511 ++ [.int .i64 s.sw.1, .int .i64 s.sw.2]) ++ ([.int .i64 s.co.1, .int .i64 s.co.2] ++ s.c4.l) := by simp [Sys.cells, Sys.p511, Sys.tail1]

@[simp high] theorem Sys.sub_mem (s : Sys) : sub Try.prog 35 (.agg s.cells) 10 = some (.sl (ints s.mem)) := by
  rw [s.at10]; exact sub_one inf35 agg35 s.c0.len tsz35 rfl
@[simp high] theorem Sys.sub_bad (s : Sys) : sub Try.prog 35 (.agg s.cells) 11 = some (.sl (ints s.bad)) := by
  rw [s.at11]; exact sub_one inf35 agg35 s.p11_len tsz35 rfl
@[simp high] theorem Sys.sub_drive (s : Sys) : sub Try.prog 47 (.agg s.cells) 84 = some (drv s.S s.B) := by
  rw [s.at84]; exact sub_agg inf47 agg47 s.p84_len tsz47.symm
@[simp high] theorem Sys.sub_S (s : Sys) : sub Try.prog 45 (.agg s.cells) 84 = some (.sl (strs s.S)) := by
  rw [s.at84]; exact sub_one (pre := s.p84) (post := .sl (ints s.B) :: _) inf45 agg45 s.p84_len tsz45 rfl
@[simp high] theorem Sys.sub_ps (s : Sys) : sub Try.prog 57 (.agg s.cells) 110 = some (.agg (prsC s.ps)) := by
  rw [s.at110]; exact sub_agg inf57 agg57 s.p110_len (s.prs_len.trans tsz57.symm)
@[simp high] theorem Sys.sub_sw (s : Sys) : sub Try.prog 24 (.agg s.cells) 511 = some (exV s.sw) := by
  rw [s.at511]; exact sub_agg inf24 agg24 s.p511_len tsz24.symm
@[simp high] theorem Sys.sub_co (s : Sys) : sub Try.prog 24 (.agg s.cells) 513 = some (exV s.co) := by
  rw [s.at513]; exact sub_agg inf24 agg24 (by simp [s.p511_len]) tsz24.symm
@[simp high] theorem Sys.sub_sw1 (s : Sys) : sub Try.prog 3 (.agg s.cells) 511 = some (.int .i64 s.sw.1) := by
  rw [s.at511]; exact sub_one (pre := s.p511) (post := .int .i64 s.sw.2 :: _) inf3 agg3 s.p511_len tsz3 rfl
@[simp high] theorem Sys.sub_sw2 (s : Sys) : sub Try.prog 3 (.agg s.cells) 512 = some (.int .i64 s.sw.2) := by
  rw [s.at511, show ∀ (a b : V) (r : List V), s.p511 ++ ([a, b] ++ r) = (s.p511 ++ [a]) ++ b :: r by simp]
  exact sub_one inf3 agg3 (by simp [s.p511_len]) tsz3 rfl
@[simp high] theorem Sys.sub_co1 (s : Sys) : sub Try.prog 3 (.agg s.cells) 513 = some (.int .i64 s.co.1) := by
  rw [s.at513]; exact sub_one (pre := s.p511 ++ _) (post := .int .i64 s.co.2 :: _) inf3 agg3 (by simp [s.p511_len]) tsz3 rfl
@[simp high] theorem Sys.sub_co2 (s : Sys) : sub Try.prog 3 (.agg s.cells) 514 = some (.int .i64 s.co.2) := by
  rw [s.at513, show ∀ (l : List V) (a b : V) (r : List V), l ++ ([a, b] ++ r) = (l ++ [a]) ++ b :: r by simp]
  exact sub_one inf3 agg3 (by simp [s.p511_len]) tsz3 rfl
@[simp high] theorem Sys.sub_all (s : Sys) : sub Try.prog 66 (.agg s.cells) 0 = some (.agg s.cells) := Go.Abs.sub_all inf66 agg66 (s.cells_len.trans tsz66.symm)

section
variable {s : Sys} {i : Nat} {p : Pr}
theorem prs_off {off : Nat} (h : s.ps[i]? = some p) {pre post : List V} {x : V} (hc : p.cells = pre ++ x :: post) (hp : pre.length = off) {t : TypeId} {z : TypeInfo} (hz : Try.prog.info? t = some z) (ha : aggT Try.prog t = some false) (hm : z.size = 1) (hx : x.isAgg = false) :
    sub Try.prog t (.agg s.cells) (110 + i * 29 + off) = some x ∧ sub Try.prog t (.agg (prsC s.ps)) (i * 29 + off) = some x := by
  obtain ⟨h1, h2⟩ := prsC_at h
  have e1 : s.cells = (s.p110 ++ (prsC (s.ps.take i) ++ pre)) ++ x :: (post ++ (prsC (s.ps.drop (i + 1)) ++ (s.c3.l ++ s.tail1))) := by rw [s.at110, h1, hc]; simp
  have e2 : prsC s.ps = (prsC (s.ps.take i) ++ pre) ++ x :: (post ++ prsC (s.ps.drop (i + 1))) := by rw [h1, hc]; simp
  constructor
  · rw [e1]; exact sub_one hz ha (by simp [s.p110_len, h2, hp]; omega) hm hx
  · rw [e2]; exact sub_one hz ha (by simp [h2, hp]) hm hx
@[simp high] theorem Sys.pr_base (h : s.ps[i]? = some p) : sub Try.prog 3 (.agg s.cells) (110 + i * 29 + 13) = some (.int .i64 p.base) := (prs_off h p.cells_base p.pre_base inf3 agg3 tsz3 rfl).1
@[simp high] theorem Sys.pr_blk (h : s.ps[i]? = some p) : sub Try.prog 3 (.agg s.cells) (110 + i * 29 + 14) = some (.int .i64 p.blk) := (prs_off h p.cells_blk p.pre_blk inf3 agg3 tsz3 rfl).1
@[simp high] theorem Sys.pr_swd (h : s.ps[i]? = some p) : sub Try.prog 4 (.agg s.cells) (110 + i * 29 + 15) = some (.bool p.swd) := (prs_off h p.cells_swd p.pre_swd inf4 agg4 tsz4 rfl).1
@[simp high] theorem prs_base (h : s.ps[i]? = some p) : sub Try.prog 3 (.agg (prsC s.ps)) (i * 29 + 13) = some (.int .i64 p.base) := (prs_off h p.cells_base p.pre_base inf3 agg3 tsz3 rfl).2
@[simp high] theorem prs_blk (h : s.ps[i]? = some p) : sub Try.prog 3 (.agg (prsC s.ps)) (i * 29 + 14) = some (.int .i64 p.blk) := (prs_off h p.cells_blk p.pre_blk inf3 agg3 tsz3 rfl).2
@[simp high] theorem prs_swd (h : s.ps[i]? = some p) : sub Try.prog 4 (.agg (prsC s.ps)) (i * 29 + 15) = some (.bool p.swd) := (prs_off h p.cells_swd p.pre_swd inf4 agg4 tsz4 rfl).2
@[simp high] theorem Sys.pr_all (h : s.ps[i]? = some p) : sub Try.prog 56 (.agg s.cells) (110 + i * 29) = some (.agg p.cells) := by
  obtain ⟨h1, h2⟩ := prsC_at h
  have e1 : s.cells = (s.p110 ++ prsC (s.ps.take i)) ++ (p.cells ++ (prsC (s.ps.drop (i + 1)) ++ (s.c3.l ++ s.tail1))) := by rw [s.at110, h1]; simp
  rw [e1]; exact sub_agg inf56 agg56 (by simp [s.p110_len, h2]) (p.cells_len.trans tsz56.symm)
@[simp high] theorem prs_all (h : s.ps[i]? = some p) : sub Try.prog 56 (.agg (prsC s.ps)) (i * 29) = some (.agg p.cells) := by
  obtain ⟨h1, h2⟩ := prsC_at h
  rw [h1]; exact sub_agg inf56 agg56 h2 (p.cells_len.trans tsz56.symm)
end

def hasP (p : Pr) : Prop := (p.st = 1 ∨ p.st = 2) ∧ 1 ≤ p.blk
instance (p : Pr) : Decidable (hasP p) := by unfold hasP; infer_instance
theorem hasImage_eq (p : Pr) : bodyW DC 39 [.agg p.cells] [] = some (.bool (decide (hasP p)), []) := by
  unfold hasP
  by_cases h1 : p.st = 1 <;> by_cases h2 : p.st = 2 <;> by_cases h3 : 1 ≤ p.blk <;>
  · (refine gives_iff ?_; refine go_func Try.f39 rfl rfl (by simp [Try.f39]) ?_; dsimp only [codeL, Try.f39, scL, sopsL, guardL, dstAt, loopKey])
    (repeat (first
    | (apply is_ok; (case hw => simp [h1, h2, h3]); (case he => simp [h1, h2, h3]; exact is_rfl))
    | (apply op_no; (case hw => simp [h1, h2, h3]))
    | refine op_nil ?_ | refine next_normal ?_ | refine go_seq ?_ | refine go_region ?_ | refine go_skip ?_ | refine go_block ?_ | refine inb_normal ?_
    | (apply go_yes; (case hc => simp [h1, h2, h3])) | (apply go_no; (case hc => simp [h1, h2, h3]))
    | refine go_exit ?_ | refine next_exit ?_ | refine inb_here ?_ | refine inb_past (by decide) ?_ | refine go_ret ?_ | refine next_ret ?_ | refine inb_ret ?_))
    (apply ends_ok; (case h1 => simp; exact is_rfl); (case h2 => simp; exact is_rfl))
    simp [h1, h2, h3]
theorem hasR_eq (p : Pr) : bodyW DC 40 [.agg p.cells] [] = some (.bool (decide (hasP p)), []) := by
  unfold hasP
  by_cases h1 : p.st = 1 <;> by_cases h2 : p.st = 2 <;> by_cases h3 : 1 ≤ p.blk <;>
  · (refine gives_iff ?_; refine go_func Try.f40 rfl rfl (by simp [Try.f40]) ?_; dsimp only [codeL, Try.f40, scL, sopsL, guardL, dstAt, loopKey])
    (repeat (first
    | (apply is_ok; (case hw => simp [h1, h2, h3]); (case he => simp [h1, h2, h3]; exact is_rfl))
    | (apply op_no; (case hw => simp [h1, h2, h3]))
    | refine op_nil ?_ | refine next_normal ?_ | refine go_seq ?_ | refine go_region ?_ | refine go_skip ?_ | refine go_block ?_ | refine inb_normal ?_
    | (apply go_yes; (case hc => simp [h1, h2, h3])) | (apply go_no; (case hc => simp [h1, h2, h3]))
    | refine go_exit ?_ | refine next_exit ?_ | refine inb_here ?_ | refine inb_past (by decide) ?_ | refine go_ret ?_ | refine next_ret ?_ | refine inb_ret ?_))
    (apply ends_ok; (case h1 => simp; exact is_rfl); (case h2 => simp; exact is_rfl))
    simp [h1, h2, h3]
end Go.Abs
