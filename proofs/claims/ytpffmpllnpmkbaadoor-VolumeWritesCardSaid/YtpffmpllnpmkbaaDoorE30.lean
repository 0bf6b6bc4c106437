/- Proved here: what functions of the program compute, over the evaluator. No condition but those that each theorem states. -/
import Derived.Test.YtpffmpllnpmkbaaDoorE29
namespace Go.Abs
open Go.Proofs
set_option maxRecDepth 100000
set_option linter.unusedSimpArgs false
set_option linter.unusedVariables false

theorem sorted_perm (l : List Int) : (sorted l).Perm l := by rw [sorted_eq]; exact List.mergeSort_perm ..
theorem sorted_le (l : List Int) : (sorted l).Pairwise (· ≤ ·) := by
  rw [sorted_eq]
  have := List.pairwise_mergeSort (le := fun x y : Int => decide (x ≤ y)) (fun a b c h1 h2 => by simp at *; omega) (fun a b => by simp; omega) l
  exact this.imp fun h => by simpa using h
theorem sorted_nodup {l : List Int} (h : l.Nodup) : (sorted l).Nodup := (sorted_perm l).nodup_iff.2 h
theorem sorted_lt {l : List Int} (h : l.Nodup) : (sorted l).Pairwise (· < ·) :=
  ((sorted_le l).and (sorted_nodup h)).imp fun ⟨h1, h2⟩ => by omega
theorem sorted_self : ∀ {l : List Int}, l.Pairwise (· ≤ ·) → sorted l = l
  | [], _ => rfl
  | a :: l, h => by
    rw [List.pairwise_cons] at h
    rw [sorted, sorted_self h.2]
    exact insI_at a l h.1 [] (fun b hb => by cases hb)
theorem foldl_new : ∀ (B ks : List Int), B.Nodup → (∀ b ∈ B, b ∉ ks) → B.foldl (fun ks n => if n ∈ ks then ks else ks ++ [n]) ks = ks ++ B
  | [], ks, _, _ => by simp
  | b :: B, ks, h, hd => by
    rw [List.nodup_cons] at h
    rw [List.foldl_cons, if_neg (hd b (List.mem_cons_self ..)), foldl_new B _ h.2 fun c hc hk => by
      rw [List.mem_append, List.mem_singleton] at hk
      rcases hk with hk | hk
      · exact hd c (List.mem_cons_of_mem _ hc) hk
      · exact h.1 (hk ▸ hc)]
    simp
theorem worn_self {B : List Int} (h : B.Nodup) : wornK B = B := by
  unfold wornK
  rw [foldl_new B [] h (by simp)]
  rfl
theorem mergeL_fst (l : List (Int × List UInt8)) : (mergeL l).map Prod.fst = sorted (keysL l) := by unfold mergeL; rw [List.map_map]; exact List.map_id _
theorem mergeL_asc (l : List (Int × List UInt8)) : ((mergeL l).map Prod.fst).Pairwise (· < ·) := by rw [mergeL_fst]; exact sorted_lt (keysL_nodup l)
theorem lastD_map (f : Int → List UInt8) (k : Int) : ∀ (ks : List Int) (a : List UInt8), ks.Nodup → k ∈ ks → (ks.map fun k => (k, f k)).foldl (fun a w => if w.1 = k then w.2 else a) a = f k
  | [], _, _, h => by cases h
  | c :: ks, a, hn, h => by
    rw [List.nodup_cons] at hn
    rw [List.map_cons, List.foldl_cons]
    by_cases hc : c = k
    · subst hc
      rw [if_pos rfl, foldl_none]
      intro w hw
      obtain ⟨x, hx, rfl⟩ := List.mem_map.1 hw
      exact fun e => hn.1 (e ▸ hx)
    · exact lastD_map f k ks _ hn.2 (by
        rcases List.mem_cons.1 h with h | h
        · exact absurd h.symm hc
        · exact h)
theorem mergeL_idem (l : List (Int × List UInt8)) : mergeL (mergeL l) = mergeL l := by
  have h1 : keysL (mergeL l) = sorted (keysL l) := by
    unfold keysL
    rw [mergeL_fst, worn_self (sorted_nodup (keysL_nodup l))]
    rfl
  have h2 : sorted (sorted (keysL l)) = sorted (keysL l) := sorted_self (sorted_le _)
  show (sorted (keysL (mergeL l))).map (fun k => (k, lastD (mergeL l) k)) = (sorted (keysL l)).map (fun k => (k, lastD l k))
  rw [h1, h2]
  refine List.map_congr_left fun k hk => ?_
  have : lastD (mergeL l) k = lastD l k := lastD_map (lastD l) k _ [] (sorted_nodup (keysL_nodup l)) hk
  rw [this]
theorem wrongI_sub {n : Int} {l : List (Int × List UInt8)} (h : ∀ w ∈ l, 18 ≤ w.1 ∧ w.1 < n ∧ w.2.length ≤ 128) : wrongI n l = 0 := by
  induction l with
  | nil => rfl
  | cons w l ih =>
    have h1 := h w (List.mem_cons_self ..)
    rw [wrongI, if_pos ⟨h1.1, h1.2.1⟩, if_neg (by omega)]
    exact ih fun w hw => h w (List.mem_cons_of_mem _ hw)
theorem planS_ok {S : List (List UInt8)} {B : List Int} {l : List (Int × List UInt8)} (h : (planS S B l).2 = 0) :
    VolP S B ∧ CleanP S B ∧ wrongI (S.length - swapW S) l = 0 ∧ (mergeL l).length ≤ 16 ∧ planS S B l = (if (mergeL l).length = 0 then ([], 0) else (planL (mergeL l), 0)) := by
  unfold planS at h ⊢
  by_cases hv : VolP S B
  case neg => rw [if_neg hv] at h; cases h
  rw [if_pos hv] at h ⊢
  by_cases hc : CleanP S B
  case neg => rw [if_neg hc] at h; cases h
  rw [if_pos hc] at h ⊢
  by_cases hw : wrongI (S.length - swapW S) l = 0
  case neg => rw [if_neg hw] at h; exact absurd h hw
  rw [if_pos hw] at h ⊢
  by_cases h16 : 16 < (mergeL l).length
  · rw [if_pos h16] at h; cases h
  rw [if_neg h16]
  exact ⟨hv, hc, hw, by omega, rfl⟩
theorem planS_merge {S : List (List UInt8)} {B : List Int} {l : List (Int × List UInt8)} (h : (planS S B l).2 = 0) : planS S B (mergeL l) = planS S B l := by
  obtain ⟨hv, hc, hw, h16, e⟩ := planS_ok h
  rw [e]
  have hw2 : wrongI (S.length - swapW S) (mergeL l) = 0 := wrongI_sub fun w hw' => wrongI_ok hw w (mergeL_sub hw')
  unfold planS
  rw [if_pos hv, if_pos hc, if_pos hw2, mergeL_idem, if_neg (by omega)]

@[simp] theorem hasRoL_wr (l : List (Int × List UInt8)) : hasRoL (l.map wrV) = false := by
  rw [hasRoL_any, List.any_eq_false]
  intro x hx
  obtain ⟨w, _, rfl⟩ := List.mem_map.1 hx
  simp

def foundK (l : List (Int × List UInt8)) (k : Int) : Bool := l.any fun w => w.1 == k
theorem foundK_take {l : List (Int × List UInt8)} {i : Nat} (h : i < l.length) (k : Int) : foundK (l.take (i + 1)) k = (foundK (l.take i) k || (l[i].1 == k)) := by
  unfold foundK
  rw [List.take_succ_eq_append_getElem h, List.any_append]
  simp
theorem foundK_iff {l : List (Int × List UInt8)} {k : Int} : foundK l k = true ↔ ∃ w ∈ l, w.1 = k := by simp [foundK]
theorem planS_length (S : List (List UInt8)) (B : List Int) (l : List (Int × List UInt8)) : (planS S B l).1.length ≤ 34 := by
  have hp : ∀ m : List (Int × List UInt8), (planL m).length = 2 * m.length + 2 := fun m => by
    unfold planL
    rw [List.length_append, List.length_cons, List.length_append, List.length_map]
    simp [logL]
    omega
  have := hp (mergeL l)
  unfold planS
  generalize mergeL l = m at this ⊢
  generalize wrongI (S.length - swapW S) l = e
  split
  · split
    · split
      · split
        · simp
        · split
          · simp
          · show (planL m).length ≤ 34
            omega
      · simp
    · simp
  · simp
theorem writes_of64 {x : V} (h : ArgT Tryd.prog 28 x) : ∃ l : List (Int × List UInt8), x = .sl (l.map wrV) ∧ l.length ≤ maxLen ∧ In64 (l.map Prod.fst) := by
  obtain ⟨n, h1, h2⟩ := h
  rw [show aggT Tryd.prog 28 = some false by kernel_rfl] at h2
  rw [cells_one (Option.some.inj h2).symm] at h1
  obtain ⟨m, es, rfl, h3, h4, h5⟩ := hasT_slice Tryd.underlying28 (cells_ne (n := 2) (by kernel_rfl) (by decide)) h1
  cases h3
  obtain ⟨l, rfl, hp⟩ := map_of (p := fun w => -9223372036854775808 ≤ w.1 ∧ w.1 ≤ 9223372036854775807) (f := wrV) fun x hx => by
    obtain ⟨h6, h7⟩ := h5 x hx
    rw [show aggT Tryd.prog 40 = some true by kernel_rfl] at h6
    obtain ⟨cs, rfl⟩ := cells_some (Option.some.inj h6).symm
    obtain ⟨w, h8, h9⟩ := wr_cells h7
    exact ⟨w, h8, h9⟩
  refine ⟨l, rfl, by simpa using h4, fun x hx => ?_⟩
  obtain ⟨w, hw, rfl⟩ := List.mem_map.1 hx
  exact hp w hw

theorem VolumeWrites_eq (S : List (List UInt8)) (B : List Int) (hB : B.length ≤ maxLen) (l : List (Int × List UInt8)) (hl : l.length ≤ maxLen) (hX : In64 (l.map Prod.fst)) :
    bodyW DC 5 [drv S B, .sl (l.map wrV)] [] = some (.bool true, []) := by
  have hM := small37_eq S B
  have hF := few37_eq l hl
  have hA := alive37_eq
  by_cases hs : SmallV S B
  case neg =>
    (refine gives_iff ?_; refine go_func Tryd.f5 rfl rfl (by simp [Tryd.f5]) ?_; dsimp only [codeL, Tryd.f5, scL, sopsL, guardL, dstAt, loopKey])
    (repeat (first
    | (apply is_ok; (case hw => simp [hM, hF, hs, hA]); (case he => simp [hM, hF, hs, hA]; exact is_rfl))
    | (apply op_no; (case hw => simp [hM, hF, hs, hA]))
    | refine op_nil ?_ | refine next_normal ?_ | refine go_seq ?_ | refine go_region ?_ | refine go_skip ?_ | refine go_block ?_ | refine inb_normal ?_
    | (apply go_yes; (case hc => simp [hM, hF, hs, hA])) | (apply go_no; (case hc => simp [hM, hF, hs, hA]))
    | refine go_exit ?_ | refine next_exit ?_ | refine inb_here ?_ | refine inb_past (by decide) ?_ | refine go_ret ?_ | refine next_ret ?_ | refine inb_ret ?_))
    (apply ends_ok; (case h1 => simp; exact is_rfl); (case h2 => simp; exact is_rfl))
    simp
  by_cases hf : FewP l
  case neg =>
    (refine gives_iff ?_; refine go_func Tryd.f5 rfl rfl (by simp [Tryd.f5]) ?_; dsimp only [codeL, Tryd.f5, scL, sopsL, guardL, dstAt, loopKey])
    (repeat (first
    | (apply is_ok; (case hw => simp [hM, hF, hs, hf, hA]); (case he => simp [hM, hF, hs, hf, hA]; exact is_rfl))
    | (apply op_no; (case hw => simp [hM, hF, hs, hf, hA]))
    | refine op_nil ?_ | refine next_normal ?_ | refine go_seq ?_ | refine go_region ?_ | refine go_skip ?_ | refine go_block ?_ | refine inb_normal ?_
    | (apply go_yes; (case hc => simp [hM, hF, hs, hf, hA])) | (apply go_no; (case hc => simp [hM, hF, hs, hf, hA]))
    | refine go_exit ?_ | refine next_exit ?_ | refine inb_here ?_ | refine inb_past (by decide) ?_ | refine go_ret ?_ | refine next_ret ?_ | refine inb_ret ?_))
    (apply ends_ok; (case h1 => simp; exact is_rfl); (case h2 => simp; exact is_rfl))
    simp
  have hl6 := hf.2
  have hMg := Merge_eq l (by omega)
  have hmem : ∀ w ∈ mergeL l, foundK l w.1 = true ∧ lastD l w.1 = w.2 := fun w hw => by
    refine ⟨foundK_iff.2 ⟨w, mergeL_sub hw, rfl⟩, ?_⟩
    unfold mergeL at hw
    obtain ⟨k, hk, rfl⟩ := List.mem_map.1 hw
    rfl
  have hfnd : ∀ w ∈ l, foundK (mergeL l) w.1 = true := fun w hw => by
    refine foundK_iff.2 ⟨(w.1, lastD l w.1), ?_, rfl⟩
    unfold mergeL
    exact List.mem_map.2 ⟨w.1, sorted_mem.2 (mem_keysL.2 ⟨w, hw, rfl⟩), rfl⟩
  have hasc : ∀ i a b, (mergeL l)[i]? = some a → (mergeL l)[i + 1]? = some b → a.1 < b.1 := fun i a b ha hb => by
    obtain ⟨h1, rfl⟩ := List.getElem?_eq_some_iff.1 ha
    obtain ⟨h2, rfl⟩ := List.getElem?_eq_some_iff.1 hb
    have := List.pairwise_iff_getElem.1 (mergeL_asc l) i (i + 1) (by simp; omega) (by simp; omega) (by omega)
    simpa using this
  have hmX : In64 ((mergeL l).map Prod.fst) := fun x hx => by
    obtain ⟨w, hw, rfl⟩ := List.mem_map.1 hx
    exact hX _ (List.mem_map.2 ⟨w, mergeL_sub hw, rfl⟩)
  have hml : (mergeL l).length ≤ l.length := by rw [mergeL_length]; exact keysL_length l
  have hP := Plan_eq S B hB l (by omega) hX
  have hP2 := Plan_eq S B hB (mergeL l) (by omega) hmX
  have hpm := @planS_merge S B l
  have hsw := SameW_refl (planS S B l).1 (by have := planS_length S B l; omega)
  generalize hm : mergeL l = m at hMg hmem hfnd hasc hmX hml hP2 hpm
  (refine gives_iff ?_; refine go_func Tryd.f5 rfl rfl (by simp [Tryd.f5]) ?_; dsimp only [codeL, Tryd.f5, scL, sopsL, guardL, dstAt, loopKey])
  (repeat (first
    | (apply is_ok; (case hw => simp [hM, hF, hs, hf, hMg]); (case he => simp [hM, hF, hs, hf, hMg]; exact is_rfl))
    | (apply op_no; (case hw => simp [hM, hF, hs, hf, hMg]))
    | refine op_nil ?_ | refine next_normal ?_ | refine go_seq ?_ | refine go_region ?_ | refine go_skip ?_ | refine go_block ?_ | refine inb_normal ?_
    | (apply go_yes; (case hc => simp [hM, hF, hs, hf, hMg])) | (apply go_no; (case hc => simp [hM, hF, hs, hf, hMg]))
    | refine go_exit ?_ | refine next_exit ?_ | refine inb_here ?_ | refine inb_past (by decide) ?_ | refine go_ret ?_ | refine next_ret ?_ | refine inb_ret ?_))
  refine go_count m.length (fun i => [(1, .sl (l.map wrV)), (2, .ptr 0 1 0 0), (5, .own 1 m.length 0 m.length), (32, .own 1 m.length 0 m.length), (33, .int .i64 m.length), (34, .int .i64 i)])
    (fun i => [.box (drv S B), .dat true 2 (m.map wrV)]) (fun _ => True) (by simp) trivial fun i hi _ => ?_
  have hw : IntKind.i64.wrap ((i : Int) + 1) = (i : Int) + 1 := wrap_id (by omega) (by omega)
  by_cases hlt : i < m.length
  · have gx : m[i]? = some (m[i]'hlt) := List.getElem?_eq_getElem hlt
    have hmi := hmem _ (List.getElem_mem hlt)
    generalize hx0 : m[i]'hlt = x at gx hmi
    obtain ⟨k, s⟩ := x
    dsimp only at hmi
    cases i with
    | zero =>
      have hltI : (0 : Int) < (m.length : Int) := by omega
      (repeat (first
    | (apply is_ok; (case hw => simp [hltI, hlt, gx, hx0]); (case he => simp [hltI, hlt, gx, hx0]; exact is_rfl))
    | (apply op_no; (case hw => simp [hltI, hlt, gx, hx0]))
    | refine op_nil ?_ | refine next_normal ?_ | refine go_seq ?_ | refine go_region ?_ | refine go_skip ?_ | refine go_block ?_ | refine inb_normal ?_
    | (apply go_yes; (case hc => simp [hltI, hlt, gx, hx0])) | (apply go_no; (case hc => simp [hltI, hlt, gx, hx0]))
    | refine go_exit ?_ | refine next_exit ?_ | refine inb_here ?_ | refine inb_past (by decide) ?_ | refine go_ret ?_ | refine next_ret ?_ | refine inb_ret ?_))
      refine go_count l.length (fun j => [(1, .sl (l.map wrV)), (2, .ptr 0 1 0 0), (5, .own 1 m.length 0 m.length), (7, .ptr 2 1 0 0), (8, .str (lastD (l.take j) k)), (9, .bool (foundK (l.take j) k)), (32, .own 1 m.length 0 m.length), (33, .int .i64 m.length), (34, .int .i64 0), (52, .sl (l.map wrV)), (53, .int .i64 l.length), (54, .int .i64 j)])
        (fun j => [.box (drv S B), .dat true 2 (m.map wrV), .box (wrV (k, s))]) (fun _ => True) (by simp [lastD, foundK]) trivial fun j hj _ => ?_
      have hwj : IntKind.i64.wrap ((j : Int) + 1) = (j : Int) + 1 := wrap_id (by omega) (by omega)
      by_cases hltj : j < l.length
      · have gy : l[j]? = some (l[j]'hltj) := List.getElem?_eq_getElem hltj
        have h1 := lastD_take hltj k
        have h2 := foundK_take hltj k
        generalize hy0 : l[j]'hltj = y at gy h1 h2
        obtain ⟨k2, s2⟩ := y
        dsimp only at h1 h2
        rw [h1, h2]
        generalize lastD (l.take j) k = L1
        generalize foundK (l.take j) k = F1
        by_cases hk : k2 = k
        · subst hk
          (repeat (first
    | (apply is_ok; (case hw => simp [hltj, gy, hy0]); (case he => simp [hltj, gy, hy0]; exact is_rfl))
    | (apply op_no; (case hw => simp [hltj, gy, hy0]))
    | refine op_nil ?_ | refine next_normal ?_ | refine go_seq ?_ | refine go_region ?_ | refine go_skip ?_ | refine go_block ?_ | refine inb_normal ?_
    | (apply go_yes; (case hc => simp [hltj, gy, hy0])) | (apply go_no; (case hc => simp [hltj, gy, hy0]))
    | refine go_exit ?_ | refine next_exit ?_ | refine inb_here ?_ | refine inb_past (by decide) ?_ | refine go_ret ?_ | refine next_ret ?_ | refine inb_ret ?_))
          exact ⟨hltj, by simp [hwj], trivial⟩
        · have hk2 : (k2 == k) = false := by simpa using hk
          (repeat (first
    | (apply is_ok; (case hw => simp [hltj, gy, hy0, hk, hk2]); (case he => simp [hltj, gy, hy0, hk, hk2]; exact is_rfl))
    | (apply op_no; (case hw => simp [hltj, gy, hy0, hk, hk2]))
    | refine op_nil ?_ | refine next_normal ?_ | refine go_seq ?_ | refine go_region ?_ | refine go_skip ?_ | refine go_block ?_ | refine inb_normal ?_
    | (apply go_yes; (case hc => simp [hltj, gy, hy0, hk, hk2])) | (apply go_no; (case hc => simp [hltj, gy, hy0, hk, hk2]))
    | refine go_exit ?_ | refine next_exit ?_ | refine inb_here ?_ | refine inb_past (by decide) ?_ | refine go_ret ?_ | refine next_ret ?_ | refine inb_ret ?_))
          exact ⟨hltj, by simp [hwj, hk], trivial⟩
      · have hin : j = l.length := by omega
        subst hin
        rw [List.take_length, hmi.1, hmi.2]
        (repeat (first
    | (apply is_ok; (case hw => simp [hltj]); (case he => simp [hltj]; exact is_rfl))
    | (apply op_no; (case hw => simp [hltj]))
    | refine op_nil ?_ | refine next_normal ?_ | refine go_seq ?_ | refine go_region ?_ | refine go_skip ?_ | refine go_block ?_ | refine inb_normal ?_
    | (apply go_yes; (case hc => simp [hltj])) | (apply go_no; (case hc => simp [hltj]))
    | refine go_exit ?_ | refine next_exit ?_ | refine inb_here ?_ | refine inb_past (by decide) ?_ | refine go_ret ?_ | refine next_ret ?_ | refine inb_ret ?_))
        exact ⟨hlt, by simp [hw], trivial⟩
    | succ i =>
      have hltI : (i : Int) + 1 < (m.length : Int) := by omega
      have hcast : ((i + 1 : Nat) : Int) = (i : Int) + 1 := by omega
      have a1 : (0 : Int) < (i : Int) + 1 := by omega
      have a2 : IntKind.i64.wrap ((i : Int) + 1 - 1) = i := by rw [wrap_id (by omega) (by omega)]; omega
      have a3 : IntKind.i64.wrap (i : Int) = i := wrap_id (by omega) (by omega)
      have hlt2 : i < m.length := by omega
      have gz : m[i]? = some (m[i]'hlt2) := List.getElem?_eq_getElem hlt2
      generalize hz0 : m[i]'hlt2 = z at gz
      have hzx := hasc i z _ gz gx
      obtain ⟨kz, sz⟩ := z
      dsimp only at hzx
      have a4 : ¬ k ≤ kz := by omega
      have c1 : (0 : Int) ≤ (i : Int) + 1 := by omega
      have c2 : ((i : Int) + 1).toNat = i + 1 := by omega
      rw [hcast] at hw
      (repeat (first
    | (apply is_ok; (case hw => simp [hltI, hlt, gx, hx0, a1, a2, a3, hlt2, gz, hz0, a4, c1, c2]); (case he => simp [hltI, hlt, gx, hx0, a1, a2, a3, hlt2, gz, hz0, a4, c1, c2]; exact is_rfl))
    | (apply op_no; (case hw => simp [hltI, hlt, gx, hx0, a1, a2, a3, hlt2, gz, hz0, a4, c1, c2]))
    | refine op_nil ?_ | refine next_normal ?_ | refine go_seq ?_ | refine go_region ?_ | refine go_skip ?_ | refine go_block ?_ | refine inb_normal ?_
    | (apply go_yes; (case hc => simp [hltI, hlt, gx, hx0, a1, a2, a3, hlt2, gz, hz0, a4, c1, c2])) | (apply go_no; (case hc => simp [hltI, hlt, gx, hx0, a1, a2, a3, hlt2, gz, hz0, a4, c1, c2]))
    | refine go_exit ?_ | refine next_exit ?_ | refine inb_here ?_ | refine inb_past (by decide) ?_ | refine go_ret ?_ | refine next_ret ?_ | refine inb_ret ?_))
      refine go_count l.length (fun j => [(1, .sl (l.map wrV)), (2, .ptr 0 1 0 0), (5, .own 1 m.length 0 m.length), (7, .ptr 2 1 0 0), (8, .str (lastD (l.take j) k)), (9, .bool (foundK (l.take j) k)), (32, .own 1 m.length 0 m.length), (33, .int .i64 m.length), (34, .int .i64 ((i : Int) + 1)), (52, .sl (l.map wrV)), (53, .int .i64 l.length), (54, .int .i64 j)])
        (fun j => [.box (drv S B), .dat true 2 (m.map wrV), .box (wrV (k, s))]) (fun _ => True) (by simp [lastD, foundK]) trivial fun j hj _ => ?_
      have hwj : IntKind.i64.wrap ((j : Int) + 1) = (j : Int) + 1 := wrap_id (by omega) (by omega)
      by_cases hltj : j < l.length
      · have gy : l[j]? = some (l[j]'hltj) := List.getElem?_eq_getElem hltj
        have h1 := lastD_take hltj k
        have h2 := foundK_take hltj k
        generalize hy0 : l[j]'hltj = y at gy h1 h2
        obtain ⟨k2, s2⟩ := y
        dsimp only at h1 h2
        rw [h1, h2]
        generalize lastD (l.take j) k = L1
        generalize foundK (l.take j) k = F1
        by_cases hk : k2 = k
        · subst hk
          (repeat (first
    | (apply is_ok; (case hw => simp [hltj, gy, hy0]); (case he => simp [hltj, gy, hy0]; exact is_rfl))
    | (apply op_no; (case hw => simp [hltj, gy, hy0]))
    | refine op_nil ?_ | refine next_normal ?_ | refine go_seq ?_ | refine go_region ?_ | refine go_skip ?_ | refine go_block ?_ | refine inb_normal ?_
    | (apply go_yes; (case hc => simp [hltj, gy, hy0])) | (apply go_no; (case hc => simp [hltj, gy, hy0]))
    | refine go_exit ?_ | refine next_exit ?_ | refine inb_here ?_ | refine inb_past (by decide) ?_ | refine go_ret ?_ | refine next_ret ?_ | refine inb_ret ?_))
          exact ⟨hltj, by simp [hwj], trivial⟩
        · have hk2 : (k2 == k) = false := by simpa using hk
          (repeat (first
    | (apply is_ok; (case hw => simp [hltj, gy, hy0, hk, hk2]); (case he => simp [hltj, gy, hy0, hk, hk2]; exact is_rfl))
    | (apply op_no; (case hw => simp [hltj, gy, hy0, hk, hk2]))
    | refine op_nil ?_ | refine next_normal ?_ | refine go_seq ?_ | refine go_region ?_ | refine go_skip ?_ | refine go_block ?_ | refine inb_normal ?_
    | (apply go_yes; (case hc => simp [hltj, gy, hy0, hk, hk2])) | (apply go_no; (case hc => simp [hltj, gy, hy0, hk, hk2]))
    | refine go_exit ?_ | refine next_exit ?_ | refine inb_here ?_ | refine inb_past (by decide) ?_ | refine go_ret ?_ | refine next_ret ?_ | refine inb_ret ?_))
          exact ⟨hltj, by simp [hwj, hk], trivial⟩
      · have hin : j = l.length := by omega
        subst hin
        rw [List.take_length, hmi.1, hmi.2]
        (repeat (first
    | (apply is_ok; (case hw => simp [hltj]); (case he => simp [hltj]; exact is_rfl))
    | (apply op_no; (case hw => simp [hltj]))
    | refine op_nil ?_ | refine next_normal ?_ | refine go_seq ?_ | refine go_region ?_ | refine go_skip ?_ | refine go_block ?_ | refine inb_normal ?_
    | (apply go_yes; (case hc => simp [hltj])) | (apply go_no; (case hc => simp [hltj]))
    | refine go_exit ?_ | refine next_exit ?_ | refine inb_here ?_ | refine inb_past (by decide) ?_ | refine go_ret ?_ | refine next_ret ?_ | refine inb_ret ?_))
        exact ⟨hlt, by simp [hw], trivial⟩
  · (repeat (first
    | (apply is_ok; (case hw => simp [hlt]); (case he => simp [hlt]; exact is_rfl))
    | (apply op_no; (case hw => simp [hlt]))
    | refine op_nil ?_ | refine next_normal ?_ | refine go_seq ?_ | refine go_region ?_ | refine go_skip ?_ | refine go_block ?_ | refine inb_normal ?_
    | (apply go_yes; (case hc => simp [hlt])) | (apply go_no; (case hc => simp [hlt]))
    | refine go_exit ?_ | refine next_exit ?_ | refine inb_here ?_ | refine inb_past (by decide) ?_ | refine go_ret ?_ | refine next_ret ?_ | refine inb_ret ?_))
    refine go_count l.length (fun i => [(1, .sl (l.map wrV)), (2, .ptr 0 1 0 0), (5, .own 1 m.length 0 m.length), (75, .sl (l.map wrV)), (76, .int .i64 l.length), (77, .int .i64 i)])
      (fun i => [.box (drv S B), .dat true 2 (m.map wrV)]) (fun _ => True) (by simp) trivial fun i hi _ => ?_
    have hw : IntKind.i64.wrap ((i : Int) + 1) = (i : Int) + 1 := wrap_id (by omega) (by omega)
    by_cases hlt : i < l.length
    · have gx : l[i]? = some (l[i]'hlt) := List.getElem?_eq_getElem hlt
      have hmi := hfnd _ (List.getElem_mem hlt)
      generalize hx0 : l[i]'hlt = x at gx hmi
      obtain ⟨k, s⟩ := x
      dsimp only at hmi
      (repeat (first
    | (apply is_ok; (case hw => simp [hlt, gx, hx0]); (case he => simp [hlt, gx, hx0]; exact is_rfl))
    | (apply op_no; (case hw => simp [hlt, gx, hx0]))
    | refine op_nil ?_ | refine next_normal ?_ | refine go_seq ?_ | refine go_region ?_ | refine go_skip ?_ | refine go_block ?_ | refine inb_normal ?_
    | (apply go_yes; (case hc => simp [hlt, gx, hx0])) | (apply go_no; (case hc => simp [hlt, gx, hx0]))
    | refine go_exit ?_ | refine next_exit ?_ | refine inb_here ?_ | refine inb_past (by decide) ?_ | refine go_ret ?_ | refine next_ret ?_ | refine inb_ret ?_))
      refine go_count m.length (fun j => [(1, .sl (l.map wrV)), (2, .ptr 0 1 0 0), (5, .own 1 m.length 0 m.length), (13, .ptr 2 1 0 0), (14, .bool (foundK (m.take j) k)), (75, .sl (l.map wrV)), (76, .int .i64 l.length), (77, .int .i64 i), (81, .own 1 m.length 0 m.length), (82, .int .i64 m.length), (83, .int .i64 j)])
        (fun j => [.box (drv S B), .dat true 2 (m.map wrV), .box (wrV (k, s))]) (fun _ => True) (by simp [foundK]) trivial fun j hj _ => ?_
      have hwj : IntKind.i64.wrap ((j : Int) + 1) = (j : Int) + 1 := wrap_id (by omega) (by omega)
      by_cases hltj : j < m.length
      · have gy : m[j]? = some (m[j]'hltj) := List.getElem?_eq_getElem hltj
        have h2 := foundK_take hltj k
        generalize hy0 : m[j]'hltj = y at gy h2
        obtain ⟨k2, s2⟩ := y
        dsimp only at h2
        rw [h2]
        cases foundK (m.take j) k with
        | true =>
          (repeat (first
    | (apply is_ok; (case hw => simp [hltj, gy, hy0]); (case he => simp [hltj, gy, hy0]; exact is_rfl))
    | (apply op_no; (case hw => simp [hltj, gy, hy0]))
    | refine op_nil ?_ | refine next_normal ?_ | refine go_seq ?_ | refine go_region ?_ | refine go_skip ?_ | refine go_block ?_ | refine inb_normal ?_
    | (apply go_yes; (case hc => simp [hltj, gy, hy0])) | (apply go_no; (case hc => simp [hltj, gy, hy0]))
    | refine go_exit ?_ | refine next_exit ?_ | refine inb_here ?_ | refine inb_past (by decide) ?_ | refine go_ret ?_ | refine next_ret ?_ | refine inb_ret ?_))
          exact ⟨hltj, by simp [hwj], trivial⟩
        | false =>
          (repeat (first
    | (apply is_ok; (case hw => simp [hltj, gy, hy0]); (case he => simp [hltj, gy, hy0]; exact is_rfl))
    | (apply op_no; (case hw => simp [hltj, gy, hy0]))
    | refine op_nil ?_ | refine next_normal ?_ | refine go_seq ?_ | refine go_region ?_ | refine go_skip ?_ | refine go_block ?_ | refine inb_normal ?_
    | (apply go_yes; (case hc => simp [hltj, gy, hy0])) | (apply go_no; (case hc => simp [hltj, gy, hy0]))
    | refine go_exit ?_ | refine next_exit ?_ | refine inb_here ?_ | refine inb_past (by decide) ?_ | refine go_ret ?_ | refine next_ret ?_ | refine inb_ret ?_))
          exact ⟨hltj, by simp [hwj], trivial⟩
      · have hin : j = m.length := by omega
        subst hin
        rw [List.take_length, hmi]
        (repeat (first
    | (apply is_ok; (case hw => simp [hltj]); (case he => simp [hltj]; exact is_rfl))
    | (apply op_no; (case hw => simp [hltj]))
    | refine op_nil ?_ | refine next_normal ?_ | refine go_seq ?_ | refine go_region ?_ | refine go_skip ?_ | refine go_block ?_ | refine inb_normal ?_
    | (apply go_yes; (case hc => simp [hltj])) | (apply go_no; (case hc => simp [hltj]))
    | refine go_exit ?_ | refine next_exit ?_ | refine inb_here ?_ | refine inb_past (by decide) ?_ | refine go_ret ?_ | refine next_ret ?_ | refine inb_ret ?_))
        exact ⟨hlt, by simp [hw], trivial⟩
    · by_cases h0 : (planS S B l).2 = 0
      · rw [hpm h0] at hP2
        generalize planS S B l = p at hP hP2 hsw h0
        (repeat (first
    | (apply is_ok; (case hw => simp [hlt, hP, hP2, hsw, h0, hA]); (case he => simp [hlt, hP, hP2, hsw, h0, hA]; exact is_rfl))
    | (apply op_no; (case hw => simp [hlt, hP, hP2, hsw, h0, hA]))
    | refine op_nil ?_ | refine next_normal ?_ | refine go_seq ?_ | refine go_region ?_ | refine go_skip ?_ | refine go_block ?_ | refine inb_normal ?_
    | (apply go_yes; (case hc => simp [hlt, hP, hP2, hsw, h0, hA])) | (apply go_no; (case hc => simp [hlt, hP, hP2, hsw, h0, hA]))
    | refine go_exit ?_ | refine next_exit ?_ | refine inb_here ?_ | refine inb_past (by decide) ?_ | refine go_ret ?_ | refine next_ret ?_ | refine inb_ret ?_))
        (apply ends_ok; (case h1 => simp; exact is_rfl); (case h2 => simp; exact is_rfl))
        simp
      · generalize planS S B l = p at hP h0
        generalize planS S B m = q at hP2
        (repeat (first
    | (apply is_ok; (case hw => simp [hlt, hP, hP2, h0, hA]); (case he => simp [hlt, hP, hP2, h0, hA]; exact is_rfl))
    | (apply op_no; (case hw => simp [hlt, hP, hP2, h0, hA]))
    | refine op_nil ?_ | refine next_normal ?_ | refine go_seq ?_ | refine go_region ?_ | refine go_skip ?_ | refine go_block ?_ | refine inb_normal ?_
    | (apply go_yes; (case hc => simp [hlt, hP, hP2, h0, hA])) | (apply go_no; (case hc => simp [hlt, hP, hP2, h0, hA]))
    | refine go_exit ?_ | refine next_exit ?_ | refine inb_here ?_ | refine inb_past (by decide) ?_ | refine go_ret ?_ | refine next_ret ?_ | refine inb_ret ?_))
        (apply ends_ok; (case h1 => simp; exact is_rfl); (case h2 => simp; exact is_rfl))
        simp
end Go.Abs
