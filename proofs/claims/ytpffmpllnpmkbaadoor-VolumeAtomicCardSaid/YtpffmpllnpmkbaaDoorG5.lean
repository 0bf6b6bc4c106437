/- Proved here: what functions of the program compute, over the evaluator. No condition but those that each theorem states. -/
import Derived.Test.YtpffmpllnpmkbaaDoorG4
namespace Go.Abs
open Go.Proofs
set_option maxRecDepth 100000
set_option linter.unusedSimpArgs false
set_option linter.unusedVariables false

theorem padS_pad {s : List UInt8} (h : s.length ≤ 128) : padS (padS s) = padS s := by
  have := padS_length h
  show padS s ++ List.replicate (128 - (padS s).length) 0 = padS s
  rw [this]
  simp
theorem puts_low {i : Nat} : ∀ (l : List (Int × List UInt8)) (T : List (List UInt8)), (∀ w ∈ l, 0 ≤ w.1 ∧ w.1 ≠ i) → (puts T l).getD i [] = T.getD i []
  | [], _, _ => rfl
  | w :: l, T, h => by
    have h1 := h w (List.mem_cons_self ..)
    have := puts_low l (putS T w) fun v hv => h v (List.mem_cons_of_mem _ hv)
    rw [show puts T (w :: l) = puts (putS T w) l from rfl, this]
    exact getD_putS (by omega)
theorem getD_putS_self {T : List (List UInt8)} {w : Int × List UInt8} (h0 : 0 ≤ w.1) (h1 : w.1 < T.length) : (putS T w).getD w.1.toNat [] = padS w.2 := by
  unfold putS
  rw [List.getD_eq_getElem?_getD, List.getElem?_set_self (by omega)]
  rfl
theorem puts_mem {i : Nat} {w : Int × List UInt8} : ∀ (l : List (Int × List UInt8)) (T : List (List UInt8)), (∀ v ∈ l, 0 ≤ v.1 ∧ v.1 < T.length) → (l.map Prod.fst).Nodup → w ∈ l → w.1 = i → (puts T l).getD i [] = padS w.2
  | [], _, _, _, hw, _ => by cases hw
  | v :: l, T, h, hn, hw, hi => by
    rw [List.map_cons, List.nodup_cons] at hn
    have hv := h v (List.mem_cons_self ..)
    rw [show puts T (v :: l) = puts (putS T v) l from rfl]
    rcases List.mem_cons.1 hw with rfl | hw
    · rw [puts_low l _ fun u hu => ⟨(h u (List.mem_cons_of_mem _ hu)).1, fun e => hn.1 (List.mem_map.2 ⟨u, hu, by omega⟩)⟩]
      rw [show i = w.1.toNat by omega]
      exact getD_putS_self hv.1 hv.2
    · exact puts_mem l _ (fun u hu => by rw [putS_length]; exact h u (List.mem_cons_of_mem _ hu)) hn.2 hw hi

/-- A drive whose log leads to the end of a transaction. -/
def Rdy (S : List (List UInt8)) (m : List (Int × List UInt8)) (T : List (List UInt8)) : Prop :=
  T.length = S.length ∧ RightP T [] ∧ T.getD 0 [] = S.getD 0 [] ∧ T.getD 1 [] = padS (headL m) ∧ (∀ i (h : i < m.length), T.getD (2 + i) [] = padS (m[i]).2) ∧
    ∀ i : Nat, 18 ≤ i → (∀ w ∈ m, w.1 ≠ i) → T.getD i [] = S.getD i []
/-- A drive with a clean log. -/
def Don (S W T : List (List UInt8)) : Prop :=
  T.length = S.length ∧ RightP T [] ∧ T.getD 0 [] = S.getD 0 [] ∧ T.getD 1 [] = padS [] ∧ ∀ i : Nat, 18 ≤ i → T.getD i [] = W.getD i []

/-- What a transaction's writes are. -/
structure Txn (S : List (List UInt8)) (m : List (Int × List UInt8)) : Prop where
  vol : VolP S []
  clean : S.getD 1 [] = padS []
  low : 1 ≤ m.length
  high : m.length ≤ 16
  keys : ∀ w ∈ m, 18 ≤ w.1 ∧ w.1 < S.length - swapW S ∧ w.2.length ≤ 128
  asc : (m.map Prod.fst).Pairwise (· < ·)

section
variable {S T : List (List UInt8)} {m : List (Int × List UInt8)}
theorem vol_same {S T : List (List UInt8)} (hv : VolP S []) (h1 : T.length = S.length) (h2 : RightP T []) (h3 : T.getD 0 [] = S.getD 0 []) : VolP T [] ∧ swapW T = swapW S := by
  have hs : swapW T = swapW S := by unfold swapW; rw [h3]
  exact ⟨⟨h2, by rw [h1]; exact hv.2.1, by simp, by rw [hs, h1]; exact hv.2.2.2.1, by rw [h3, hs, h1]; exact hv.2.2.2.2⟩, hs⟩
theorem Txn.nodup (h : Txn S m) : (m.map Prod.fst).Nodup := h.asc.imp fun h => by omega
theorem Txn.D_nodup (h : Txn S m) : ((m.map padW).map Prod.fst).Nodup := by
  rw [List.map_map]
  exact h.nodup
theorem headL_length (h : m.length ≤ 16) : (headL m).length ≤ 128 := by unfold headL; rw [List.length_append, put2_length, flat_len]; omega
theorem Txn.okD (h : Txn S m) (n : Nat) (hn : n = S.length) : OkAll n [] (m.map padW) := fun w hw => by
  obtain ⟨v, hv, rfl⟩ := List.mem_map.1 hw
  have := h.keys v hv
  have hb := vol_bounds h.vol
  exact faultI_zero.2 ⟨⟨by show 0 ≤ v.1; omega, by show v.1 < n; omega⟩, by show (padS v.2).length ≤ 128; rw [padS_length this.2.2]; omega, by simp⟩
theorem Txn.okV (h : Txn S m) (n : Nat) (hn : n = S.length) : OkAll n [] (logL m) := fun w hw => by
  unfold logL at hw
  obtain ⟨i, hi, rfl⟩ := List.mem_map.1 hw
  rw [List.mem_range] at hi
  have hb := vol_bounds h.vol
  have h16 := h.high
  have := h.keys _ (List.getElem_mem hi)
  refine faultI_zero.2 ⟨⟨by show (0 : Int) ≤ 2 + (i : Int); omega, by show (2 + (i : Int)) < n; omega⟩, ?_, by simp⟩
  show (padS (m.getD i (0, [])).2).length ≤ 128
  rw [getD_at hi, padS_length this.2.2]
  omega
theorem Txn.okH (h : Txn S m) (n : Nat) (hn : n = S.length) {s : List UInt8} (hs : s.length ≤ 128) : faultI n [] (1, padS s) = 0 := by
  have hb := vol_bounds h.vol
  exact faultI_zero.2 ⟨⟨by show (0 : Int) ≤ 1; omega, by show (1 : Int) < n; omega⟩, by show (padS s).length ≤ 128; rw [padS_length hs]; omega, by simp⟩
theorem Txn.okP (h : Txn S m) (n : Nat) (hn : n = S.length) : OkAll n [] (planL m) := fun w hw => by
  unfold planL at hw
  rcases List.mem_append.1 hw with hw | hw
  · exact h.okV n hn w hw
  · rcases List.mem_cons.1 hw with rfl | hw
    · exact h.okH n hn (headL_length h.high)
    · rcases List.mem_append.1 hw with hw | hw
      · exact h.okD n hn w hw
      · rw [List.mem_singleton] at hw
        subst hw
        exact h.okH n hn (by simp)
theorem Txn.okR (h : Txn S m) (n : Nat) (hn : n = S.length) : OkAll n [] (m.map padW ++ [(1, padS [])]) := fun w hw => h.okP n hn w (by
  unfold planL
  exact List.mem_append_right _ (List.mem_cons_of_mem _ hw))
theorem ok_rng {n : Nat} {l : List (Int × List UInt8)} (h : OkAll n [] l) : ∀ w ∈ l, 0 ≤ w.1 ∧ w.1 < n := fun w hw => (faultI_zero.1 (h w hw)).1
theorem Txn.d_low (h : Txn S m) {j i : Nat} (hi : i < 18) : ∀ w ∈ (m.map padW).take j, 0 ≤ w.1 ∧ w.1 ≠ i := fun w hw => by
  obtain ⟨v, hv, rfl⟩ := List.mem_map.1 (List.mem_of_mem_take hw)
  have := h.keys v hv
  exact ⟨by show 0 ≤ v.1; omega, by show v.1 ≠ i; omega⟩
theorem Txn.d_not (h : Txn S m) {j i : Nat} (hi : ∀ w ∈ m, w.1 ≠ i) : ∀ w ∈ (m.map padW).take j, 0 ≤ w.1 ∧ w.1 ≠ i := fun w hw => by
  obtain ⟨v, hv, rfl⟩ := List.mem_map.1 (List.mem_of_mem_take hw)
  have := h.keys v hv
  exact ⟨by show 0 ≤ v.1; omega, hi v hv⟩

/-- The log, written. -/
theorem Txn.rdy0 (h : Txn S m) : Rdy S m (putS (puts S (logL m)) (1, padS (headL m))) := by
  have hb := vol_bounds h.vol
  have h16 := h.high
  have hl : (puts S (logL m)).length = S.length := puts_length ..
  have hlow : ∀ i : Nat, (i < 2 ∨ 18 ≤ i) → ∀ w ∈ logL m, 0 ≤ w.1 ∧ w.1 ≠ i := fun i hi w hw => by
    unfold logL at hw
    obtain ⟨j, hj, rfl⟩ := List.mem_map.1 hw
    rw [List.mem_range] at hj
    exact ⟨by show (0 : Int) ≤ 2 + (j : Int); omega, by show (2 + (j : Int)) ≠ i; omega⟩
  refine ⟨by rw [putS_length, hl], RightP_put (RightP_puts _ _ h.vol.1 (h.okV _ rfl)) (by rw [padS_length (headL_length h16)]; omega), ?_, ?_, fun i hi => ?_, fun i hi hni => ?_⟩
  · rw [getD_putS (by show (0 : Nat) ≠ (1 : Int).toNat; decide)]
    exact puts_low _ _ (hlow 0 (by omega))
  · have := @getD_putS_self (puts S (logL m)) (1, padS (headL m)) (by show (0 : Int) ≤ 1; omega) (by rw [hl]; show (1 : Int) < _; omega)
    rw [padS_pad (headL_length h16)] at this
    exact this
  · rw [getD_putS (by show 2 + i ≠ (1 : Int).toNat; have : (1 : Int).toNat = 1 := rfl; omega)]
    have hmem : ((2 + (i : Int)), padS (m[i]).2) ∈ logL m := by
      unfold logL
      exact List.mem_map.2 ⟨i, List.mem_range.2 hi, by rw [getD_at hi]⟩
    have hnd : ((logL m).map Prod.fst).Nodup := by
      unfold logL
      rw [List.map_map]
      refine List.Pairwise.imp_of_mem (R := (· ≠ ·)) (S := (· ≠ ·)) (fun _ _ h => h) ?_
      rw [List.pairwise_map]
      exact List.nodup_range.imp fun h => by simp; omega
    rw [puts_mem (i := 2 + i) (logL m) S (ok_rng (h.okV _ rfl)) hnd hmem (by show (2 + (i : Int)) = _; omega)]
    exact padS_pad (h.keys _ (List.getElem_mem hi)).2.2
  · rw [getD_putS (by show i ≠ (1 : Int).toNat; have : (1 : Int).toNat = 1 := rfl; omega)]
    exact puts_low _ _ (hlow i (by omega))

theorem Rdy.step (h : Txn S m) (hr : Rdy S m T) (j : Nat) : Rdy S m (puts T ((m.map padW).take j)) := by
  obtain ⟨h1, h2, h3, h4, h5, h6⟩ := hr
  have h16 := h.high
  exact ⟨by rw [puts_length, h1], RightP_puts _ _ h2 fun w hw => h.okD _ h1 w (List.mem_of_mem_take hw), by rw [puts_low _ _ (h.d_low (by omega)), h3], by rw [puts_low _ _ (h.d_low (by omega)), h4],
    fun i hi => by rw [puts_low _ _ (h.d_low (by omega)), h5 i hi], fun i hi hn => by rw [puts_low _ _ (h.d_not hn), h6 i hi hn]⟩

/-- All sectors home, and the log clean. -/
theorem Rdy.fin (h : Txn S m) (hr : Rdy S m T) : Don S (puts S (m.map padW)) (puts T (m.map padW ++ [(1, padS [])])) := by
  have hs := hr.step h m.length
  rw [show (m.map padW).take m.length = m.map padW by rw [List.take_of_length_le (by simp)]] at hs
  have e : puts T (m.map padW ++ [(1, padS [])]) = putS (puts T (m.map padW)) (1, padS []) := by
    show List.foldl putS T _ = _
    rw [List.foldl_append]
    rfl
  have hb := vol_bounds h.vol
  have hgd : ∀ U : List (List UInt8), U.length = S.length → ∀ i : Nat, 18 ≤ i → ∀ w ∈ m, w.1 = i → (puts U (m.map padW)).getD i [] = padS w.2 := fun U hU i hi w hw hwi => by
    have := puts_mem (i := i) (w := padW w) (m.map padW) U (ok_rng (h.okD _ hU)) h.D_nodup (List.mem_map.2 ⟨w, hw, rfl⟩) hwi
    rw [this]
    exact padS_pad (h.keys w hw).2.2
  have hTl := hr.1
  have hr6 := hr.2.2.2.2.2
  obtain ⟨h1, h2, h3, h4, h5, h6⟩ := hs
  rw [e]
  refine ⟨by rw [putS_length, h1], RightP_put h2 (by rw [padS_length (by simp)]; omega), by rw [getD_putS (by show (0 : Nat) ≠ (1 : Int).toNat; decide), h3], ?_, fun i hi => ?_⟩
  · have := @getD_putS_self (puts T (m.map padW)) (1, padS []) (by show (0 : Int) ≤ 1; omega) (by rw [h1]; show (1 : Int) < _; omega)
    rw [padS_pad (by simp)] at this
    exact this
  · rw [getD_putS (by show i ≠ (1 : Int).toNat; have : (1 : Int).toNat = 1 := rfl; omega)]
    by_cases hx : ∃ w ∈ m, w.1 = (i : Int)
    · obtain ⟨w, hw, hwi⟩ := hx
      rw [hgd T hTl i hi w hw hwi, hgd S rfl i hi w hw hwi]
    · have hn : ∀ w ∈ m, w.1 ≠ (i : Int) := fun w hw e => hx ⟨w, hw, e⟩
      rw [h6 i hi hn, puts_low (i := i) (m.map padW) S fun w hw => by
        obtain ⟨v, hv, rfl⟩ := List.mem_map.1 hw
        have := h.keys v hv
        exact ⟨by show 0 ≤ v.1; omega, hn v hv⟩]

theorem logS_zero (e : Int) : logS e (padS []) = ([], true) := by
  have h0 : wd (padS []) 0 = 0 := by kernel_rfl
  unfold logS
  rw [h0, if_neg (by omega)]
  have hz : zeroFrom (padS []) 2 := by
    intro b hb
    have : padS [] = List.replicate 128 0 := rfl
    rw [this] at hb
    exact List.eq_of_mem_replicate (List.mem_of_mem_drop hb)
  show (if okK e (padS []) 0 = true then (logK (padS []) 0, decide (zeroFrom (padS []) 2)) else ([], false)) = _
  rw [if_pos (show okK e (padS []) 0 = true from rfl), decide_eq_true hz]
  rfl
theorem Don.rec (h : VolP S []) {W : List (List UInt8)} (hd : Don S W T) : recS T [] = ([], 0) ∧ CleanP T [] := by
  obtain ⟨h1, h2, h3, h4, h5⟩ := hd
  have hv := vol_same h h1 h2 h3
  refine ⟨?_, hv.1, by simp, h4⟩
  unfold recS
  rw [if_pos hv.1, if_neg (by simp), h4, logS_zero]
  rfl

theorem wd_cons (x y : UInt8) (t : List UInt8) (j : Nat) : wd (x :: y :: t) (j + 1) = wd t j := by
  unfold wd
  rw [show 2 * (j + 1) = 2 * j + 1 + 1 by omega, show 2 * j + 1 + 1 + 1 = (2 * j + 1) + 1 + 1 by omega]
  rfl
theorem wd_put2 {n : Int} (t : List UInt8) (h : 0 ≤ n) (h2 : n ≤ 65535) : wd (put2 n ++ t) 0 = n := word_put2 h h2
theorem wd_flat : ∀ (m : List (Int × List UInt8)) (t : List UInt8) (i : Nat) (hi : i < m.length), (∀ w ∈ m, 0 ≤ w.1 ∧ w.1 ≤ 65535) → wd ((m.flatMap fun w => put2 w.1) ++ t) i = (m[i]).1
  | [], _, _, hi, _ => by cases hi
  | w :: m, t, 0, _, h => by
    rw [List.flatMap_cons, List.append_assoc]
    exact wd_put2 _ (h w (List.mem_cons_self ..)).1 (h w (List.mem_cons_self ..)).2
  | w :: m, t, i + 1, hi, h => by
    rw [List.flatMap_cons, List.append_assoc]
    show wd (_ :: _ :: ((m.flatMap fun w => put2 w.1) ++ t)) (i + 1) = _
    rw [wd_cons, wd_flat m t i (by simpa using hi) fun v hv => h v (List.mem_cons_of_mem _ hv)]
    rfl
theorem logS_head (h : Txn S m) : logS (S.length - swapW S) (padS (headL m)) = (m.map Prod.fst, true) := by
  have hb := vol_bounds h.vol
  have h16 := h.high
  have hk : ∀ w ∈ m, 0 ≤ w.1 ∧ w.1 ≤ 65535 := fun w hw => by have := h.keys w hw; omega
  have h0 : wd (padS (headL m)) 0 = m.length := by
    unfold padS headL
    rw [List.append_assoc]
    exact wd_put2 _ (by omega) (by omega)
  have hi : ∀ i (hi : i < m.length), wd (padS (headL m)) (i + 1) = (m[i]).1 := fun i hi => by
    unfold padS
    rw [show headL m = put2 m.length ++ m.flatMap (fun w => put2 w.1) from rfl, List.append_assoc]
    show wd (_ :: _ :: _) (i + 1) = _
    rw [wd_cons]
    exact wd_flat m _ i hi hk
  have hok : ∀ n, n ≤ m.length → okK (S.length - swapW S) (padS (headL m)) n = true := by
    intro n
    induction n with
    | zero => intro _; rfl
    | succ n ih =>
      intro hn
      rw [okK, ih (by omega), hi n (by omega)]
      have := h.keys _ (List.getElem_mem (show n < m.length by omega))
      simp only [Bool.true_and, decide_eq_true_eq]
      refine ⟨?_, this.1, this.2.1⟩
      unfold lastK
      by_cases h0 : n = 0
      · rw [if_pos h0]; omega
      · rw [if_neg h0]
        obtain ⟨k, rfl⟩ : ∃ k, n = k + 1 := ⟨n - 1, by omega⟩
        rw [hi k (by omega)]
        have := List.pairwise_iff_getElem.1 h.asc k (k + 1) (by simp; omega) (by simp; omega) (by omega)
        simpa using this
  have hlk : logK (padS (headL m)) m.length = m.map Prod.fst := by
    unfold logK
    apply List.ext_getElem
    · simp
    · intro i h1 h2
      simp at h1 h2
      simp [hi i h1]
  have hz : zeroFrom (padS (headL m)) (2 * m.length + 2) := by
    intro b hb
    unfold padS at hb
    have hl : (headL m).length = 2 * m.length + 2 := by unfold headL; rw [List.length_append, put2_length, flat_len]; omega
    rw [List.drop_append, List.drop_eq_nil_of_le (by omega), List.nil_append] at hb
    exact List.eq_of_mem_replicate (List.mem_of_mem_drop hb)
  unfold logS
  rw [h0, if_neg (by omega)]
  show (if okK _ _ m.length = true then (logK _ m.length, decide (zeroFrom _ (2 * m.length + 2))) else ([], false)) = _
  rw [if_pos (hok _ (Nat.le_refl _)), hlk, decide_eq_true hz]
theorem okB_nil (n : Nat) : okB [] n = true := by
  induction n with
  | zero => rfl
  | succ n ih => rw [okB, ih]; simp
theorem Rdy.rec (h : Txn S m) (hr : Rdy S m T) : recS T [] = (m.map padW ++ [(1, padS [])], 0) := by
  obtain ⟨h1, h2, h3, h4, h5, h6⟩ := hr
  have hv := vol_same h.vol h1 h2 h3
  have hl := h.low
  unfold recS
  rw [if_pos hv.1, if_neg (by simp), h4, hv.2, h1, logS_head h]
  simp only [if_true]
  rw [if_neg (by rw [List.length_map]; omega), if_pos (okB_nil _)]
  congr 2
  apply List.ext_getElem
  · rw [recW_length]; simp
  · intro i k1 k2
    rw [recW_length, List.length_map] at k1
    have := h5 i k1
    unfold recW
    simp [k1, padW]
    simpa using this

theorem planL_len : (planL m).length = 2 * m.length + 2 := by
  unfold planL
  rw [List.length_append, List.length_cons, List.length_append, List.length_map]
  simp [logL]
  omega
theorem logL_len : (logL m).length = m.length := by simp [logL]
theorem take_low {k : Nat} (h : k ≤ m.length) : (planL m).take k = (logL m).take k := by
  unfold planL
  rw [List.take_append_of_le_length (by rw [logL_len]; exact h)]
theorem take_mid {j : Nat} (h : j ≤ m.length) : puts S ((planL m).take (m.length + 1 + j)) = puts (putS (puts S (logL m)) (1, padS (headL m))) ((m.map padW).take j) := by
  have e : (planL m).take (m.length + 1 + j) = logL m ++ ((1, padS (headL m)) :: (m.map padW).take j) := by
    unfold planL
    rw [List.take_append, List.take_of_length_le (by rw [logL_len]; omega), logL_len, show m.length + 1 + j - m.length = j + 1 by omega, List.take_succ_cons, List.take_append_of_le_length (by rw [List.length_map]; exact h)]
  rw [e]
  show List.foldl putS S _ = _
  rw [List.foldl_append]
  rfl
theorem puts_all : puts S (planL m) = puts (putS (puts S (logL m)) (1, padS (headL m))) (m.map padW ++ [(1, padS [])]) := by
  unfold planL
  show List.foldl putS S _ = _
  rw [List.foldl_append]
  rfl
theorem slice_D : ((planL m).take (2 * m.length + 1)).drop (m.length + 1) = m.map padW := by
  unfold planL
  rw [List.take_append, List.take_of_length_le (by rw [logL_len]; omega), logL_len, show 2 * m.length + 1 - m.length = m.length + 1 by omega, List.take_succ_cons, List.take_append_of_le_length (by rw [List.length_map]; omega), List.take_of_length_le (by rw [List.length_map]; omega)]
  rw [List.drop_append, List.drop_eq_nil_of_le (by rw [logL_len]; omega), logL_len, show m.length + 1 - m.length = 1 by omega]
  rfl
theorem Txn.beg (h : Txn S m) {k : Nat} (hk : k ≤ m.length) : Don S S (puts S ((planL m).take k)) := by
  rw [take_low hk]
  have h16 := h.high
  have hlow : ∀ i : Nat, (i < 2 ∨ 18 ≤ i) → ∀ w ∈ (logL m).take k, 0 ≤ w.1 ∧ w.1 ≠ i := fun i hi w hw => by
    have hw := List.mem_of_mem_take hw
    unfold logL at hw
    obtain ⟨j, hj, rfl⟩ := List.mem_map.1 hw
    rw [List.mem_range] at hj
    exact ⟨by show (0 : Int) ≤ 2 + (j : Int); omega, by show (2 + (j : Int)) ≠ i; omega⟩
  exact ⟨puts_length .., RightP_puts _ _ h.vol.1 fun w hw => h.okV _ rfl w (List.mem_of_mem_take hw), puts_low _ _ (hlow 0 (by omega)), by rw [puts_low _ _ (hlow 1 (by omega)), h.clean], fun i hi => puts_low _ _ (hlow i (by omega))⟩
theorem Txn.mid (h : Txn S m) {j : Nat} (hj : j ≤ m.length) : Rdy S m (puts S ((planL m).take (m.length + 1 + j))) := by
  rw [take_mid hj]
  exact h.rdy0.step h j
theorem Txn.all (h : Txn S m) : Don S (puts S (m.map padW)) (puts S (planL m)) := by
  rw [puts_all]
  exact h.rdy0.fin h
/-- What is outside the log is told by what was wanted. -/
theorem Don.same {W : List (List UInt8)} (h : Txn S m) (hd : Don S W T) (hW : W = S ∨ W = puts S (m.map padW)) : ∀ i : Nat, (i < 2 ∨ 17 < i) → T.getD i [] = W.getD i [] := fun i hi => by
  obtain ⟨h1, h2, h3, h4, h5⟩ := hd
  by_cases hi2 : 18 ≤ i
  · exact h5 i hi2
  have hW2 : ∀ i : Nat, i < 18 → W.getD i [] = S.getD i [] := fun i hi => by
    rcases hW with rfl | rfl
    · rfl
    · have := h.d_low (j := m.length) hi
      rw [List.take_of_length_le (by simp)] at this
      exact puts_low _ _ this
  rw [hW2 i (by omega)]
  have : i = 0 ∨ i = 1 := by omega
  rcases this with rfl | rfl
  · exact h3
  · rw [h4, h.clean]
end
theorem plan_txn {S : List (List UInt8)} {l : List (Int × List UInt8)} (h : (planS S [] l).2 = 0) (h1 : (planS S [] l).1.length ≠ 0) : Txn S (mergeL l) ∧ planS S [] l = (planL (mergeL l), 0) := by
  obtain ⟨hv, hc, hw, h16, e⟩ := planS_ok h
  have h0 : (mergeL l).length ≠ 0 := fun h0 => by rw [e, if_pos h0] at h1; exact h1 rfl
  rw [if_neg h0] at e
  exact ⟨⟨hv, hc.2.2, by omega, h16, fun w hw' => wrongI_ok hw w (mergeL_sub hw'), mergeL_asc l⟩, e⟩
end Go.Abs

namespace Go.Abs
open Go.Proofs
set_option maxRecDepth 100000
set_option linter.unusedSimpArgs false
set_option linter.unusedVariables false

section
variable {T : List (List UInt8)} {w : List (Int × List UInt8)}
theorem appR_0 (hT : T.length ≤ 256) (hw : w.length ≤ 100) : bodyW DC 14 [.agg [.sl (strs T), .sl []], .sl (w.map wrV), .int .i64 0] [] = some (.tuple [.agg [.sl (strs T), .sl []], .int .i64 0, .int .i64 0], []) := by
  have h := ApplyR_eq T [] (by omega) (by simp) w (by omega) 0
  have e : applyS [] 0 T 0 w = (T, 0, 0) := by cases w <;> simp [applyS]
  rw [e] at h
  exact h
theorem appR_e (hT : T.length ≤ 256) : bodyW DC 14 [.agg [.sl (strs T), .sl []], .sl [], .int .i64 0] [] = some (.tuple [.agg [.sl (strs T), .sl []], .int .i64 0, .int .i64 0], []) := appR_0 (w := []) hT (by simp)
theorem appR_n (hT : T.length ≤ 256) (hw : w.length ≤ 100) (ho : OkAll T.length [] w) {j : Nat} (h0 : j ≠ 0) (hj : j ≤ w.length) : bodyW DC 14 [.agg [.sl (strs T), .sl []], .sl (w.map wrV), .int .i64 j] [] =
    some (.tuple [.agg [.own 0 T.length 0 T.length, .sl []], .int .i64 j, .int .i64 0], [.dat true 1 (strs (puts T (w.take j)))]) := by
  have h := ApplyR_eq T [] (by omega) (by simp) w (by omega) j
  rw [applyS_fuse [] w T 0 j ho (Nat.zero_le _)] at h
  simp only [Nat.zero_add, Nat.sub_zero, Nat.min_eq_left hj] at h
  rw [if_neg h0] at h
  exact h
theorem appR_nil (hT : T.length ≤ 256) : bodyW DC 14 [.agg [.sl (strs T), .sl []], .sl [], .int .i64 (-1)] [] = some (.tuple [.agg [.sl (strs T), .sl []], .int .i64 0, .int .i64 0], []) := by
  have h := ApplyR_eq T [] (by omega) (by simp) [] (by simp) (-1)
  exact h
theorem appR_all (hT : T.length ≤ 256) (hw : w.length ≤ 100) (ho : OkAll T.length [] w) (h0 : w.length ≠ 0) : bodyW DC 14 [.agg [.sl (strs T), .sl []], .sl (w.map wrV), .int .i64 (-1)] [] =
    some (.tuple [.agg [.own 0 T.length 0 T.length, .sl []], .int .i64 w.length, .int .i64 0], [.dat true 1 (strs (puts T w))]) := by
  have h := ApplyR_eq T [] (by omega) (by simp) w (by omega) (-1)
  rw [applyS_all [] w T 0 ho] at h
  simp only [Nat.zero_add] at h
  rw [if_neg h0] at h
  exact h
theorem rec_is {r : List (Int × List UInt8)} (h : recS T [] = (r, 0)) : bodyW DC 9 [.agg [.sl (strs T), .sl []]] [] = some (.tuple [.own 0 r.length 0 r.length, .int .i64 0], [.dat true 2 (r.map wrV)]) := by
  have := Recover_eq T [] (by simp [maxLen])
  rw [h] at this
  exact this
theorem rec_nil (h : recS T [] = ([], 0)) : bodyW DC 9 [.agg [.sl (strs T), .sl []]] [] = some (.tuple [.own 0 0 0 0, .int .i64 0], [.dat true 2 []]) := rec_is h
theorem clean_is (h : CleanP T []) : bodyW DC 15 [.agg [.sl (strs T), .sl []]] [] = some (.bool true, []) := by
  have := Clean_eq T [] (by simp [maxLen])
  rw [decide_eq_true h] at this
  exact this
end

/-- Numbers of the law. -/
structure Nums (n z k : Nat) : Prop where
  q0 : IntKind.i64.wrap (n : Int) = (n : Int)
  q1 : IntKind.i64.wrap (2 * (n : Int)) = 2 * (n : Int)
  q2 : IntKind.i64.wrap ((2 * (n : Int)).tdiv 2) = (n : Int)
  q3 : IntKind.i64.wrap (2 * (n : Int) + 2) = 2 * (n : Int) + 2
  q4 : ¬ ((n : Int) < 1)
  q5 : IntKind.i64.wrap ((n : Int) + 1) = (n : Int) + 1
  q6 : IntKind.i64.wrap (2 * (n : Int) + 1) = 2 * (n : Int) + 1
  q7 : (0 : Int) ≤ (n : Int) + 1
  q8 : (0 : Int) ≤ 2 * (n : Int) + 1
  q9 : ((n : Int) + 1).toNat = n + 1
  q10 : (2 * (n : Int) + 1).toNat = 2 * n + 1
  q11 : n + 1 ≤ 2 * n + 1
  q12 : 2 * n + 1 ≤ 2 * n + 2
  q13 : IntKind.i64.wrap (z : Int) = (z : Int)
  q14 : IntKind.i64.wrap (2 * (n : Int) + 2 + 1) = 2 * (n : Int) + 2 + 1
  q15 : ¬ (2 * (n : Int) + 2 + 1 = 0)
  q16 : (z : Int).tmod (2 * (n : Int) + 2 + 1) = (k : Int)
  q17 : ¬ (2 * (n : Int) + 2 = 0)
theorem nums {n z k : Nat} (h1 : 1 ≤ n) (h2 : n ≤ 16) (hz : z ≤ 255) (hk : k = z % (2 * n + 3)) : Nums n z k := by
  refine ⟨wrap_id (by omega) (by omega), wrap_id (by omega) (by omega), ?_, wrap_id (by omega) (by omega), by omega, wrap_id (by omega) (by omega), wrap_id (by omega) (by omega), by omega, by omega, by omega, by omega, by omega, by omega, wrap_id (by omega) (by omega), wrap_id (by omega) (by omega), by omega, ?_, by omega⟩
  · rw [Int.tdiv_eq_ediv_of_nonneg (by omega), show 2 * (n : Int) / 2 = n by omega]
    exact wrap_id (by omega) (by omega)
  · rw [Int.tmod_eq_emod_of_nonneg (by omega), hk, show 2 * (n : Int) + 2 + 1 = ((2 * n + 3 : Nat) : Int) by omega, ← Int.natCast_emod]

set_option maxHeartbeats 4000000 in
theorem VolumeAtomic_eq (S : List (List UInt8)) (B : List Int) (hB : B.length ≤ maxLen) (l : List (Int × List UInt8)) (hl : l.length ≤ maxLen) (hX : In64 (l.map Prod.fst)) (z y : Nat) (hz : z ≤ 255) (hy : y ≤ 255) :
    bodyW DC 4 [drv S B, .sl (l.map wrV), .int .u8 z, .int .u8 y] [] = some (.bool true, []) := by
  have hM := small37_eq S B
  have hF := few37_eq l hl
  have hA := alive37_eq
  by_cases hs : SmallV S B
  case neg =>
    (refine gives_iff ?_; refine go_func Tryd.f4 rfl rfl (by simp [Tryd.f4]) ?_; dsimp only [codeL, Tryd.f4, scL, sopsL, guardL, dstAt, loopKey])
    (repeat (first
    | (apply is_ok; (case hw => simp [hM, hF, hs, hA]); (case he => simp [hM, hF, hs, hA]; exact is_rfl))
    | (apply op_no; (case hw => simp [hM, hF, hs, hA]))
    | refine op_nil ?_ | refine next_normal ?_ | refine go_seq ?_ | refine go_region ?_ | refine go_skip ?_ | refine go_block ?_ | refine inb_normal ?_
    | (apply go_yes; (case hc => simp [hM, hF, hs, hA])) | (apply go_no; (case hc => simp [hM, hF, hs, hA]))
    | refine go_exit ?_ | refine next_exit ?_ | refine inb_here ?_ | refine inb_past (by decide) ?_ | refine go_ret ?_ | refine next_ret ?_ | refine inb_ret ?_))
    (apply ends_ok; (case h1 => simp; exact is_rfl); (case h2 => simp; exact is_rfl))
    simp
  by_cases hf : FewP l
  case neg =>
    (refine gives_iff ?_; refine go_func Tryd.f4 rfl rfl (by simp [Tryd.f4]) ?_; dsimp only [codeL, Tryd.f4, scL, sopsL, guardL, dstAt, loopKey])
    (repeat (first
    | (apply is_ok; (case hw => simp [hM, hF, hs, hf, hA]); (case he => simp [hM, hF, hs, hf, hA]; exact is_rfl))
    | (apply op_no; (case hw => simp [hM, hF, hs, hf, hA]))
    | refine op_nil ?_ | refine next_normal ?_ | refine go_seq ?_ | refine go_region ?_ | refine go_skip ?_ | refine go_block ?_ | refine inb_normal ?_
    | (apply go_yes; (case hc => simp [hM, hF, hs, hf, hA])) | (apply go_no; (case hc => simp [hM, hF, hs, hf, hA]))
    | refine go_exit ?_ | refine next_exit ?_ | refine inb_here ?_ | refine inb_past (by decide) ?_ | refine go_ret ?_ | refine next_ret ?_ | refine inb_ret ?_))
    (apply ends_ok; (case h1 => simp; exact is_rfl); (case h2 => simp; exact is_rfl))
    simp
  by_cases hb : B = []
  case neg =>
    have hb2 : 0 < B.length := List.length_pos_iff.2 hb
    have hb3 : (0 : Int) < B.length := by omega
    (refine gives_iff ?_; refine go_func Tryd.f4 rfl rfl (by simp [Tryd.f4]) ?_; dsimp only [codeL, Tryd.f4, scL, sopsL, guardL, dstAt, loopKey])
    (repeat (first
    | (apply is_ok; (case hw => simp [hM, hF, hs, hf, hA, hb2, hb3, hb]); (case he => simp [hM, hF, hs, hf, hA, hb2, hb3, hb]; exact is_rfl))
    | (apply op_no; (case hw => simp [hM, hF, hs, hf, hA, hb2, hb3, hb]))
    | refine op_nil ?_ | refine next_normal ?_ | refine go_seq ?_ | refine go_region ?_ | refine go_skip ?_ | refine go_block ?_ | refine inb_normal ?_
    | (apply go_yes; (case hc => simp [hM, hF, hs, hf, hA, hb2, hb3, hb])) | (apply go_no; (case hc => simp [hM, hF, hs, hf, hA, hb2, hb3, hb]))
    | refine go_exit ?_ | refine next_exit ?_ | refine inb_here ?_ | refine inb_past (by decide) ?_ | refine go_ret ?_ | refine next_ret ?_ | refine inb_ret ?_))
    (apply ends_ok; (case h1 => simp; exact is_rfl); (case h2 => simp; exact is_rfl))
    simp
  subst hb
  have hl6 := hf.2
  have hP := Plan_eq S [] hB l (by omega) hX
  replace hM : bodyW DC 7 [.agg [.sl (strs S), .sl []]] [] = some (.bool (decide (SmallV S [])), []) := hM
  replace hP : bodyW DC 13 [.agg [.sl (strs S), .sl []], .sl (l.map wrV)] [] = some (.tuple [.own 0 (planS S [] l).1.length 0 (planS S [] l).1.length, .int .i64 (planS S [] l).2], [.dat true 2 ((planS S [] l).1.map wrV)]) := hP
  by_cases he : (planS S [] l).2 = 0
  case neg =>
    generalize planS S [] l = p at hP he
    (refine gives_iff ?_; refine go_func Tryd.f4 rfl rfl (by simp [Tryd.f4]) ?_; dsimp only [codeL, Tryd.f4, scL, sopsL, guardL, dstAt, loopKey])
    (repeat (first
    | (apply is_ok; (case hw => simp [hM, hF, hs, hf, hA, hP, he]); (case he => simp [hM, hF, hs, hf, hA, hP, he]; exact is_rfl))
    | (apply op_no; (case hw => simp [hM, hF, hs, hf, hA, hP, he]))
    | refine op_nil ?_ | refine next_normal ?_ | refine go_seq ?_ | refine go_region ?_ | refine go_skip ?_ | refine go_block ?_ | refine inb_normal ?_
    | (apply go_yes; (case hc => simp [hM, hF, hs, hf, hA, hP, he])) | (apply go_no; (case hc => simp [hM, hF, hs, hf, hA, hP, he]))
    | refine go_exit ?_ | refine next_exit ?_ | refine inb_here ?_ | refine inb_past (by decide) ?_ | refine go_ret ?_ | refine next_ret ?_ | refine inb_ret ?_))
    (apply ends_ok; (case h1 => simp; exact is_rfl); (case h2 => simp; exact is_rfl))
    simp
  by_cases h0 : (planS S [] l).1.length = 0
  · generalize planS S [] l = p at hP he h0
    (refine gives_iff ?_; refine go_func Tryd.f4 rfl rfl (by simp [Tryd.f4]) ?_; dsimp only [codeL, Tryd.f4, scL, sopsL, guardL, dstAt, loopKey])
    (repeat (first
    | (apply is_ok; (case hw => simp [hM, hF, hs, hf, hA, hP, he, h0]); (case he => simp [hM, hF, hs, hf, hA, hP, he, h0]; exact is_rfl))
    | (apply op_no; (case hw => simp [hM, hF, hs, hf, hA, hP, he, h0]))
    | refine op_nil ?_ | refine next_normal ?_ | refine go_seq ?_ | refine go_region ?_ | refine go_skip ?_ | refine go_block ?_ | refine inb_normal ?_
    | (apply go_yes; (case hc => simp [hM, hF, hs, hf, hA, hP, he, h0])) | (apply go_no; (case hc => simp [hM, hF, hs, hf, hA, hP, he, h0]))
    | refine go_exit ?_ | refine next_exit ?_ | refine inb_here ?_ | refine inb_past (by decide) ?_ | refine go_ret ?_ | refine next_ret ?_ | refine inb_ret ?_))
    (apply ends_ok; (case h1 => simp; exact is_rfl); (case h2 => simp; exact is_rfl))
    simp
  obtain ⟨hx, e⟩ := plan_txn he h0
  rw [e] at hP
  clear e he h0
  generalize mergeL l = m at hx hP
  have hb := vol_bounds hx.vol
  have hS256 : S.length ≤ 256 := hb.2.1
  have h1 := hx.low
  have h16 := hx.high
  have hpl := @planL_len m
  have hok := hx.okP _ rfl
  have hokD := hx.okD S.length rfl
  have hDl : (m.map padW).length = m.length := by simp
  obtain ⟨k, hk⟩ : ∃ k, k = z % (2 * m.length + 3) := ⟨_, rfl⟩
  have hk2 : k ≤ 2 * m.length + 2 := by have := Nat.mod_lt z (show 2 * m.length + 3 > 0 by omega); omega
  obtain ⟨q0, q1, q2, q3, q4, q5, q6, q7, q8, q9, q10, q11, q12, q13, q14, q15, q16, q17⟩ := nums h1 h16 hz hk
  have hwa := appR_all hS256 (by omega) hokD (by omega)
  have hsl := @slice_D m
  have hsl2 : ((planL m).drop (m.length + 1)).take (2 * m.length + 1 - (m.length + 1)) = m.map padW := by rw [← hsl, List.drop_take]
  have hsl3 : (((planL m).map wrV).drop (m.length + 1)).take (2 * m.length + 1 - (m.length + 1)) = (m.map padW).map wrV := by rw [← List.map_drop, ← List.map_take, hsl2]
  rw [hDl] at hwa
  have hx0 := appR_0 (w := planL m) hS256 (by omega)
  have hxn := fun h0 => appR_n (j := k) hS256 (by omega) hok h0 (by omega)
  have hWl : (puts S (m.map padW)).length = S.length := puts_length ..
  have hbeg := fun h => hx.beg (k := k) h
  have hmid := fun j h => hx.mid (j := j) h
  have hall := hx.all
  have hpt : puts S ((planL m).take (2 * m.length + 2)) = puts S (planL m) := by rw [List.take_of_length_le (by omega)]
  have hmod1 : (y : Int).tmod 1 = 0 := by simp
  have hy0 : IntKind.i64.wrap (y : Int) = y := wrap_id (by omega) (by omega)
  have hWk : IntKind.i64.wrap (k : Int) = k := wrap_id (by omega) (by omega)
  have hnW : (puts S (m.map padW)).length = S.length := hWl
  generalize hpe : planL m = pl at *
  generalize hWe : puts S (m.map padW) = W at hwa hWl hall
  have hne : ∀ T : List (List UInt8), T.length = S.length → ¬ T = [] := fun T h e => by rw [e] at h; simp at h; omega
  have n1 := hne S rfl
  have n2 := hne W hWl
  have q21 : 2 * m.length - m.length = m.length := by omega
  rw [show 2 * m.length + 1 - (m.length + 1) = m.length by omega] at hsl3
  generalize m.map padW = D at hwa hsl3
  have hrec0 := @rec_nil
  by_cases hk0 : k = 0
  · subst hk0
    have hd : Don S S S := hbeg (Nat.zero_le _)
    have hr := hd.rec hx.vol
    have hsame := hd.same hx (Or.inl rfl)
    have hr3 := rec_nil hr.1
    have hcl := clean_is hr.2
    have ha2 := appR_e hS256
    have ha3 := appR_nil hS256
    have hlt0 : (0 : Int) < (m.length : Int) + 1 := by omega
    (refine gives_iff ?_; refine go_func Tryd.f4 rfl rfl (by simp [Tryd.f4]) ?_; dsimp only [codeL, Tryd.f4, scL, sopsL, guardL, dstAt, loopKey])
    (repeat (first
    | (apply is_ok; (case hw => simp [hM, hF, hs, hf, hP, hpl, q0, q1, q2, q3, q4, q5, q6, q7, q8, q9, q10, q11, q12, q13, q14, q15, q16, q17, q21, n1, n2, hwa, hsl3, hy0, hx0, hr3, ha2, ha3, hmod1, hlt0]); (case he => simp [hM, hF, hs, hf, hP, hpl, q0, q1, q2, q3, q4, q5, q6, q7, q8, q9, q10, q11, q12, q13, q14, q15, q16, q17, q21, n1, n2, hwa, hsl3, hy0, hx0, hr3, ha2, ha3, hmod1, hlt0]; exact is_rfl))
    | (apply op_no; (case hw => simp [hM, hF, hs, hf, hP, hpl, q0, q1, q2, q3, q4, q5, q6, q7, q8, q9, q10, q11, q12, q13, q14, q15, q16, q17, q21, n1, n2, hwa, hsl3, hy0, hx0, hr3, ha2, ha3, hmod1, hlt0]))
    | refine op_nil ?_ | refine next_normal ?_ | refine go_seq ?_ | refine go_region ?_ | refine go_skip ?_ | refine go_block ?_ | refine inb_normal ?_
    | (apply go_yes; (case hc => simp [hM, hF, hs, hf, hP, hpl, q0, q1, q2, q3, q4, q5, q6, q7, q8, q9, q10, q11, q12, q13, q14, q15, q16, q17, q21, n1, n2, hwa, hsl3, hy0, hx0, hr3, ha2, ha3, hmod1, hlt0])) | (apply go_no; (case hc => simp [hM, hF, hs, hf, hP, hpl, q0, q1, q2, q3, q4, q5, q6, q7, q8, q9, q10, q11, q12, q13, q14, q15, q16, q17, q21, n1, n2, hwa, hsl3, hy0, hx0, hr3, ha2, ha3, hmod1, hlt0]))
    | refine go_exit ?_ | refine next_exit ?_ | refine inb_here ?_ | refine inb_past (by decide) ?_ | refine go_ret ?_ | refine next_ret ?_ | refine inb_ret ?_))
    refine go_count S.length (fun i => [(16, .ptr 0 1 0 0), (21, .ptr 1 1 0 0), (148, .int .i64 S.length), (149, .int .i64 i)]) (fun i => [.box (.agg [.sl (strs S), .sl []]), .box (.agg [.sl (strs S), .sl []])]) (fun _ => True) (by simp [hpl]) trivial fun i hi _ => ?_
    have hw : IntKind.i64.wrap ((i : Int) + 1) = (i : Int) + 1 := wrap_id (by omega) (by omega)
    by_cases hlt : i < S.length
    · have l1 : i < S.length := by omega
      have l2 : i < S.length := by omega
      have g1 : S[i]? = some (S[i]'l1) := List.getElem?_eq_getElem l1
      generalize hx0 : S[i]'l1 = a at g1
      by_cases h2 : i < 2
      · have hab := h2
        have h2' : (i : Int) < 2 := by omega
        (repeat (first
    | (apply is_ok; (case hw => simp [hlt, l1, l2, g1, hx0, h2', hpl]); (case he => simp [hlt, l1, l2, g1, hx0, h2', hpl]; exact is_rfl))
    | (apply op_no; (case hw => simp [hlt, l1, l2, g1, hx0, h2', hpl]))
    | refine op_nil ?_ | refine next_normal ?_ | refine go_seq ?_ | refine go_region ?_ | refine go_skip ?_ | refine go_block ?_ | refine inb_normal ?_
    | (apply go_yes; (case hc => simp [hlt, l1, l2, g1, hx0, h2', hpl])) | (apply go_no; (case hc => simp [hlt, l1, l2, g1, hx0, h2', hpl]))
    | refine go_exit ?_ | refine next_exit ?_ | refine inb_here ?_ | refine inb_past (by decide) ?_ | refine go_ret ?_ | refine next_ret ?_ | refine inb_ret ?_))
        exact ⟨hlt, by simp [hw, hpl], trivial⟩
      · have h2' : ¬ (i : Int) < 2 := by omega
        by_cases h17 : 17 < i
        · have hab := h17
          have h17' : (17 : Int) < i := by omega
          (repeat (first
    | (apply is_ok; (case hw => simp [hlt, l1, l2, g1, hx0, h2', h17', hpl]); (case he => simp [hlt, l1, l2, g1, hx0, h2', h17', hpl]; exact is_rfl))
    | (apply op_no; (case hw => simp [hlt, l1, l2, g1, hx0, h2', h17', hpl]))
    | refine op_nil ?_ | refine next_normal ?_ | refine go_seq ?_ | refine go_region ?_ | refine go_skip ?_ | refine go_block ?_ | refine inb_normal ?_
    | (apply go_yes; (case hc => simp [hlt, l1, l2, g1, hx0, h2', h17', hpl])) | (apply go_no; (case hc => simp [hlt, l1, l2, g1, hx0, h2', h17', hpl]))
    | refine go_exit ?_ | refine next_exit ?_ | refine inb_here ?_ | refine inb_past (by decide) ?_ | refine go_ret ?_ | refine next_ret ?_ | refine inb_ret ?_))
          exact ⟨hlt, by simp [hw, hpl], trivial⟩
        · have h17' : ¬ (17 : Int) < i := by omega
          (repeat (first
    | (apply is_ok; (case hw => simp [hlt, h2', h17', hpl]); (case he => simp [hlt, h2', h17', hpl]; exact is_rfl))
    | (apply op_no; (case hw => simp [hlt, h2', h17', hpl]))
    | refine op_nil ?_ | refine next_normal ?_ | refine go_seq ?_ | refine go_region ?_ | refine go_skip ?_ | refine go_block ?_ | refine inb_normal ?_
    | (apply go_yes; (case hc => simp [hlt, h2', h17', hpl])) | (apply go_no; (case hc => simp [hlt, h2', h17', hpl]))
    | refine go_exit ?_ | refine next_exit ?_ | refine inb_here ?_ | refine inb_past (by decide) ?_ | refine go_ret ?_ | refine next_ret ?_ | refine inb_ret ?_))
          exact ⟨hlt, by simp [hw, hpl], trivial⟩
    · (repeat (first
    | (apply is_ok; (case hw => simp [hlt, hpl, hr3, hcl, hA]); (case he => simp [hlt, hpl, hr3, hcl, hA]; exact is_rfl))
    | (apply op_no; (case hw => simp [hlt, hpl, hr3, hcl, hA]))
    | refine op_nil ?_ | refine next_normal ?_ | refine go_seq ?_ | refine go_region ?_ | refine go_skip ?_ | refine go_block ?_ | refine inb_normal ?_
    | (apply go_yes; (case hc => simp [hlt, hpl, hr3, hcl, hA])) | (apply go_no; (case hc => simp [hlt, hpl, hr3, hcl, hA]))
    | refine go_exit ?_ | refine next_exit ?_ | refine inb_here ?_ | refine inb_past (by decide) ?_ | refine go_ret ?_ | refine next_ret ?_ | refine inb_ret ?_))
      (apply ends_ok; (case h1 => simp; exact is_rfl); (case h2 => simp; exact is_rfl))
      simp
  have hx1 := hxn hk0
  by_cases hkn : k ≤ m.length
  · have hd := hbeg hkn
    generalize puts S (pl.take k) = X at hx1 hd
    have hXl := hd.1
    have n3 := hne X hXl
    have hr := hd.rec hx.vol
    have hsame := hd.same hx (Or.inl rfl)
    have hr3 := rec_nil hr.1
    have hcl := clean_is hr.2
    have ha2 := appR_e (T := X) (by omega)
    have ha3 := appR_nil (T := X) (by omega)
    have hlt0 : (k : Int) < (m.length : Int) + 1 := by omega
    (refine gives_iff ?_; refine go_func Tryd.f4 rfl rfl (by simp [Tryd.f4]) ?_; dsimp only [codeL, Tryd.f4, scL, sopsL, guardL, dstAt, loopKey])
    (repeat (first
    | (apply is_ok; (case hw => simp [hM, hF, hs, hf, hP, hpl, q0, q1, q2, q3, q4, q5, q6, q7, q8, q9, q10, q11, q12, q13, q14, q15, q16, q17, q21, n1, n2, hwa, hsl3, hy0, hx1, hr3, ha2, ha3, hmod1, hlt0, hXl, hk0, n3]); (case he => simp [hM, hF, hs, hf, hP, hpl, q0, q1, q2, q3, q4, q5, q6, q7, q8, q9, q10, q11, q12, q13, q14, q15, q16, q17, q21, n1, n2, hwa, hsl3, hy0, hx1, hr3, ha2, ha3, hmod1, hlt0, hXl, hk0, n3]; exact is_rfl))
    | (apply op_no; (case hw => simp [hM, hF, hs, hf, hP, hpl, q0, q1, q2, q3, q4, q5, q6, q7, q8, q9, q10, q11, q12, q13, q14, q15, q16, q17, q21, n1, n2, hwa, hsl3, hy0, hx1, hr3, ha2, ha3, hmod1, hlt0, hXl, hk0, n3]))
    | refine op_nil ?_ | refine next_normal ?_ | refine go_seq ?_ | refine go_region ?_ | refine go_skip ?_ | refine go_block ?_ | refine inb_normal ?_
    | (apply go_yes; (case hc => simp [hM, hF, hs, hf, hP, hpl, q0, q1, q2, q3, q4, q5, q6, q7, q8, q9, q10, q11, q12, q13, q14, q15, q16, q17, q21, n1, n2, hwa, hsl3, hy0, hx1, hr3, ha2, ha3, hmod1, hlt0, hXl, hk0, n3])) | (apply go_no; (case hc => simp [hM, hF, hs, hf, hP, hpl, q0, q1, q2, q3, q4, q5, q6, q7, q8, q9, q10, q11, q12, q13, q14, q15, q16, q17, q21, n1, n2, hwa, hsl3, hy0, hx1, hr3, ha2, ha3, hmod1, hlt0, hXl, hk0, n3]))
    | refine go_exit ?_ | refine next_exit ?_ | refine inb_here ?_ | refine inb_past (by decide) ?_ | refine go_ret ?_ | refine next_ret ?_ | refine inb_ret ?_))
    refine go_count S.length (fun i => [(16, .ptr 0 1 0 0), (21, .ptr 1 1 0 0), (148, .int .i64 S.length), (149, .int .i64 i)]) (fun i => [.box (.agg [.sl (strs X), .sl []]), .box (.agg [.sl (strs S), .sl []])]) (fun _ => True) (by simp [hXl]) trivial fun i hi _ => ?_
    have hw : IntKind.i64.wrap ((i : Int) + 1) = (i : Int) + 1 := wrap_id (by omega) (by omega)
    by_cases hlt : i < S.length
    · have l1 : i < X.length := by omega
      have l2 : i < S.length := by omega
      have g1 : X[i]? = some (X[i]'l1) := List.getElem?_eq_getElem l1
      have g2 : S[i]? = some (S[i]'l2) := List.getElem?_eq_getElem l2
      have hsm := hsame i
      rw [getD_at l1, getD_at l2] at hsm
      generalize hx0 : X[i]'l1 = a at g1 hsm
      generalize hw0 : S[i]'l2 = b at g2 hsm
      by_cases h2 : i < 2
      · have hab := hsm (Or.inl h2)
        subst hab
        have h2' : (i : Int) < 2 := by omega
        (repeat (first
    | (apply is_ok; (case hw => simp [hlt, l1, l2, g1, g2, hx0, hw0, h2', hXl]); (case he => simp [hlt, l1, l2, g1, g2, hx0, hw0, h2', hXl]; exact is_rfl))
    | (apply op_no; (case hw => simp [hlt, l1, l2, g1, g2, hx0, hw0, h2', hXl]))
    | refine op_nil ?_ | refine next_normal ?_ | refine go_seq ?_ | refine go_region ?_ | refine go_skip ?_ | refine go_block ?_ | refine inb_normal ?_
    | (apply go_yes; (case hc => simp [hlt, l1, l2, g1, g2, hx0, hw0, h2', hXl])) | (apply go_no; (case hc => simp [hlt, l1, l2, g1, g2, hx0, hw0, h2', hXl]))
    | refine go_exit ?_ | refine next_exit ?_ | refine inb_here ?_ | refine inb_past (by decide) ?_ | refine go_ret ?_ | refine next_ret ?_ | refine inb_ret ?_))
        exact ⟨hlt, by simp [hw, hXl], trivial⟩
      · have h2' : ¬ (i : Int) < 2 := by omega
        by_cases h17 : 17 < i
        · have hab := hsm (Or.inr h17)
          subst hab
          have h17' : (17 : Int) < i := by omega
          (repeat (first
    | (apply is_ok; (case hw => simp [hlt, l1, l2, g1, g2, hx0, hw0, h2', h17', hXl]); (case he => simp [hlt, l1, l2, g1, g2, hx0, hw0, h2', h17', hXl]; exact is_rfl))
    | (apply op_no; (case hw => simp [hlt, l1, l2, g1, g2, hx0, hw0, h2', h17', hXl]))
    | refine op_nil ?_ | refine next_normal ?_ | refine go_seq ?_ | refine go_region ?_ | refine go_skip ?_ | refine go_block ?_ | refine inb_normal ?_
    | (apply go_yes; (case hc => simp [hlt, l1, l2, g1, g2, hx0, hw0, h2', h17', hXl])) | (apply go_no; (case hc => simp [hlt, l1, l2, g1, g2, hx0, hw0, h2', h17', hXl]))
    | refine go_exit ?_ | refine next_exit ?_ | refine inb_here ?_ | refine inb_past (by decide) ?_ | refine go_ret ?_ | refine next_ret ?_ | refine inb_ret ?_))
          exact ⟨hlt, by simp [hw, hXl], trivial⟩
        · have h17' : ¬ (17 : Int) < i := by omega
          (repeat (first
    | (apply is_ok; (case hw => simp [hlt, h2', h17', hXl]); (case he => simp [hlt, h2', h17', hXl]; exact is_rfl))
    | (apply op_no; (case hw => simp [hlt, h2', h17', hXl]))
    | refine op_nil ?_ | refine next_normal ?_ | refine go_seq ?_ | refine go_region ?_ | refine go_skip ?_ | refine go_block ?_ | refine inb_normal ?_
    | (apply go_yes; (case hc => simp [hlt, h2', h17', hXl])) | (apply go_no; (case hc => simp [hlt, h2', h17', hXl]))
    | refine go_exit ?_ | refine next_exit ?_ | refine inb_here ?_ | refine inb_past (by decide) ?_ | refine go_ret ?_ | refine next_ret ?_ | refine inb_ret ?_))
          exact ⟨hlt, by simp [hw, hXl], trivial⟩
    · (repeat (first
    | (apply is_ok; (case hw => simp [hlt, hXl, hr3, hcl, hA]); (case he => simp [hlt, hXl, hr3, hcl, hA]; exact is_rfl))
    | (apply op_no; (case hw => simp [hlt, hXl, hr3, hcl, hA]))
    | refine op_nil ?_ | refine next_normal ?_ | refine go_seq ?_ | refine go_region ?_ | refine go_skip ?_ | refine go_block ?_ | refine inb_normal ?_
    | (apply go_yes; (case hc => simp [hlt, hXl, hr3, hcl, hA])) | (apply go_no; (case hc => simp [hlt, hXl, hr3, hcl, hA]))
    | refine go_exit ?_ | refine next_exit ?_ | refine inb_here ?_ | refine inb_past (by decide) ?_ | refine go_ret ?_ | refine next_ret ?_ | refine inb_ret ?_))
      (apply ends_ok; (case h1 => simp; exact is_rfl); (case h2 => simp; exact is_rfl))
      simp
  have hlt0 : ¬ (k : Int) < (m.length : Int) + 1 := by omega
  by_cases hka : k = 2 * m.length + 2
  · have hd := hall
    rw [← hpt, ← hka] at hd
    generalize puts S (pl.take k) = X at hx1 hd
    have hXl := hd.1
    have n3 := hne X hXl
    have hr := hd.rec hx.vol
    have hsame := hd.same hx (Or.inr hWe.symm)
    have hr3 := rec_nil hr.1
    have hcl := clean_is hr.2
    have ha2 := appR_e (T := X) (by omega)
    have ha3 := appR_nil (T := X) (by omega)
    (refine gives_iff ?_; refine go_func Tryd.f4 rfl rfl (by simp [Tryd.f4]) ?_; dsimp only [codeL, Tryd.f4, scL, sopsL, guardL, dstAt, loopKey])
    (repeat (first
    | (apply is_ok; (case hw => simp [hM, hF, hs, hf, hP, hpl, q0, q1, q2, q3, q4, q5, q6, q7, q8, q9, q10, q11, q12, q13, q14, q15, q16, q17, q21, n1, n2, hwa, hsl3, hy0, hx1, hr3, ha2, ha3, hmod1, hlt0, hXl, hWl, hk0, n3]); (case he => simp [hM, hF, hs, hf, hP, hpl, q0, q1, q2, q3, q4, q5, q6, q7, q8, q9, q10, q11, q12, q13, q14, q15, q16, q17, q21, n1, n2, hwa, hsl3, hy0, hx1, hr3, ha2, ha3, hmod1, hlt0, hXl, hWl, hk0, n3]; exact is_rfl))
    | (apply op_no; (case hw => simp [hM, hF, hs, hf, hP, hpl, q0, q1, q2, q3, q4, q5, q6, q7, q8, q9, q10, q11, q12, q13, q14, q15, q16, q17, q21, n1, n2, hwa, hsl3, hy0, hx1, hr3, ha2, ha3, hmod1, hlt0, hXl, hWl, hk0, n3]))
    | refine op_nil ?_ | refine next_normal ?_ | refine go_seq ?_ | refine go_region ?_ | refine go_skip ?_ | refine go_block ?_ | refine inb_normal ?_
    | (apply go_yes; (case hc => simp [hM, hF, hs, hf, hP, hpl, q0, q1, q2, q3, q4, q5, q6, q7, q8, q9, q10, q11, q12, q13, q14, q15, q16, q17, q21, n1, n2, hwa, hsl3, hy0, hx1, hr3, ha2, ha3, hmod1, hlt0, hXl, hWl, hk0, n3])) | (apply go_no; (case hc => simp [hM, hF, hs, hf, hP, hpl, q0, q1, q2, q3, q4, q5, q6, q7, q8, q9, q10, q11, q12, q13, q14, q15, q16, q17, q21, n1, n2, hwa, hsl3, hy0, hx1, hr3, ha2, ha3, hmod1, hlt0, hXl, hWl, hk0, n3]))
    | refine go_exit ?_ | refine next_exit ?_ | refine inb_here ?_ | refine inb_past (by decide) ?_ | refine go_ret ?_ | refine next_ret ?_ | refine inb_ret ?_))
    refine go_count S.length (fun i => [(16, .ptr 0 1 0 0), (21, .ptr 1 1 0 0), (148, .int .i64 S.length), (149, .int .i64 i)]) (fun i => [.box (.agg [.sl (strs X), .sl []]), .box (.agg [.own 2 S.length 0 S.length, .sl []]), .dat true 1 (strs W)]) (fun _ => True) (by simp [hXl, hWl]) trivial fun i hi _ => ?_
    have hw : IntKind.i64.wrap ((i : Int) + 1) = (i : Int) + 1 := wrap_id (by omega) (by omega)
    by_cases hlt : i < S.length
    · have l1 : i < X.length := by omega
      have l2 : i < W.length := by omega
      have g1 : X[i]? = some (X[i]'l1) := List.getElem?_eq_getElem l1
      have g2 : W[i]? = some (W[i]'l2) := List.getElem?_eq_getElem l2
      have hsm := hsame i
      rw [getD_at l1, getD_at l2] at hsm
      generalize hx0 : X[i]'l1 = a at g1 hsm
      generalize hw0 : W[i]'l2 = b at g2 hsm
      by_cases h2 : i < 2
      · have hab := hsm (Or.inl h2)
        subst hab
        have h2' : (i : Int) < 2 := by omega
        (repeat (first
    | (apply is_ok; (case hw => simp [hlt, l1, l2, g1, g2, hx0, hw0, h2', hXl, hWl]); (case he => simp [hlt, l1, l2, g1, g2, hx0, hw0, h2', hXl, hWl]; exact is_rfl))
    | (apply op_no; (case hw => simp [hlt, l1, l2, g1, g2, hx0, hw0, h2', hXl, hWl]))
    | refine op_nil ?_ | refine next_normal ?_ | refine go_seq ?_ | refine go_region ?_ | refine go_skip ?_ | refine go_block ?_ | refine inb_normal ?_
    | (apply go_yes; (case hc => simp [hlt, l1, l2, g1, g2, hx0, hw0, h2', hXl, hWl])) | (apply go_no; (case hc => simp [hlt, l1, l2, g1, g2, hx0, hw0, h2', hXl, hWl]))
    | refine go_exit ?_ | refine next_exit ?_ | refine inb_here ?_ | refine inb_past (by decide) ?_ | refine go_ret ?_ | refine next_ret ?_ | refine inb_ret ?_))
        exact ⟨hlt, by simp [hw, hXl, hWl], trivial⟩
      · have h2' : ¬ (i : Int) < 2 := by omega
        by_cases h17 : 17 < i
        · have hab := hsm (Or.inr h17)
          subst hab
          have h17' : (17 : Int) < i := by omega
          (repeat (first
    | (apply is_ok; (case hw => simp [hlt, l1, l2, g1, g2, hx0, hw0, h2', h17', hXl, hWl]); (case he => simp [hlt, l1, l2, g1, g2, hx0, hw0, h2', h17', hXl, hWl]; exact is_rfl))
    | (apply op_no; (case hw => simp [hlt, l1, l2, g1, g2, hx0, hw0, h2', h17', hXl, hWl]))
    | refine op_nil ?_ | refine next_normal ?_ | refine go_seq ?_ | refine go_region ?_ | refine go_skip ?_ | refine go_block ?_ | refine inb_normal ?_
    | (apply go_yes; (case hc => simp [hlt, l1, l2, g1, g2, hx0, hw0, h2', h17', hXl, hWl])) | (apply go_no; (case hc => simp [hlt, l1, l2, g1, g2, hx0, hw0, h2', h17', hXl, hWl]))
    | refine go_exit ?_ | refine next_exit ?_ | refine inb_here ?_ | refine inb_past (by decide) ?_ | refine go_ret ?_ | refine next_ret ?_ | refine inb_ret ?_))
          exact ⟨hlt, by simp [hw, hXl, hWl], trivial⟩
        · have h17' : ¬ (17 : Int) < i := by omega
          (repeat (first
    | (apply is_ok; (case hw => simp [hlt, h2', h17', hXl, hWl]); (case he => simp [hlt, h2', h17', hXl, hWl]; exact is_rfl))
    | (apply op_no; (case hw => simp [hlt, h2', h17', hXl, hWl]))
    | refine op_nil ?_ | refine next_normal ?_ | refine go_seq ?_ | refine go_region ?_ | refine go_skip ?_ | refine go_block ?_ | refine inb_normal ?_
    | (apply go_yes; (case hc => simp [hlt, h2', h17', hXl, hWl])) | (apply go_no; (case hc => simp [hlt, h2', h17', hXl, hWl]))
    | refine go_exit ?_ | refine next_exit ?_ | refine inb_here ?_ | refine inb_past (by decide) ?_ | refine go_ret ?_ | refine next_ret ?_ | refine inb_ret ?_))
          exact ⟨hlt, by simp [hw, hXl, hWl], trivial⟩
    · (repeat (first
    | (apply is_ok; (case hw => simp [hlt, hXl, hWl, hr3, hcl, hA]); (case he => simp [hlt, hXl, hWl, hr3, hcl, hA]; exact is_rfl))
    | (apply op_no; (case hw => simp [hlt, hXl, hWl, hr3, hcl, hA]))
    | refine op_nil ?_ | refine next_normal ?_ | refine go_seq ?_ | refine go_region ?_ | refine go_skip ?_ | refine go_block ?_ | refine inb_normal ?_
    | (apply go_yes; (case hc => simp [hlt, hXl, hWl, hr3, hcl, hA])) | (apply go_no; (case hc => simp [hlt, hXl, hWl, hr3, hcl, hA]))
    | refine go_exit ?_ | refine next_exit ?_ | refine inb_here ?_ | refine inb_past (by decide) ?_ | refine go_ret ?_ | refine next_ret ?_ | refine inb_ret ?_))
      (apply ends_ok; (case h1 => simp; exact is_rfl); (case h2 => simp; exact is_rfl))
      simp
  obtain ⟨j, hj⟩ : ∃ j, k = m.length + 1 + j := ⟨k - (m.length + 1), by omega⟩
  have hd := hmid j (by omega)
  rw [← hj] at hd
  generalize puts S (pl.take k) = X at hx1 hd
  have hXl := hd.1
  have n3 := hne X hXl
  have hr1 := rec_is (hd.rec hx)
  have hfin := hd.fin hx
  have hokR := hx.okR S.length rfl
  have hstep := fun t => hd.step hx t
  have hRl : (m.map padW ++ [(1, padS [])]).length = m.length + 1 := by simp
  have hRt : ∀ t, t ≤ m.length → (m.map padW ++ [(1, padS [])]).take t = (m.map padW).take t := fun t ht => by rw [List.take_append_of_le_length (by simpa using ht)]
  have hRa : (m.map padW ++ [(1, padS [])]).take (m.length + 1) = m.map padW ++ [(1, padS [])] := List.take_of_length_le (by simp)
  rw [hWe] at hfin
  obtain ⟨t, ht⟩ : ∃ t, t = y % (m.length + 2) := ⟨_, rfl⟩
  have ht2 : t ≤ m.length + 1 := by have := Nat.mod_lt y (show m.length + 2 > 0 by omega); omega
  have q18 : IntKind.i64.wrap ((m.length : Int) + 1 + 1) = (m.length : Int) + 1 + 1 := wrap_id (by omega) (by omega)
  have q19 : ¬ ((m.length : Int) + 1 + 1 = 0) := by omega
  have q20 : (y : Int).tmod ((m.length : Int) + 1 + 1) = (t : Int) := by
    rw [Int.tmod_eq_emod_of_nonneg (by omega), ht, show (m.length : Int) + 1 + 1 = ((m.length + 2 : Nat) : Int) by omega, ← Int.natCast_emod]
  by_cases ht0 : t = 0
  · subst ht0
    have ha2 := appR_0 (T := X) (w := m.map padW ++ [(1, padS [])]) (by omega) (by omega)
    have ha3 := appR_all (T := X) (w := m.map padW ++ [(1, padS [])]) (by omega) (by omega) (by rw [hXl]; exact hokR) (by omega)
    generalize m.map padW ++ [(1, padS [])] = R at hr1 hfin ha2 ha3 hRl
    generalize puts X R = Y at hfin ha3
    have hYl := hfin.1
    have n4 := hne Y hYl
    have hsame := hfin.same hx (Or.inr hWe.symm)
    have hr3 := rec_nil (hfin.rec hx.vol).1
    have hcl := clean_is (hfin.rec hx.vol).2
    rw [hXl] at ha3
    (refine gives_iff ?_; refine go_func Tryd.f4 rfl rfl (by simp [Tryd.f4]) ?_; dsimp only [codeL, Tryd.f4, scL, sopsL, guardL, dstAt, loopKey])
    (repeat (first
    | (apply is_ok; (case hw => simp [hM, hF, hs, hf, hP, hpl, q0, q1, q2, q3, q4, q5, q6, q7, q8, q9, q10, q11, q12, q13, q14, q15, q16, q17, q21, n1, n2, hwa, hsl3, hy0, hx1, hr1, ha2, ha3, hlt0, hXl, hYl, hWl, hk0, n3, n4, hRl, q18, q19, q20]); (case he => simp [hM, hF, hs, hf, hP, hpl, q0, q1, q2, q3, q4, q5, q6, q7, q8, q9, q10, q11, q12, q13, q14, q15, q16, q17, q21, n1, n2, hwa, hsl3, hy0, hx1, hr1, ha2, ha3, hlt0, hXl, hYl, hWl, hk0, n3, n4, hRl, q18, q19, q20]; exact is_rfl))
    | (apply op_no; (case hw => simp [hM, hF, hs, hf, hP, hpl, q0, q1, q2, q3, q4, q5, q6, q7, q8, q9, q10, q11, q12, q13, q14, q15, q16, q17, q21, n1, n2, hwa, hsl3, hy0, hx1, hr1, ha2, ha3, hlt0, hXl, hYl, hWl, hk0, n3, n4, hRl, q18, q19, q20]))
    | refine op_nil ?_ | refine next_normal ?_ | refine go_seq ?_ | refine go_region ?_ | refine go_skip ?_ | refine go_block ?_ | refine inb_normal ?_
    | (apply go_yes; (case hc => simp [hM, hF, hs, hf, hP, hpl, q0, q1, q2, q3, q4, q5, q6, q7, q8, q9, q10, q11, q12, q13, q14, q15, q16, q17, q21, n1, n2, hwa, hsl3, hy0, hx1, hr1, ha2, ha3, hlt0, hXl, hYl, hWl, hk0, n3, n4, hRl, q18, q19, q20])) | (apply go_no; (case hc => simp [hM, hF, hs, hf, hP, hpl, q0, q1, q2, q3, q4, q5, q6, q7, q8, q9, q10, q11, q12, q13, q14, q15, q16, q17, q21, n1, n2, hwa, hsl3, hy0, hx1, hr1, ha2, ha3, hlt0, hXl, hYl, hWl, hk0, n3, n4, hRl, q18, q19, q20]))
    | refine go_exit ?_ | refine next_exit ?_ | refine inb_here ?_ | refine inb_past (by decide) ?_ | refine go_ret ?_ | refine next_ret ?_ | refine inb_ret ?_))
    refine go_count S.length (fun i => [(16, .ptr 0 1 0 0), (21, .ptr 2 1 0 0), (148, .int .i64 S.length), (149, .int .i64 i)]) (fun i => [.box (.agg [.own 1 S.length 0 S.length, .sl []]), .dat true 1 (strs Y), .box (.agg [.own 3 S.length 0 S.length, .sl []]), .dat true 1 (strs W)]) (fun _ => True) (by simp [hYl, hWl]) trivial fun i hi _ => ?_
    have hw : IntKind.i64.wrap ((i : Int) + 1) = (i : Int) + 1 := wrap_id (by omega) (by omega)
    by_cases hlt : i < S.length
    · have l1 : i < Y.length := by omega
      have l2 : i < W.length := by omega
      have g1 : Y[i]? = some (Y[i]'l1) := List.getElem?_eq_getElem l1
      have g2 : W[i]? = some (W[i]'l2) := List.getElem?_eq_getElem l2
      have hsm := hsame i
      rw [getD_at l1, getD_at l2] at hsm
      generalize hx0 : Y[i]'l1 = a at g1 hsm
      generalize hw0 : W[i]'l2 = b at g2 hsm
      by_cases h2 : i < 2
      · have hab := hsm (Or.inl h2)
        subst hab
        have h2' : (i : Int) < 2 := by omega
        (repeat (first
    | (apply is_ok; (case hw => simp [hlt, l1, l2, g1, g2, hx0, hw0, h2', hYl, hWl]); (case he => simp [hlt, l1, l2, g1, g2, hx0, hw0, h2', hYl, hWl]; exact is_rfl))
    | (apply op_no; (case hw => simp [hlt, l1, l2, g1, g2, hx0, hw0, h2', hYl, hWl]))
    | refine op_nil ?_ | refine next_normal ?_ | refine go_seq ?_ | refine go_region ?_ | refine go_skip ?_ | refine go_block ?_ | refine inb_normal ?_
    | (apply go_yes; (case hc => simp [hlt, l1, l2, g1, g2, hx0, hw0, h2', hYl, hWl])) | (apply go_no; (case hc => simp [hlt, l1, l2, g1, g2, hx0, hw0, h2', hYl, hWl]))
    | refine go_exit ?_ | refine next_exit ?_ | refine inb_here ?_ | refine inb_past (by decide) ?_ | refine go_ret ?_ | refine next_ret ?_ | refine inb_ret ?_))
        exact ⟨hlt, by simp [hw, hYl, hWl], trivial⟩
      · have h2' : ¬ (i : Int) < 2 := by omega
        by_cases h17 : 17 < i
        · have hab := hsm (Or.inr h17)
          subst hab
          have h17' : (17 : Int) < i := by omega
          (repeat (first
    | (apply is_ok; (case hw => simp [hlt, l1, l2, g1, g2, hx0, hw0, h2', h17', hYl, hWl]); (case he => simp [hlt, l1, l2, g1, g2, hx0, hw0, h2', h17', hYl, hWl]; exact is_rfl))
    | (apply op_no; (case hw => simp [hlt, l1, l2, g1, g2, hx0, hw0, h2', h17', hYl, hWl]))
    | refine op_nil ?_ | refine next_normal ?_ | refine go_seq ?_ | refine go_region ?_ | refine go_skip ?_ | refine go_block ?_ | refine inb_normal ?_
    | (apply go_yes; (case hc => simp [hlt, l1, l2, g1, g2, hx0, hw0, h2', h17', hYl, hWl])) | (apply go_no; (case hc => simp [hlt, l1, l2, g1, g2, hx0, hw0, h2', h17', hYl, hWl]))
    | refine go_exit ?_ | refine next_exit ?_ | refine inb_here ?_ | refine inb_past (by decide) ?_ | refine go_ret ?_ | refine next_ret ?_ | refine inb_ret ?_))
          exact ⟨hlt, by simp [hw, hYl, hWl], trivial⟩
        · have h17' : ¬ (17 : Int) < i := by omega
          (repeat (first
    | (apply is_ok; (case hw => simp [hlt, h2', h17', hYl, hWl]); (case he => simp [hlt, h2', h17', hYl, hWl]; exact is_rfl))
    | (apply op_no; (case hw => simp [hlt, h2', h17', hYl, hWl]))
    | refine op_nil ?_ | refine next_normal ?_ | refine go_seq ?_ | refine go_region ?_ | refine go_skip ?_ | refine go_block ?_ | refine inb_normal ?_
    | (apply go_yes; (case hc => simp [hlt, h2', h17', hYl, hWl])) | (apply go_no; (case hc => simp [hlt, h2', h17', hYl, hWl]))
    | refine go_exit ?_ | refine next_exit ?_ | refine inb_here ?_ | refine inb_past (by decide) ?_ | refine go_ret ?_ | refine next_ret ?_ | refine inb_ret ?_))
          exact ⟨hlt, by simp [hw, hYl, hWl], trivial⟩
    · (repeat (first
    | (apply is_ok; (case hw => simp [hlt, hYl, hWl, hr3, hcl, hA]); (case he => simp [hlt, hYl, hWl, hr3, hcl, hA]; exact is_rfl))
    | (apply op_no; (case hw => simp [hlt, hYl, hWl, hr3, hcl, hA]))
    | refine op_nil ?_ | refine next_normal ?_ | refine go_seq ?_ | refine go_region ?_ | refine go_skip ?_ | refine go_block ?_ | refine inb_normal ?_
    | (apply go_yes; (case hc => simp [hlt, hYl, hWl, hr3, hcl, hA])) | (apply go_no; (case hc => simp [hlt, hYl, hWl, hr3, hcl, hA]))
    | refine go_exit ?_ | refine next_exit ?_ | refine inb_here ?_ | refine inb_past (by decide) ?_ | refine go_ret ?_ | refine next_ret ?_ | refine inb_ret ?_))
      (apply ends_ok; (case h1 => simp; exact is_rfl); (case h2 => simp; exact is_rfl))
      simp
  have ha2 := appR_n (T := X) (w := m.map padW ++ [(1, padS [])]) (by omega) (by omega) (by rw [hXl]; exact hokR) ht0 (by omega)
  by_cases htn : t = m.length + 1
  · have hRt2 : (m.map padW ++ [(1, padS [])]).take t = m.map padW ++ [(1, padS [])] := by rw [htn]; exact hRa
    rw [hRt2] at ha2
    generalize m.map padW ++ [(1, padS [])] = R at hr1 hfin ha2 hRl
    generalize puts X R = Y at hfin ha2
    have hYl := hfin.1
    have n4 := hne Y hYl
    have hsame := hfin.same hx (Or.inr hWe.symm)
    have hr3 := rec_nil (hfin.rec hx.vol).1
    have hcl := clean_is (hfin.rec hx.vol).2
    have ha3 := appR_nil (T := Y) (by omega)
    rw [hXl] at ha2
    (refine gives_iff ?_; refine go_func Tryd.f4 rfl rfl (by simp [Tryd.f4]) ?_; dsimp only [codeL, Tryd.f4, scL, sopsL, guardL, dstAt, loopKey])
    (repeat (first
    | (apply is_ok; (case hw => simp [hM, hF, hs, hf, hP, hpl, q0, q1, q2, q3, q4, q5, q6, q7, q8, q9, q10, q11, q12, q13, q14, q15, q16, q17, q21, n1, n2, hwa, hsl3, hy0, hx1, hr1, ha2, ha3, hr3, hlt0, hXl, hYl, hWl, hk0, n3, n4, hRl, q18, q19, q20]); (case he => simp [hM, hF, hs, hf, hP, hpl, q0, q1, q2, q3, q4, q5, q6, q7, q8, q9, q10, q11, q12, q13, q14, q15, q16, q17, q21, n1, n2, hwa, hsl3, hy0, hx1, hr1, ha2, ha3, hr3, hlt0, hXl, hYl, hWl, hk0, n3, n4, hRl, q18, q19, q20]; exact is_rfl))
    | (apply op_no; (case hw => simp [hM, hF, hs, hf, hP, hpl, q0, q1, q2, q3, q4, q5, q6, q7, q8, q9, q10, q11, q12, q13, q14, q15, q16, q17, q21, n1, n2, hwa, hsl3, hy0, hx1, hr1, ha2, ha3, hr3, hlt0, hXl, hYl, hWl, hk0, n3, n4, hRl, q18, q19, q20]))
    | refine op_nil ?_ | refine next_normal ?_ | refine go_seq ?_ | refine go_region ?_ | refine go_skip ?_ | refine go_block ?_ | refine inb_normal ?_
    | (apply go_yes; (case hc => simp [hM, hF, hs, hf, hP, hpl, q0, q1, q2, q3, q4, q5, q6, q7, q8, q9, q10, q11, q12, q13, q14, q15, q16, q17, q21, n1, n2, hwa, hsl3, hy0, hx1, hr1, ha2, ha3, hr3, hlt0, hXl, hYl, hWl, hk0, n3, n4, hRl, q18, q19, q20])) | (apply go_no; (case hc => simp [hM, hF, hs, hf, hP, hpl, q0, q1, q2, q3, q4, q5, q6, q7, q8, q9, q10, q11, q12, q13, q14, q15, q16, q17, q21, n1, n2, hwa, hsl3, hy0, hx1, hr1, ha2, ha3, hr3, hlt0, hXl, hYl, hWl, hk0, n3, n4, hRl, q18, q19, q20]))
    | refine go_exit ?_ | refine next_exit ?_ | refine inb_here ?_ | refine inb_past (by decide) ?_ | refine go_ret ?_ | refine next_ret ?_ | refine inb_ret ?_))
    refine go_count S.length (fun i => [(16, .ptr 0 1 0 0), (21, .ptr 1 1 0 0), (148, .int .i64 S.length), (149, .int .i64 i)]) (fun i => [.box (.agg [.sl (strs Y), .sl []]), .box (.agg [.own 2 S.length 0 S.length, .sl []]), .dat true 1 (strs W)]) (fun _ => True) (by simp [hYl, hWl]) trivial fun i hi _ => ?_
    have hw : IntKind.i64.wrap ((i : Int) + 1) = (i : Int) + 1 := wrap_id (by omega) (by omega)
    by_cases hlt : i < S.length
    · have l1 : i < Y.length := by omega
      have l2 : i < W.length := by omega
      have g1 : Y[i]? = some (Y[i]'l1) := List.getElem?_eq_getElem l1
      have g2 : W[i]? = some (W[i]'l2) := List.getElem?_eq_getElem l2
      have hsm := hsame i
      rw [getD_at l1, getD_at l2] at hsm
      generalize hx0 : Y[i]'l1 = a at g1 hsm
      generalize hw0 : W[i]'l2 = b at g2 hsm
      by_cases h2 : i < 2
      · have hab := hsm (Or.inl h2)
        subst hab
        have h2' : (i : Int) < 2 := by omega
        (repeat (first
    | (apply is_ok; (case hw => simp [hlt, l1, l2, g1, g2, hx0, hw0, h2', hYl, hWl]); (case he => simp [hlt, l1, l2, g1, g2, hx0, hw0, h2', hYl, hWl]; exact is_rfl))
    | (apply op_no; (case hw => simp [hlt, l1, l2, g1, g2, hx0, hw0, h2', hYl, hWl]))
    | refine op_nil ?_ | refine next_normal ?_ | refine go_seq ?_ | refine go_region ?_ | refine go_skip ?_ | refine go_block ?_ | refine inb_normal ?_
    | (apply go_yes; (case hc => simp [hlt, l1, l2, g1, g2, hx0, hw0, h2', hYl, hWl])) | (apply go_no; (case hc => simp [hlt, l1, l2, g1, g2, hx0, hw0, h2', hYl, hWl]))
    | refine go_exit ?_ | refine next_exit ?_ | refine inb_here ?_ | refine inb_past (by decide) ?_ | refine go_ret ?_ | refine next_ret ?_ | refine inb_ret ?_))
        exact ⟨hlt, by simp [hw, hYl, hWl], trivial⟩
      · have h2' : ¬ (i : Int) < 2 := by omega
        by_cases h17 : 17 < i
        · have hab := hsm (Or.inr h17)
          subst hab
          have h17' : (17 : Int) < i := by omega
          (repeat (first
    | (apply is_ok; (case hw => simp [hlt, l1, l2, g1, g2, hx0, hw0, h2', h17', hYl, hWl]); (case he => simp [hlt, l1, l2, g1, g2, hx0, hw0, h2', h17', hYl, hWl]; exact is_rfl))
    | (apply op_no; (case hw => simp [hlt, l1, l2, g1, g2, hx0, hw0, h2', h17', hYl, hWl]))
    | refine op_nil ?_ | refine next_normal ?_ | refine go_seq ?_ | refine go_region ?_ | refine go_skip ?_ | refine go_block ?_ | refine inb_normal ?_
    | (apply go_yes; (case hc => simp [hlt, l1, l2, g1, g2, hx0, hw0, h2', h17', hYl, hWl])) | (apply go_no; (case hc => simp [hlt, l1, l2, g1, g2, hx0, hw0, h2', h17', hYl, hWl]))
    | refine go_exit ?_ | refine next_exit ?_ | refine inb_here ?_ | refine inb_past (by decide) ?_ | refine go_ret ?_ | refine next_ret ?_ | refine inb_ret ?_))
          exact ⟨hlt, by simp [hw, hYl, hWl], trivial⟩
        · have h17' : ¬ (17 : Int) < i := by omega
          (repeat (first
    | (apply is_ok; (case hw => simp [hlt, h2', h17', hYl, hWl]); (case he => simp [hlt, h2', h17', hYl, hWl]; exact is_rfl))
    | (apply op_no; (case hw => simp [hlt, h2', h17', hYl, hWl]))
    | refine op_nil ?_ | refine next_normal ?_ | refine go_seq ?_ | refine go_region ?_ | refine go_skip ?_ | refine go_block ?_ | refine inb_normal ?_
    | (apply go_yes; (case hc => simp [hlt, h2', h17', hYl, hWl])) | (apply go_no; (case hc => simp [hlt, h2', h17', hYl, hWl]))
    | refine go_exit ?_ | refine next_exit ?_ | refine inb_here ?_ | refine inb_past (by decide) ?_ | refine go_ret ?_ | refine next_ret ?_ | refine inb_ret ?_))
          exact ⟨hlt, by simp [hw, hYl, hWl], trivial⟩
    · (repeat (first
    | (apply is_ok; (case hw => simp [hlt, hYl, hWl, hr3, hcl, hA]); (case he => simp [hlt, hYl, hWl, hr3, hcl, hA]; exact is_rfl))
    | (apply op_no; (case hw => simp [hlt, hYl, hWl, hr3, hcl, hA]))
    | refine op_nil ?_ | refine next_normal ?_ | refine go_seq ?_ | refine go_region ?_ | refine go_skip ?_ | refine go_block ?_ | refine inb_normal ?_
    | (apply go_yes; (case hc => simp [hlt, hYl, hWl, hr3, hcl, hA])) | (apply go_no; (case hc => simp [hlt, hYl, hWl, hr3, hcl, hA]))
    | refine go_exit ?_ | refine next_exit ?_ | refine inb_here ?_ | refine inb_past (by decide) ?_ | refine go_ret ?_ | refine next_ret ?_ | refine inb_ret ?_))
      (apply ends_ok; (case h1 => simp; exact is_rfl); (case h2 => simp; exact is_rfl))
      simp
  have hd2 := hstep t
  rw [hRt t (by omega)] at ha2
  generalize puts X ((m.map padW).take t) = X2 at ha2 hd2
  have hX2 := hd2.1
  have n5 := hne X2 hX2
  have hr2 := rec_is (hd2.rec hx)
  have hfin := hd2.fin hx
  rw [hWe] at hfin
  have ha3 := appR_all (T := X2) (w := m.map padW ++ [(1, padS [])]) (by omega) (by omega) (by rw [hX2]; exact hokR) (by omega)
  generalize m.map padW ++ [(1, padS [])] = R at hr1 hr2 hfin ha2 ha3 hRl
  generalize puts X2 R = Y at hfin ha3
  have hYl := hfin.1
  have n4 := hne Y hYl
  have hsame := hfin.same hx (Or.inr hWe.symm)
  have hr3 := rec_nil (hfin.rec hx.vol).1
  have hcl := clean_is (hfin.rec hx.vol).2
  rw [hXl] at ha2
  rw [hX2] at ha3
  (refine gives_iff ?_; refine go_func Tryd.f4 rfl rfl (by simp [Tryd.f4]) ?_; dsimp only [codeL, Tryd.f4, scL, sopsL, guardL, dstAt, loopKey])
  (repeat (first
    | (apply is_ok; (case hw => simp [hM, hF, hs, hf, hP, hpl, q0, q1, q2, q3, q4, q5, q6, q7, q8, q9, q10, q11, q12, q13, q14, q15, q16, q17, q21, n1, n2, hwa, hsl3, hy0, hx1, hr1, hr2, ha2, ha3, hlt0, hXl, hX2, hYl, hWl, hk0, n3, n4, n5, hRl, q18, q19, q20]); (case he => simp [hM, hF, hs, hf, hP, hpl, q0, q1, q2, q3, q4, q5, q6, q7, q8, q9, q10, q11, q12, q13, q14, q15, q16, q17, q21, n1, n2, hwa, hsl3, hy0, hx1, hr1, hr2, ha2, ha3, hlt0, hXl, hX2, hYl, hWl, hk0, n3, n4, n5, hRl, q18, q19, q20]; exact is_rfl))
    | (apply op_no; (case hw => simp [hM, hF, hs, hf, hP, hpl, q0, q1, q2, q3, q4, q5, q6, q7, q8, q9, q10, q11, q12, q13, q14, q15, q16, q17, q21, n1, n2, hwa, hsl3, hy0, hx1, hr1, hr2, ha2, ha3, hlt0, hXl, hX2, hYl, hWl, hk0, n3, n4, n5, hRl, q18, q19, q20]))
    | refine op_nil ?_ | refine next_normal ?_ | refine go_seq ?_ | refine go_region ?_ | refine go_skip ?_ | refine go_block ?_ | refine inb_normal ?_
    | (apply go_yes; (case hc => simp [hM, hF, hs, hf, hP, hpl, q0, q1, q2, q3, q4, q5, q6, q7, q8, q9, q10, q11, q12, q13, q14, q15, q16, q17, q21, n1, n2, hwa, hsl3, hy0, hx1, hr1, hr2, ha2, ha3, hlt0, hXl, hX2, hYl, hWl, hk0, n3, n4, n5, hRl, q18, q19, q20])) | (apply go_no; (case hc => simp [hM, hF, hs, hf, hP, hpl, q0, q1, q2, q3, q4, q5, q6, q7, q8, q9, q10, q11, q12, q13, q14, q15, q16, q17, q21, n1, n2, hwa, hsl3, hy0, hx1, hr1, hr2, ha2, ha3, hlt0, hXl, hX2, hYl, hWl, hk0, n3, n4, n5, hRl, q18, q19, q20]))
    | refine go_exit ?_ | refine next_exit ?_ | refine inb_here ?_ | refine inb_past (by decide) ?_ | refine go_ret ?_ | refine next_ret ?_ | refine inb_ret ?_))
  refine go_count S.length (fun i => [(16, .ptr 0 1 0 0), (21, .ptr 2 1 0 0), (148, .int .i64 S.length), (149, .int .i64 i)]) (fun i => [.box (.agg [.own 1 S.length 0 S.length, .sl []]), .dat true 1 (strs Y), .box (.agg [.own 3 S.length 0 S.length, .sl []]), .dat true 1 (strs W)]) (fun _ => True) (by simp [hYl, hWl]) trivial fun i hi _ => ?_
  have hw : IntKind.i64.wrap ((i : Int) + 1) = (i : Int) + 1 := wrap_id (by omega) (by omega)
  by_cases hlt : i < S.length
  · have l1 : i < Y.length := by omega
    have l2 : i < W.length := by omega
    have g1 : Y[i]? = some (Y[i]'l1) := List.getElem?_eq_getElem l1
    have g2 : W[i]? = some (W[i]'l2) := List.getElem?_eq_getElem l2
    have hsm := hsame i
    rw [getD_at l1, getD_at l2] at hsm
    generalize hx0 : Y[i]'l1 = a at g1 hsm
    generalize hw0 : W[i]'l2 = b at g2 hsm
    by_cases h2 : i < 2
    · have hab := hsm (Or.inl h2)
      subst hab
      have h2' : (i : Int) < 2 := by omega
      (repeat (first
    | (apply is_ok; (case hw => simp [hlt, l1, l2, g1, g2, hx0, hw0, h2', hYl, hWl]); (case he => simp [hlt, l1, l2, g1, g2, hx0, hw0, h2', hYl, hWl]; exact is_rfl))
    | (apply op_no; (case hw => simp [hlt, l1, l2, g1, g2, hx0, hw0, h2', hYl, hWl]))
    | refine op_nil ?_ | refine next_normal ?_ | refine go_seq ?_ | refine go_region ?_ | refine go_skip ?_ | refine go_block ?_ | refine inb_normal ?_
    | (apply go_yes; (case hc => simp [hlt, l1, l2, g1, g2, hx0, hw0, h2', hYl, hWl])) | (apply go_no; (case hc => simp [hlt, l1, l2, g1, g2, hx0, hw0, h2', hYl, hWl]))
    | refine go_exit ?_ | refine next_exit ?_ | refine inb_here ?_ | refine inb_past (by decide) ?_ | refine go_ret ?_ | refine next_ret ?_ | refine inb_ret ?_))
      exact ⟨hlt, by simp [hw, hYl, hWl], trivial⟩
    · have h2' : ¬ (i : Int) < 2 := by omega
      by_cases h17 : 17 < i
      · have hab := hsm (Or.inr h17)
        subst hab
        have h17' : (17 : Int) < i := by omega
        (repeat (first
    | (apply is_ok; (case hw => simp [hlt, l1, l2, g1, g2, hx0, hw0, h2', h17', hYl, hWl]); (case he => simp [hlt, l1, l2, g1, g2, hx0, hw0, h2', h17', hYl, hWl]; exact is_rfl))
    | (apply op_no; (case hw => simp [hlt, l1, l2, g1, g2, hx0, hw0, h2', h17', hYl, hWl]))
    | refine op_nil ?_ | refine next_normal ?_ | refine go_seq ?_ | refine go_region ?_ | refine go_skip ?_ | refine go_block ?_ | refine inb_normal ?_
    | (apply go_yes; (case hc => simp [hlt, l1, l2, g1, g2, hx0, hw0, h2', h17', hYl, hWl])) | (apply go_no; (case hc => simp [hlt, l1, l2, g1, g2, hx0, hw0, h2', h17', hYl, hWl]))
    | refine go_exit ?_ | refine next_exit ?_ | refine inb_here ?_ | refine inb_past (by decide) ?_ | refine go_ret ?_ | refine next_ret ?_ | refine inb_ret ?_))
        exact ⟨hlt, by simp [hw, hYl, hWl], trivial⟩
      · have h17' : ¬ (17 : Int) < i := by omega
        (repeat (first
    | (apply is_ok; (case hw => simp [hlt, h2', h17', hYl, hWl]); (case he => simp [hlt, h2', h17', hYl, hWl]; exact is_rfl))
    | (apply op_no; (case hw => simp [hlt, h2', h17', hYl, hWl]))
    | refine op_nil ?_ | refine next_normal ?_ | refine go_seq ?_ | refine go_region ?_ | refine go_skip ?_ | refine go_block ?_ | refine inb_normal ?_
    | (apply go_yes; (case hc => simp [hlt, h2', h17', hYl, hWl])) | (apply go_no; (case hc => simp [hlt, h2', h17', hYl, hWl]))
    | refine go_exit ?_ | refine next_exit ?_ | refine inb_here ?_ | refine inb_past (by decide) ?_ | refine go_ret ?_ | refine next_ret ?_ | refine inb_ret ?_))
        exact ⟨hlt, by simp [hw, hYl, hWl], trivial⟩
  · (repeat (first
    | (apply is_ok; (case hw => simp [hlt, hYl, hWl, hr3, hcl, hA]); (case he => simp [hlt, hYl, hWl, hr3, hcl, hA]; exact is_rfl))
    | (apply op_no; (case hw => simp [hlt, hYl, hWl, hr3, hcl, hA]))
    | refine op_nil ?_ | refine next_normal ?_ | refine go_seq ?_ | refine go_region ?_ | refine go_skip ?_ | refine go_block ?_ | refine inb_normal ?_
    | (apply go_yes; (case hc => simp [hlt, hYl, hWl, hr3, hcl, hA])) | (apply go_no; (case hc => simp [hlt, hYl, hWl, hr3, hcl, hA]))
    | refine go_exit ?_ | refine next_exit ?_ | refine inb_here ?_ | refine inb_past (by decide) ?_ | refine go_ret ?_ | refine next_ret ?_ | refine inb_ret ?_))
    (apply ends_ok; (case h1 => simp; exact is_rfl); (case h2 => simp; exact is_rfl))
    simp
end Go.Abs

namespace Go.Abs
open Go.Proofs
theorem wf_u8 {m : Int} (h : (Lit.int .u8 m).wf = true) : 0 ≤ m ∧ m ≤ 255 := by
  simpa [Lit.wf, IntKind.min, IntKind.max, IntKind.signed, IntKind.bits] using h
theorem u8_of {t : TypeId} {P : Program} {x : V} (hu : P.underlying t = some (.int .u8)) (h : ArgT P t x) : ∃ k : Nat, x = .int .u8 k ∧ k ≤ 255 := by
  obtain ⟨m, rfl, h1⟩ := int_of hu h
  obtain ⟨h2, h3⟩ := wf_u8 h1
  exact ⟨m.toNat, by rw [Int.toNat_of_nonneg h2], by omega⟩
end Go.Abs

