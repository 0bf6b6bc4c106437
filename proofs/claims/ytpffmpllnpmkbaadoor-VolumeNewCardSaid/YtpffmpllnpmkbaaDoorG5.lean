/- Proved here: what functions of the program compute, over the evaluator. No condition but those that each theorem states. -/
import Derived.Test.YtpffmpllnpmkbaaDoorG4
namespace Go.Abs
open Go.Proofs
set_option maxRecDepth 100000
set_option linter.unusedSimpArgs false
set_option linter.unusedVariables false

theorem padS_pad {s : List UInt8} (h : s.length ≤ 128) : padS (padS s) = padS s := by
  have := padS_length h
  show padS s ++ List.replicate (128 - (padS s).length) 0 = padS s
  rw [this]
  simp
theorem puts_low {i : Nat} : ∀ (l : List (Int × List UInt8)) (T : List (List UInt8)), (∀ w ∈ l, 0 ≤ w.1 ∧ w.1 ≠ i) → (puts T l).getD i [] = T.getD i []
  | [], _, _ => rfl
  | w :: l, T, h => by
    have h1 := h w (List.mem_cons_self ..)
    have := puts_low l (putS T w) fun v hv => h v (List.mem_cons_of_mem _ hv)
    rw [show puts T (w :: l) = puts (putS T w) l from rfl, this]
    exact getD_putS (by omega)
theorem getD_putS_self {T : List (List UInt8)} {w : Int × List UInt8} (h0 : 0 ≤ w.1) (h1 : w.1 < T.length) : (putS T w).getD w.1.toNat [] = padS w.2 := by
  unfold putS
  rw [List.getD_eq_getElem?_getD, List.getElem?_set_self (by omega)]
  rfl
theorem puts_mem {i : Nat} {w : Int × List UInt8} : ∀ (l : List (Int × List UInt8)) (T : List (List UInt8)), (∀ v ∈ l, 0 ≤ v.1 ∧ v.1 < T.length) → (l.map Prod.fst).Nodup → w ∈ l → w.1 = i → (puts T l).getD i [] = padS w.2
  | [], _, _, _, hw, _ => by cases hw
  | v :: l, T, h, hn, hw, hi => by
    rw [List.map_cons, List.nodup_cons] at hn
    have hv := h v (List.mem_cons_self ..)
    rw [show puts T (v :: l) = puts (putS T v) l from rfl]
    rcases List.mem_cons.1 hw with rfl | hw
    · rw [puts_low l _ fun u hu => ⟨(h u (List.mem_cons_of_mem _ hu)).1, fun e => hn.1 (List.mem_map.2 ⟨u, hu, by omega⟩)⟩]
      rw [show i = w.1.toNat by omega]
      exact getD_putS_self hv.1 hv.2
    · exact puts_mem l _ (fun u hu => by rw [putS_length]; exact h u (List.mem_cons_of_mem _ hu)) hn.2 hw hi

/-- A drive whose log leads to the end of a transaction. -/
def Rdy (S : List (List UInt8)) (m : List (Int × List UInt8)) (T : List (List UInt8)) : Prop :=
  T.length = S.length ∧ RightP T [] ∧ T.getD 0 [] = S.getD 0 [] ∧ T.getD 1 [] = padS (headL m) ∧ (∀ i (h : i < m.length), T.getD (2 + i) [] = padS (m[i]).2) ∧
    ∀ i : Nat, 18 ≤ i → (∀ w ∈ m, w.1 ≠ i) → T.getD i [] = S.getD i []
/-- A drive with a clean log. -/
def Don (S W T : List (List UInt8)) : Prop :=
  T.length = S.length ∧ RightP T [] ∧ T.getD 0 [] = S.getD 0 [] ∧ T.getD 1 [] = padS [] ∧ ∀ i : Nat, 18 ≤ i → T.getD i [] = W.getD i []

/-- What a transaction's writes are. -/
structure Txn (S : List (List UInt8)) (m : List (Int × List UInt8)) : Prop where
  vol : VolP S []
  clean : S.getD 1 [] = padS []
  low : 1 ≤ m.length
  high : m.length ≤ 16
  keys : ∀ w ∈ m, 18 ≤ w.1 ∧ w.1 < S.length - swapW S ∧ w.2.length ≤ 128
  asc : (m.map Prod.fst).Pairwise (· < ·)

section
variable {S T : List (List UInt8)} {m : List (Int × List UInt8)}
theorem vol_same {S T : List (List UInt8)} (hv : VolP S []) (h1 : T.length = S.length) (h2 : RightP T []) (h3 : T.getD 0 [] = S.getD 0 []) : VolP T [] ∧ swapW T = swapW S := by
  have hs : swapW T = swapW S := by unfold swapW; rw [h3]
  exact ⟨⟨h2, by rw [h1]; exact hv.2.1, by simp, by rw [hs, h1]; exact hv.2.2.2.1, by rw [h3, hs, h1]; exact hv.2.2.2.2⟩, hs⟩
theorem Txn.nodup (h : Txn S m) : (m.map Prod.fst).Nodup := h.asc.imp fun h => by omega
theorem Txn.D_nodup (h : Txn S m) : ((m.map padW).map Prod.fst).Nodup := by
  rw [List.map_map]
  exact h.nodup
theorem headL_length (h : m.length ≤ 16) : (headL m).length ≤ 128 := by unfold headL; rw [List.length_append, put2_length, flat_len]; omega
theorem Txn.okD (h : Txn S m) (n : Nat) (hn : n = S.length) : OkAll n [] (m.map padW) := fun w hw => by
  obtain ⟨v, hv, rfl⟩ := List.mem_map.1 hw
  have := h.keys v hv
  have hb := vol_bounds h.vol
  exact faultI_zero.2 ⟨⟨by show 0 ≤ v.1; omega, by show v.1 < n; omega⟩, by show (padS v.2).length ≤ 128; rw [padS_length this.2.2]; omega, by simp⟩
theorem Txn.okV (h : Txn S m) (n : Nat) (hn : n = S.length) : OkAll n [] (logL m) := fun w hw => by
  unfold logL at hw
  obtain ⟨i, hi, rfl⟩ := List.mem_map.1 hw
  rw [List.mem_range] at hi
  have hb := vol_bounds h.vol
  have h16 := h.high
  have := h.keys _ (List.getElem_mem hi)
  refine faultI_zero.2 ⟨⟨by show (0 : Int) ≤ 2 + (i : Int); omega, by show (2 + (i : Int)) < n; omega⟩, ?_, by simp⟩
  show (padS (m.getD i (0, [])).2).length ≤ 128
  rw [getD_at hi, padS_length this.2.2]
  omega
theorem Txn.okH (h : Txn S m) (n : Nat) (hn : n = S.length) {s : List UInt8} (hs : s.length ≤ 128) : faultI n [] (1, padS s) = 0 := by
  have hb := vol_bounds h.vol
  exact faultI_zero.2 ⟨⟨by show (0 : Int) ≤ 1; omega, by show (1 : Int) < n; omega⟩, by show (padS s).length ≤ 128; rw [padS_length hs]; omega, by simp⟩
theorem Txn.okP (h : Txn S m) (n : Nat) (hn : n = S.length) : OkAll n [] (planL m) := fun w hw => by
  unfold planL at hw
  rcases List.mem_append.1 hw with hw | hw
  · exact h.okV n hn w hw
  · rcases List.mem_cons.1 hw with rfl | hw
    · exact h.okH n hn (headL_length h.high)
    · rcases List.mem_append.1 hw with hw | hw
      · exact h.okD n hn w hw
      · rw [List.mem_singleton] at hw
        subst hw
        exact h.okH n hn (by simp)
theorem Txn.okR (h : Txn S m) (n : Nat) (hn : n = S.length) : OkAll n [] (m.map padW ++ [(1, padS [])]) := fun w hw => h.okP n hn w (by
  unfold planL
  exact List.mem_append_right _ (List.mem_cons_of_mem _ hw))
theorem ok_rng {n : Nat} {l : List (Int × List UInt8)} (h : OkAll n [] l) : ∀ w ∈ l, 0 ≤ w.1 ∧ w.1 < n := fun w hw => (faultI_zero.1 (h w hw)).1
theorem Txn.d_low (h : Txn S m) {j i : Nat} (hi : i < 18) : ∀ w ∈ (m.map padW).take j, 0 ≤ w.1 ∧ w.1 ≠ i := fun w hw => by
  obtain ⟨v, hv, rfl⟩ := List.mem_map.1 (List.mem_of_mem_take hw)
  have := h.keys v hv
  exact ⟨by show 0 ≤ v.1; omega, by show v.1 ≠ i; omega⟩
theorem Txn.d_not (h : Txn S m) {j i : Nat} (hi : ∀ w ∈ m, w.1 ≠ i) : ∀ w ∈ (m.map padW).take j, 0 ≤ w.1 ∧ w.1 ≠ i := fun w hw => by
  obtain ⟨v, hv, rfl⟩ := List.mem_map.1 (List.mem_of_mem_take hw)
  have := h.keys v hv
  exact ⟨by show 0 ≤ v.1; omega, hi v hv⟩

/-- The log, written. -/
theorem Txn.rdy0 (h : Txn S m) : Rdy S m (putS (puts S (logL m)) (1, padS (headL m))) := by
  have hb := vol_bounds h.vol
  have h16 := h.high
  have hl : (puts S (logL m)).length = S.length := puts_length ..
  have hlow : ∀ i : Nat, (i < 2 ∨ 18 ≤ i) → ∀ w ∈ logL m, 0 ≤ w.1 ∧ w.1 ≠ i := fun i hi w hw => by
    unfold logL at hw
    obtain ⟨j, hj, rfl⟩ := List.mem_map.1 hw
    rw [List.mem_range] at hj
    exact ⟨by show (0 : Int) ≤ 2 + (j : Int); omega, by show (2 + (j : Int)) ≠ i; omega⟩
  refine ⟨by rw [putS_length, hl], RightP_put (RightP_puts _ _ h.vol.1 (h.okV _ rfl)) (by rw [padS_length (headL_length h16)]; omega), ?_, ?_, fun i hi => ?_, fun i hi hni => ?_⟩
  · rw [getD_putS (by show (0 : Nat) ≠ (1 : Int).toNat; decide)]
    exact puts_low _ _ (hlow 0 (by omega))
  · have := @getD_putS_self (puts S (logL m)) (1, padS (headL m)) (by show (0 : Int) ≤ 1; omega) (by rw [hl]; show (1 : Int) < _; omega)
    rw [padS_pad (headL_length h16)] at this
    exact this
  · rw [getD_putS (by show 2 + i ≠ (1 : Int).toNat; have : (1 : Int).toNat = 1 := rfl; omega)]
    have hmem : ((2 + (i : Int)), padS (m[i]).2) ∈ logL m := by
      unfold logL
      exact List.mem_map.2 ⟨i, List.mem_range.2 hi, by rw [getD_at hi]⟩
    have hnd : ((logL m).map Prod.fst).Nodup := by
      unfold logL
      rw [List.map_map]
      refine List.Pairwise.imp_of_mem (R := (· ≠ ·)) (S := (· ≠ ·)) (fun _ _ h => h) ?_
      rw [List.pairwise_map]
      exact List.nodup_range.imp fun h => by simp; omega
    rw [puts_mem (i := 2 + i) (logL m) S (ok_rng (h.okV _ rfl)) hnd hmem (by show (2 + (i : Int)) = _; omega)]
    exact padS_pad (h.keys _ (List.getElem_mem hi)).2.2
  · rw [getD_putS (by show i ≠ (1 : Int).toNat; have : (1 : Int).toNat = 1 := rfl; omega)]
    exact puts_low _ _ (hlow i (by omega))

theorem Rdy.step (h : Txn S m) (hr : Rdy S m T) (j : Nat) : Rdy S m (puts T ((m.map padW).take j)) := by
  obtain ⟨h1, h2, h3, h4, h5, h6⟩ := hr
  have h16 := h.high
  exact ⟨by rw [puts_length, h1], RightP_puts _ _ h2 fun w hw => h.okD _ h1 w (List.mem_of_mem_take hw), by rw [puts_low _ _ (h.d_low (by omega)), h3], by rw [puts_low _ _ (h.d_low (by omega)), h4],
    fun i hi => by rw [puts_low _ _ (h.d_low (by omega)), h5 i hi], fun i hi hn => by rw [puts_low _ _ (h.d_not hn), h6 i hi hn]⟩

/-- All sectors home, and the log clean. -/
theorem Rdy.fin (h : Txn S m) (hr : Rdy S m T) : Don S (puts S (m.map padW)) (puts T (m.map padW ++ [(1, padS [])])) := by
  have hs := hr.step h m.length
  rw [show (m.map padW).take m.length = m.map padW by rw [List.take_of_length_le (by simp)]] at hs
  have e : puts T (m.map padW ++ [(1, padS [])]) = putS (puts T (m.map padW)) (1, padS []) := by
    show List.foldl putS T _ = _
    rw [List.foldl_append]
    rfl
  have hb := vol_bounds h.vol
  have hgd : ∀ U : List (List UInt8), U.length = S.length → ∀ i : Nat, 18 ≤ i → ∀ w ∈ m, w.1 = i → (puts U (m.map padW)).getD i [] = padS w.2 := fun U hU i hi w hw hwi => by
    have := puts_mem (i := i) (w := padW w) (m.map padW) U (ok_rng (h.okD _ hU)) h.D_nodup (List.mem_map.2 ⟨w, hw, rfl⟩) hwi
    rw [this]
    exact padS_pad (h.keys w hw).2.2
  have hTl := hr.1
  have hr6 := hr.2.2.2.2.2
  obtain ⟨h1, h2, h3, h4, h5, h6⟩ := hs
  rw [e]
  refine ⟨by rw [putS_length, h1], RightP_put h2 (by rw [padS_length (by simp)]; omega), by rw [getD_putS (by show (0 : Nat) ≠ (1 : Int).toNat; decide), h3], ?_, fun i hi => ?_⟩
  · have := @getD_putS_self (puts T (m.map padW)) (1, padS []) (by show (0 : Int) ≤ 1; omega) (by rw [h1]; show (1 : Int) < _; omega)
    rw [padS_pad (by simp)] at this
    exact this
  · rw [getD_putS (by show i ≠ (1 : Int).toNat; have : (1 : Int).toNat = 1 := rfl; omega)]
    by_cases hx : ∃ w ∈ m, w.1 = (i : Int)
    · obtain ⟨w, hw, hwi⟩ := hx
      rw [hgd T hTl i hi w hw hwi, hgd S rfl i hi w hw hwi]
    · have hn : ∀ w ∈ m, w.1 ≠ (i : Int) := fun w hw e => hx ⟨w, hw, e⟩
      rw [h6 i hi hn, puts_low (i := i) (m.map padW) S fun w hw => by
        obtain ⟨v, hv, rfl⟩ := List.mem_map.1 hw
        have := h.keys v hv
        exact ⟨by show 0 ≤ v.1; omega, hn v hv⟩]

theorem logS_zero (e : Int) : logS e (padS []) = ([], true) := by
  have h0 : wd (padS []) 0 = 0 := by kernel_rfl
  unfold logS
  rw [h0, if_neg (by omega)]
  have hz : zeroFrom (padS []) 2 := by
    intro b hb
    have : padS [] = List.replicate 128 0 := rfl
    rw [this] at hb
    exact List.eq_of_mem_replicate (List.mem_of_mem_drop hb)
  show (if okK e (padS []) 0 = true then (logK (padS []) 0, decide (zeroFrom (padS []) 2)) else ([], false)) = _
  rw [if_pos (show okK e (padS []) 0 = true from rfl), decide_eq_true hz]
  rfl
theorem Don.rec (h : VolP S []) {W : List (List UInt8)} (hd : Don S W T) : recS T [] = ([], 0) ∧ CleanP T [] := by
  obtain ⟨h1, h2, h3, h4, h5⟩ := hd
  have hv := vol_same h h1 h2 h3
  refine ⟨?_, hv.1, by simp, h4⟩
  unfold recS
  rw [if_pos hv.1, if_neg (by simp), h4, logS_zero]
  rfl

theorem wd_cons (x y : UInt8) (t : List UInt8) (j : Nat) : wd (x :: y :: t) (j + 1) = wd t j := by
  unfold wd
  rw [show 2 * (j + 1) = 2 * j + 1 + 1 by omega, show 2 * j + 1 + 1 + 1 = (2 * j + 1) + 1 + 1 by omega]
  rfl
theorem wd_put2 {n : Int} (t : List UInt8) (h : 0 ≤ n) (h2 : n ≤ 65535) : wd (put2 n ++ t) 0 = n := word_put2 h h2
theorem wd_flat : ∀ (m : List (Int × List UInt8)) (t : List UInt8) (i : Nat) (hi : i < m.length), (∀ w ∈ m, 0 ≤ w.1 ∧ w.1 ≤ 65535) → wd ((m.flatMap fun w => put2 w.1) ++ t) i = (m[i]).1
  | [], _, _, hi, _ => by cases hi
  | w :: m, t, 0, _, h => by
    rw [List.flatMap_cons, List.append_assoc]
    exact wd_put2 _ (h w (List.mem_cons_self ..)).1 (h w (List.mem_cons_self ..)).2
  | w :: m, t, i + 1, hi, h => by
    rw [List.flatMap_cons, List.append_assoc]
    show wd (_ :: _ :: ((m.flatMap fun w => put2 w.1) ++ t)) (i + 1) = _
    rw [wd_cons, wd_flat m t i (by simpa using hi) fun v hv => h v (List.mem_cons_of_mem _ hv)]
    rfl
theorem logS_head (h : Txn S m) : logS (S.length - swapW S) (padS (headL m)) = (m.map Prod.fst, true) := by
  have hb := vol_bounds h.vol
  have h16 := h.high
  have hk : ∀ w ∈ m, 0 ≤ w.1 ∧ w.1 ≤ 65535 := fun w hw => by have := h.keys w hw; omega
  have h0 : wd (padS (headL m)) 0 = m.length := by
    unfold padS headL
    rw [List.append_assoc]
    exact wd_put2 _ (by omega) (by omega)
  have hi : ∀ i (hi : i < m.length), wd (padS (headL m)) (i + 1) = (m[i]).1 := fun i hi => by
    unfold padS
    rw [show headL m = put2 m.length ++ m.flatMap (fun w => put2 w.1) from rfl, List.append_assoc]
    show wd (_ :: _ :: _) (i + 1) = _
    rw [wd_cons]
    exact wd_flat m _ i hi hk
  have hok : ∀ n, n ≤ m.length → okK (S.length - swapW S) (padS (headL m)) n = true := by
    intro n
    induction n with
    | zero => intro _; rfl
    | succ n ih =>
      intro hn
      rw [okK, ih (by omega), hi n (by omega)]
      have := h.keys _ (List.getElem_mem (show n < m.length by omega))
      simp only [Bool.true_and, decide_eq_true_eq]
      refine ⟨?_, this.1, this.2.1⟩
      unfold lastK
      by_cases h0 : n = 0
      · rw [if_pos h0]; omega
      · rw [if_neg h0]
        obtain ⟨k, rfl⟩ : ∃ k, n = k + 1 := ⟨n - 1, by omega⟩
        rw [hi k (by omega)]
        have := List.pairwise_iff_getElem.1 h.asc k (k + 1) (by simp; omega) (by simp; omega) (by omega)
        simpa using this
  have hlk : logK (padS (headL m)) m.length = m.map Prod.fst := by
    unfold logK
    apply List.ext_getElem
    · simp
    · intro i h1 h2
      simp at h1 h2
      simp [hi i h1]
  have hz : zeroFrom (padS (headL m)) (2 * m.length + 2) := by
    intro b hb
    unfold padS at hb
    have hl : (headL m).length = 2 * m.length + 2 := by unfold headL; rw [List.length_append, put2_length, flat_len]; omega
    rw [List.drop_append, List.drop_eq_nil_of_le (by omega), List.nil_append] at hb
    exact List.eq_of_mem_replicate (List.mem_of_mem_drop hb)
  unfold logS
  rw [h0, if_neg (by omega)]
  show (if okK _ _ m.length = true then (logK _ m.length, decide (zeroFrom _ (2 * m.length + 2))) else ([], false)) = _
  rw [if_pos (hok _ (Nat.le_refl _)), hlk, decide_eq_true hz]
theorem okB_nil (n : Nat) : okB [] n = true := by
  induction n with
  | zero => rfl
  | succ n ih => rw [okB, ih]; simp
theorem Rdy.rec (h : Txn S m) (hr : Rdy S m T) : recS T [] = (m.map padW ++ [(1, padS [])], 0) := by
  obtain ⟨h1, h2, h3, h4, h5, h6⟩ := hr
  have hv := vol_same h.vol h1 h2 h3
  have hl := h.low
  unfold recS
  rw [if_pos hv.1, if_neg (by simp), h4, hv.2, h1, logS_head h]
  simp only [if_true]
  rw [if_neg (by rw [List.length_map]; omega), if_pos (okB_nil _)]
  congr 2
  apply List.ext_getElem
  · rw [recW_length]; simp
  · intro i k1 k2
    rw [recW_length, List.length_map] at k1
    have := h5 i k1
    unfold recW
    simp [k1, padW]
    simpa using this

theorem planL_len : (planL m).length = 2 * m.length + 2 := by
  unfold planL
  rw [List.length_append, List.length_cons, List.length_append, List.length_map]
  simp [logL]
  omega
theorem logL_len : (logL m).length = m.length := by simp [logL]
theorem take_low {k : Nat} (h : k ≤ m.length) : (planL m).take k = (logL m).take k := by
  unfold planL
  rw [List.take_append_of_le_length (by rw [logL_len]; exact h)]
theorem take_mid {j : Nat} (h : j ≤ m.length) : puts S ((planL m).take (m.length + 1 + j)) = puts (putS (puts S (logL m)) (1, padS (headL m))) ((m.map padW).take j) := by
  have e : (planL m).take (m.length + 1 + j) = logL m ++ ((1, padS (headL m)) :: (m.map padW).take j) := by
    unfold planL
    rw [List.take_append, List.take_of_length_le (by rw [logL_len]; omega), logL_len, show m.length + 1 + j - m.length = j + 1 by omega, List.take_succ_cons, List.take_append_of_le_length (by rw [List.length_map]; exact h)]
  rw [e]
  show List.foldl putS S _ = _
  rw [List.foldl_append]
  rfl
theorem puts_all : puts S (planL m) = puts (putS (puts S (logL m)) (1, padS (headL m))) (m.map padW ++ [(1, padS [])]) := by
  unfold planL
  show List.foldl putS S _ = _
  rw [List.foldl_append]
  rfl
theorem slice_D : ((planL m).take (2 * m.length + 1)).drop (m.length + 1) = m.map padW := by
  unfold planL
  rw [List.take_append, List.take_of_length_le (by rw [logL_len]; omega), logL_len, show 2 * m.length + 1 - m.length = m.length + 1 by omega, List.take_succ_cons, List.take_append_of_le_length (by rw [List.length_map]; omega), List.take_of_length_le (by rw [List.length_map]; omega)]
  rw [List.drop_append, List.drop_eq_nil_of_le (by rw [logL_len]; omega), logL_len, show m.length + 1 - m.length = 1 by omega]
  rfl
theorem Txn.beg (h : Txn S m) {k : Nat} (hk : k ≤ m.length) : Don S S (puts S ((planL m).take k)) := by
  rw [take_low hk]
  have h16 := h.high
  have hlow : ∀ i : Nat, (i < 2 ∨ 18 ≤ i) → ∀ w ∈ (logL m).take k, 0 ≤ w.1 ∧ w.1 ≠ i := fun i hi w hw => by
    have hw := List.mem_of_mem_take hw
    unfold logL at hw
    obtain ⟨j, hj, rfl⟩ := List.mem_map.1 hw
    rw [List.mem_range] at hj
    exact ⟨by show (0 : Int) ≤ 2 + (j : Int); omega, by show (2 + (j : Int)) ≠ i; omega⟩
  exact ⟨puts_length .., RightP_puts _ _ h.vol.1 fun w hw => h.okV _ rfl w (List.mem_of_mem_take hw), puts_low _ _ (hlow 0 (by omega)), by rw [puts_low _ _ (hlow 1 (by omega)), h.clean], fun i hi => puts_low _ _ (hlow i (by omega))⟩
theorem Txn.mid (h : Txn S m) {j : Nat} (hj : j ≤ m.length) : Rdy S m (puts S ((planL m).take (m.length + 1 + j))) := by
  rw [take_mid hj]
  exact h.rdy0.step h j
theorem Txn.all (h : Txn S m) : Don S (puts S (m.map padW)) (puts S (planL m)) := by
  rw [puts_all]
  exact h.rdy0.fin h
/-- What is outside the log is told by what was wanted. -/
theorem Don.same {W : List (List UInt8)} (h : Txn S m) (hd : Don S W T) (hW : W = S ∨ W = puts S (m.map padW)) : ∀ i : Nat, (i < 2 ∨ 17 < i) → T.getD i [] = W.getD i [] := fun i hi => by
  obtain ⟨h1, h2, h3, h4, h5⟩ := hd
  by_cases hi2 : 18 ≤ i
  · exact h5 i hi2
  have hW2 : ∀ i : Nat, i < 18 → W.getD i [] = S.getD i [] := fun i hi => by
    rcases hW with rfl | rfl
    · rfl
    · have := h.d_low (j := m.length) hi
      rw [List.take_of_length_le (by simp)] at this
      exact puts_low _ _ this
  rw [hW2 i (by omega)]
  have : i = 0 ∨ i = 1 := by omega
  rcases this with rfl | rfl
  · exact h3
  · rw [h4, h.clean]
end
theorem plan_txn {S : List (List UInt8)} {l : List (Int × List UInt8)} (h : (planS S [] l).2 = 0) (h1 : (planS S [] l).1.length ≠ 0) : Txn S (mergeL l) ∧ planS S [] l = (planL (mergeL l), 0) := by
  obtain ⟨hv, hc, hw, h16, e⟩ := planS_ok h
  have h0 : (mergeL l).length ≠ 0 := fun h0 => by rw [e, if_pos h0] at h1; exact h1 rfl
  rw [if_neg h0] at e
  exact ⟨⟨hv, hc.2.2, by omega, h16, fun w hw' => wrongI_ok hw w (mergeL_sub hw'), mergeL_asc l⟩, e⟩
end Go.Abs

namespace Go.Abs
open Go.Proofs
theorem wf_u8 {m : Int} (h : (Lit.int .u8 m).wf = true) : 0 ≤ m ∧ m ≤ 255 := by
  simpa [Lit.wf, IntKind.min, IntKind.max, IntKind.signed, IntKind.bits] using h
theorem u8_of {t : TypeId} {P : Program} {x : V} (hu : P.underlying t = some (.int .u8)) (h : ArgT P t x) : ∃ k : Nat, x = .int .u8 k ∧ k ≤ 255 := by
  obtain ⟨m, rfl, h1⟩ := int_of hu h
  obtain ⟨h2, h3⟩ := wf_u8 h1
  exact ⟨m.toNat, by rw [Int.toNat_of_nonneg h2], by omega⟩
end Go.Abs

namespace Go.Abs
open Go.Proofs
set_option maxRecDepth 100000
set_option linter.unusedSimpArgs false

def repA (s : List UInt8) (n m : Nat) : List V := List.replicate m (V.str s) ++ List.replicate (n - m) (V.str [])
theorem repA_length {s : List UInt8} {n m : Nat} (h : m ≤ n) : (repA s n m).length = n := by simp [repA]; omega
theorem repA_take {s : List UInt8} {n m : Nat} : (repA s n m).take m = List.replicate m (V.str s) := by simp [repA]
theorem repA_step {s : List UInt8} {n m k : Nat} (_h : m + k ≤ n) : List.replicate (m + k) (V.str s) ++ (repA s n m).drop (m + k) = repA s n (m + k) := by
  unfold repA
  rw [List.drop_append, List.length_replicate, List.drop_eq_nil_of_le (by simp), List.drop_replicate]
  simp only [List.nil_append, ← List.append_assoc, List.replicate_append_replicate]
  congr 2
  omega
theorem repA_full {s : List UInt8} {n : Nat} : repA s n n = List.replicate n (V.str s) := by simp [repA]
theorem repA_one {s : List UInt8} {n : Nat} (h : 1 ≤ n) : repA s n 1 = V.str s :: List.replicate (n - 1) (V.str []) := by simp [repA]

theorem wrap_u64' (n : Int) : IntKind.u64.wrap n = n % 18446744073709551616 := by simp [IntKind.wrap, IntKind.bits, IntKind.signed]
theorem mul_one_n (n : Nat) (hn : n ≤ 1000000) : mulX [.int .u64 1, .int .u64 n] = some (.tuple [.int .u64 0, .int .u64 n], []) := by
  have e0 : (1 : Int).toNat * (n : Int).toNat = n := by
    have : (1 : Int).toNat = 1 := rfl
    rw [this, Int.toNat_natCast, Nat.one_mul]
  simp only [mulX]
  rw [if_pos ⟨by omega, by omega, by omega, by omega⟩, e0, show n / 18446744073709551616 = 0 by omega, show n % 18446744073709551616 = n by omega]
  rfl
theorem call_ext_val {C : Ctx} {d : Bool} {f : FuncId} {xs ys : List V} {bs : List Nat} {H H' : Heap} {g : List V → Option (V × Heap)} {r : V} (h1 : C.extE f = none) (h2 : C.ext f = some g) (hs : sealL H xs = some (ys, bs)) (hg : g ys = some (r, H'))
    (hr : hasRo r = false) (hb : H'.any hasRoB = false) : callW C d (.fn f []) xs H = some (ren (shift H.length) r, H ++ H'.map (renB (shift H.length))) := by
  rw [callW_ext h1 h2, hs]
  simp only [hg, hr, hb]
  rfl
theorem mul_call (n : Nat) (hn : n ≤ 1000000) (d : Bool) (H : Heap) : callW DC d (.fn 55 []) [.int .u64 1, .int .u64 n] H = some (.tuple [.int .u64 0, .int .u64 n], H) := by
  have h := call_ext_val (C := DC) (d := d) (f := 55) (H := H) (g := mulX) rfl rfl (xs := [.int .u64 1, .int .u64 n]) rfl (mul_one_n n hn) rfl rfl
  rw [h, List.map_nil, List.append_nil]
  rfl
theorem Repeat_eq (s : List UInt8) (n : Nat) (h1 : 1 ≤ n) (hn : n ≤ 1000000) : bodyW DC 52 [.sl [.str s], .int .i64 n] [] = some (.own 0 n 0 n, [.dat true 1 (List.replicate n (.str s))]) := by
  have e1 : ¬ ((n : Int) < 0) := by omega
  have e2 : IntKind.u64.wrap (n : Int) = n := by
    rw [wrap_u64']; omega
  have e3 := mul_call n hn
  have e6 : ¬ ((9223372036854775807 : Int) < n) := by omega
  have e7 : IntKind.i64.wrap (n : Int) = n := wrap_id (by omega) (by omega)
  have e8 : IntKind.u64.wrap 1 = 1 := by rw [wrap_u64']; omega
  have r1 : n * 16 ≤ room := by unfold room; omega
  have r2 : n ≤ room := by unfold room; omega
  (refine gives_iff ?_; refine go_func Tryd.f52 rfl rfl (by simp [Tryd.f52]) ?_; dsimp only [codeL, Tryd.f52, scL, sopsL, guardL, dstAt, loopKey])
  (repeat (first
    | (apply is_ok; (case hw => simp [-call55, e1, e2, e3, e6, e7, e8, r1, r2, h1]); (case he => simp [-call55, e1, e2, e3, e6, e7, e8, r1, r2, h1]; exact is_rfl))
    | (apply op_no; (case hw => simp [-call55, e1, e2, e3, e6, e7, e8, r1, r2, h1]))
    | refine op_nil ?_ | refine next_normal ?_ | refine go_seq ?_ | refine go_region ?_ | refine go_skip ?_ | refine go_block ?_ | refine inb_normal ?_
    | (apply go_yes; (case hc => simp [-call55, e1, e2, e3, e6, e7, e8, r1, r2, h1])) | (apply go_no; (case hc => simp [-call55, e1, e2, e3, e6, e7, e8, r1, r2, h1]))
    | refine go_exit ?_ | refine next_exit ?_ | refine inb_here ?_ | refine inb_past (by decide) ?_ | refine go_ret ?_ | refine next_ret ?_ | refine inb_ret ?_))
  have hst : ∀ m, m ≤ n → (repA s n m).length = n := fun m hm => repA_length hm
  refine go_while (σ := Nat) (fun m => [(7, .own 0 n 0 n), (8, .int .i64 m)]) (fun m => [.dat true 1 (repA s n m)]) (fun m => 1 ≤ m ∧ m ≤ n) (fun m => n - m) 1 (by simp [repA_one h1, show ofVal (.string ⟨#[]⟩) = V.str [] from rfl]) ⟨Nat.le_refl _, h1⟩ fun m ⟨hm1, hm2⟩ => ?_
  have hl := repA_length (s := s) hm2
  by_cases hlt : m < n
  · have hne : ¬ (m = n) := by omega
    have ht := repA_take (s := s) (n := n) (m := m)
    have hmin : min m (n - m) ≤ m := by omega
    have hk : m + min m (n - m) ≤ n := by omega
    have hs := repA_step (s := s) (n := n) (m := m) (k := min m (n - m)) hk
    have hw : IntKind.i64.wrap ((m : Int) + ((min m (n - m) : Nat) : Int)) = ((m + min m (n - m) : Nat) : Int) := by rw [wrap_id (by omega) (by omega)]; omega
    have hi1 : m ≤ n := hm2
    obtain ⟨k, hX⟩ : ∃ k, min m (n - m) = k := ⟨_, rfl⟩
    rw [hX] at hmin hk hs hw
    (repeat (first
    | (apply is_ok; (case hw => simp [hlt, hl, hne, ht, hi1, hm2]); (case he => simp [hlt, hl, hne, ht, hi1, hm2]; exact is_rfl))
    | (apply op_no; (case hw => simp [hlt, hl, hne, ht, hi1, hm2]))
    | refine op_nil ?_ | refine next_normal ?_ | refine go_seq ?_ | refine go_region ?_ | refine go_skip ?_ | refine go_block ?_ | refine inb_normal ?_
    | (apply go_yes; (case hc => simp [hlt, hl, hne, ht, hi1, hm2])) | (apply go_no; (case hc => simp [hlt, hl, hne, ht, hi1, hm2]))
    | refine go_exit ?_ | refine next_exit ?_ | refine inb_here ?_ | refine inb_past (by decide) ?_ | refine go_ret ?_ | refine next_ret ?_ | refine inb_ret ?_))
    have hk1 : 1 ≤ k := by omega
    refine ⟨m + k, by simp [hw, hs, hX], by show n - (m + k) < n - m; omega, by show 1 ≤ m + k; omega, hk⟩
  · have hmn : m = n := by omega
    subst hmn
    (repeat (first
    | (apply is_ok; (case hw => simp [hl]); (case he => simp [hl]; exact is_rfl))
    | (apply op_no; (case hw => simp [hl]))
    | refine op_nil ?_ | refine next_normal ?_ | refine go_seq ?_ | refine go_region ?_ | refine go_skip ?_ | refine go_block ?_ | refine inb_normal ?_
    | (apply go_yes; (case hc => simp [hl])) | (apply go_no; (case hc => simp [hl]))
    | refine go_exit ?_ | refine next_exit ?_ | refine inb_here ?_ | refine inb_past (by decide) ?_ | refine go_ret ?_ | refine next_ret ?_ | refine inb_ret ?_))
    (apply ends_ok; (case h1 => simp; exact is_rfl); (case h2 => simp; exact is_rfl))
    simp [repA_full]
end Go.Abs

namespace Go.Abs
open Go.Proofs
set_option maxRecDepth 100000
set_option linter.unusedSimpArgs false

abbrev zs128 : List UInt8 := List.replicate 128 0

theorem blank_eq : repeatX [.str [0], .int .i64 128] = some (.str zs128, []) := by
  have h : Lib.repeatL [0] (128 : Int).toNat = zs128 := repeatL_zero 128
  simp only [repeatX]
  rw [if_pos ⟨by omega, by omega, by simp⟩, h]
theorem blank_call (d : Bool) (H : Heap) : callW DC d (.fn 37 []) [.str [0], .int .i64 128] H = some (.str zs128, H) := by
  have h := call_ext_val (C := DC) (d := d) (f := 37) (H := H) (g := repeatX) rfl rfl (xs := [.str [0], .int .i64 128]) rfl blank_eq rfl rfl
  rw [h, List.map_nil, List.append_nil]
  rfl
theorem New_eq (n : Nat) (h1 : 1 ≤ n) (h2 : n ≤ 256) : bodyW DC 34 [.int .i64 n] [] = some (.tuple [.agg [.own 0 n 0 n, .nils], .int .i64 0], [.dat true 1 (List.replicate n (.str zs128))]) := by
  have e1 : ¬ ((n : Int) < 1) := by omega
  have e2 : ¬ ((256 : Int) < n) := by omega
  have hR := Repeat_eq zs128 n h1 (by omega)
  have hz := blank_call
  generalize zs128 = z at hR hz
  (refine gives_iff ?_; refine go_func Tryd.f34 rfl rfl (by simp [Tryd.f34]) ?_; dsimp only [codeL, Tryd.f34, scL, sopsL, guardL, dstAt, loopKey])
  (repeat (first
    | (apply is_ok; (case hw => simp [-call37, e1, e2, hR, hz]); (case he => simp [-call37, e1, e2, hR, hz]; exact is_rfl))
    | (apply op_no; (case hw => simp [-call37, e1, e2, hR, hz]))
    | refine op_nil ?_ | refine next_normal ?_ | refine go_seq ?_ | refine go_region ?_ | refine go_skip ?_ | refine go_block ?_ | refine inb_normal ?_
    | (apply go_yes; (case hc => simp [-call37, e1, e2, hR, hz])) | (apply go_no; (case hc => simp [-call37, e1, e2, hR, hz]))
    | refine go_exit ?_ | refine next_exit ?_ | refine inb_here ?_ | refine inb_past (by decide) ?_ | refine go_ret ?_ | refine next_ret ?_ | refine inb_ret ?_))
  (apply ends_ok; (case h1 => simp; exact is_rfl); (case h2 => simp; exact is_rfl))
  simp

theorem New_no (n : Int) (h : ¬ (1 ≤ n ∧ n ≤ 256)) : bodyW DC 34 [.int .i64 n] [] = some (.tuple [.agg [.nils, .nils], .int .i64 2], []) := by
  by_cases h1 : n < 1
  · (refine gives_iff ?_; refine go_func Tryd.f34 rfl rfl (by simp [Tryd.f34]) ?_; dsimp only [codeL, Tryd.f34, scL, sopsL, guardL, dstAt, loopKey])
    (repeat (first
    | (apply is_ok; (case hw => simp [h1]); (case he => simp [h1]; exact is_rfl))
    | (apply op_no; (case hw => simp [h1]))
    | refine op_nil ?_ | refine next_normal ?_ | refine go_seq ?_ | refine go_region ?_ | refine go_skip ?_ | refine go_block ?_ | refine inb_normal ?_
    | (apply go_yes; (case hc => simp [h1])) | (apply go_no; (case hc => simp [h1]))
    | refine go_exit ?_ | refine next_exit ?_ | refine inb_here ?_ | refine inb_past (by decide) ?_ | refine go_ret ?_ | refine next_ret ?_ | refine inb_ret ?_))
    (apply ends_ok; (case h1 => simp; exact is_rfl); (case h2 => simp; exact is_rfl))
    simp
  · have e2 : ((256 : Int) < n) := by omega
    (refine gives_iff ?_; refine go_func Tryd.f34 rfl rfl (by simp [Tryd.f34]) ?_; dsimp only [codeL, Tryd.f34, scL, sopsL, guardL, dstAt, loopKey])
    (repeat (first
    | (apply is_ok; (case hw => simp [h1, e2]); (case he => simp [h1, e2]; exact is_rfl))
    | (apply op_no; (case hw => simp [h1, e2]))
    | refine op_nil ?_ | refine next_normal ?_ | refine go_seq ?_ | refine go_region ?_ | refine go_skip ?_ | refine go_block ?_ | refine inb_normal ?_
    | (apply go_yes; (case hc => simp [h1, e2])) | (apply go_no; (case hc => simp [h1, e2]))
    | refine go_exit ?_ | refine next_exit ?_ | refine inb_here ?_ | refine inb_past (by decide) ?_ | refine go_ret ?_ | refine next_ret ?_ | refine inb_ret ?_))
    (apply ends_ok; (case h1 => simp; exact is_rfl); (case h2 => simp; exact is_rfl))
    simp
end Go.Abs

namespace Go.Abs
open Go.Proofs
set_option maxRecDepth 100000
set_option linter.unusedSimpArgs false
set_option linter.unusedVariables false

def FitsP (n w : Int) : Prop := 32 ≤ n ∧ n ≤ 256 ∧ 0 ≤ w ∧ w ≤ n - 32
instance (n w : Int) : Decidable (FitsP n w) := by unfold FitsP; infer_instance
theorem fits_any (n w : Int) : bodyW DC 33 [.int .i64 n, .int .i64 w] [] = some (.bool (decide (FitsP n w)), []) := by
  unfold FitsP
  by_cases h1 : 32 ≤ n
  · by_cases h2 : n ≤ 256
    · exact fits_eq n w ⟨by omega, by omega⟩
    · (refine gives_iff ?_; refine go_func Tryd.f33 rfl rfl (by simp [Tryd.f33]) ?_; dsimp only [codeL, Tryd.f33, scL, sopsL, guardL, dstAt, loopKey])
      (repeat (first
    | (apply is_ok; (case hw => simp [h1, h2]); (case he => simp [h1, h2]; exact is_rfl))
    | (apply op_no; (case hw => simp [h1, h2]))
    | refine op_nil ?_ | refine next_normal ?_ | refine go_seq ?_ | refine go_region ?_ | refine go_skip ?_ | refine go_block ?_ | refine inb_normal ?_
    | (apply go_yes; (case hc => simp [h1, h2])) | (apply go_no; (case hc => simp [h1, h2]))
    | refine go_exit ?_ | refine next_exit ?_ | refine inb_here ?_ | refine inb_past (by decide) ?_ | refine go_ret ?_ | refine next_ret ?_ | refine inb_ret ?_))
      (apply ends_ok; (case h1 => simp; exact is_rfl); (case h2 => simp; exact is_rfl))
      simp [h1, h2]
  · (refine gives_iff ?_; refine go_func Tryd.f33 rfl rfl (by simp [Tryd.f33]) ?_; dsimp only [codeL, Tryd.f33, scL, sopsL, guardL, dstAt, loopKey])
    (repeat (first
    | (apply is_ok; (case hw => simp [h1]); (case he => simp [h1]; exact is_rfl))
    | (apply op_no; (case hw => simp [h1]))
    | refine op_nil ?_ | refine next_normal ?_ | refine go_seq ?_ | refine go_region ?_ | refine go_skip ?_ | refine go_block ?_ | refine inb_normal ?_
    | (apply go_yes; (case hc => simp [h1])) | (apply go_no; (case hc => simp [h1]))
    | refine go_exit ?_ | refine next_exit ?_ | refine inb_here ?_ | refine inb_past (by decide) ?_ | refine go_ret ?_ | refine next_ret ?_ | refine inb_ret ?_))
    (apply ends_ok; (case h1 => simp; exact is_rfl); (case h2 => simp; exact is_rfl))
    simp [h1]

theorem chk3_all : ((List.range 256).all fun x => (List.range 8).all fun r => decide (orI .u8 x (2 ^ r : Nat) = markN x r true)) = true := by kernel_rfl
theorem chk3_at {x r : Nat} (hx : x < 256) (hr : r < 8) : orI .u8 x (2 ^ r : Nat) = markN x r true := by
  have h := List.all_eq_true.1 (List.all_eq_true.1 chk3_all x (List.mem_range.2 hx)) r (List.mem_range.2 hr)
  simpa using h

/-- The bitmap of a new volume, behind the first sectors. -/
def usedS (n w : Nat) : Nat → List UInt8
  | 0 => List.replicate 128 0
  | i + 1 => if i < 27 ∨ n - w ≤ i then markS (usedS n w i) i true else usedS n w i
theorem usedS_length (n w : Nat) : ∀ i, (usedS n w i).length = 128
  | 0 => by simp [usedS]
  | i + 1 => by
    rw [usedS]
    split
    · rw [markS_length, usedS_length n w i]
    · exact usedS_length n w i
theorem usedS_bit (n w : Nat) : ∀ i, i ≤ 256 → ∀ s, bitB (usedS n w i) s = decide (s < i ∧ (s < 27 ∨ n - w ≤ s))
  | 0, _, s => by
    rw [usedS]
    unfold bitB
    have : ((List.replicate 128 (0 : UInt8)).getD (s / 8) 0) = 0 := by
      rw [List.getD_eq_getElem?_getD, List.getElem?_replicate]
      split <;> rfl
    rw [this]
    simp
  | i + 1, hi, s => by
    rw [usedS]
    have ih := usedS_bit n w i (by omega) s
    by_cases hc : i < 27 ∨ n - w ≤ i
    · rw [if_pos hc, bitB_mark _ _ _ _ (by rw [usedS_length]; omega)]
      by_cases hs : s = i
      · subst hs
        rw [if_pos rfl]
        exact (decide_eq_true ⟨Nat.lt_succ_self _, hc⟩).symm
      · rw [if_neg hs, ih, Bool.eq_iff_iff, decide_eq_true_iff, decide_eq_true_iff]
        omega
    · rw [if_neg hc, ih, Bool.eq_iff_iff, decide_eq_true_iff, decide_eq_true_iff]
      omega

def rootS : List UInt8 := List.replicate 32 0 ++ (put2 2 ++ put2 1)
def newW (n w : Nat) : List (Int × List UInt8) := [(0, superS n w), (18, usedS n w n), (19, rootS)]
def newS (n w : Nat) : List (List UInt8) := puts (List.replicate n zs128) (newW n w)

theorem superS_length (n w : Nat) : (superS n w).length = 128 := by
  unfold superS
  exact padS_length (by simp)
theorem newW_ok (n w : Nat) (h : 32 ≤ n) : OkAll (List.replicate n zs128).length [] (newW n w) := by
  rw [List.length_replicate]
  intro v hv
  unfold newW at hv
  simp only [List.mem_cons, List.not_mem_nil, or_false] at hv
  rcases hv with rfl | rfl | rfl
  · exact faultI_zero.2 ⟨⟨by show (0 : Int) ≤ 0; omega, by show (0 : Int) < n; omega⟩, by show (superS n w).length ≤ 128; rw [superS_length]; omega, by simp⟩
  · exact faultI_zero.2 ⟨⟨by show (0 : Int) ≤ 18; omega, by show (18 : Int) < n; omega⟩, by show (usedS n w n).length ≤ 128; rw [usedS_length]; omega, by simp⟩
  · exact faultI_zero.2 ⟨⟨by show (0 : Int) ≤ 19; omega, by show (19 : Int) < n; omega⟩, by show rootS.length ≤ 128; decide, by simp⟩
theorem new_props (n w : Nat) (h1 : 32 ≤ n) (h2 : n ≤ 256) (h3 : w ≤ n - 32) :
    (newS n w).length = n ∧ RightP (newS n w) [] ∧ (newS n w).getD 0 [] = superS n w ∧ (newS n w).getD 1 [] = zs128 ∧ (newS n w).getD 18 [] = usedS n w n ∧ (newS n w).getD 19 [] = padS rootS := by
  have hok := newW_ok n w h1
  have hnd : ((newW n w).map Prod.fst).Nodup := by unfold newW; simp
  have hR : RightP (List.replicate n zs128) [] := by
    refine ⟨by simp; omega, by simp; omega, fun s hs => ?_, by simp, by simp⟩
    rw [List.eq_of_mem_replicate hs]
    simp
  have hm := fun (i : Nat) v (hv : v ∈ newW n w) (hi : v.1 = i) => puts_mem (i := i) (newW n w) (List.replicate n zs128) (ok_rng hok) hnd hv hi
  have pad128 : ∀ s : List UInt8, s.length = 128 → padS s = s := fun s hs => by unfold padS; rw [hs]; simp
  refine ⟨by unfold newS; rw [puts_length]; simp, RightP_puts _ _ hR hok, ?_, ?_, ?_, ?_⟩
  · unfold newS
    rw [hm 0 (0, superS n w) (by simp [newW]) rfl, pad128 _ (superS_length n w)]
  · unfold newS
    rw [puts_low (i := 1) (newW n w) _ fun v hv => by
      unfold newW at hv
      simp only [List.mem_cons, List.not_mem_nil, or_false] at hv
      rcases hv with rfl | rfl | rfl
      · exact ⟨by show (0 : Int) ≤ 0; omega, by show (0 : Int) ≠ _; decide⟩
      · exact ⟨by show (0 : Int) ≤ 18; omega, by show (18 : Int) ≠ _; decide⟩
      · exact ⟨by show (0 : Int) ≤ 19; omega, by show (19 : Int) ≠ _; decide⟩]
    rw [getD_at (by simp; omega)]
    simp
  · unfold newS
    rw [hm 18 (18, usedS n w n) (by simp [newW]) rfl, pad128 _ (usedS_length n w n)]
  · unfold newS
    exact hm 19 (19, rootS) (by simp [newW]) rfl
theorem new_vol (n w : Nat) (h1 : 32 ≤ n) (h2 : n ≤ 256) (h3 : w ≤ n - 32) : VolP (newS n w) [] ∧ swapW (newS n w) = w ∧ CleanP (newS n w) [] := by
  obtain ⟨p1, p2, p3, p4, p5, p6⟩ := new_props n w h1 h2 h3
  have hs : swapW (newS n w) = w := by
    unfold swapW
    rw [p3]
    exact word_put2 (n := (w : Int)) (by omega) (by omega)
  have hv : VolP (newS n w) [] := ⟨p2, by omega, by simp, by rw [hs, p1]; omega, by rw [p3, hs, p1]⟩
  exact ⟨hv, hs, hv, by simp, p4⟩

theorem Format_no (n w : Int) (h : ¬ FitsP n w) : bodyW DC 17 [.int .i64 n, .int .i64 w] [] = some (.tuple [.agg [.nils, .nils], .int .i64 2], []) := by
  have hF := fits_any n w
  rw [decide_eq_false h] at hF
  (refine gives_iff ?_; refine go_func Tryd.f17 rfl rfl (by simp [Tryd.f17]) ?_; dsimp only [codeL, Tryd.f17, scL, sopsL, guardL, dstAt, loopKey])
  (repeat (first
    | (apply is_ok; (case hw => simp [hF]); (case he => simp [hF]; exact is_rfl))
    | (apply op_no; (case hw => simp [hF]))
    | refine op_nil ?_ | refine next_normal ?_ | refine go_seq ?_ | refine go_region ?_ | refine go_skip ?_ | refine go_block ?_ | refine inb_normal ?_
    | (apply go_yes; (case hc => simp [hF])) | (apply go_no; (case hc => simp [hF]))
    | refine go_exit ?_ | refine next_exit ?_ | refine inb_here ?_ | refine inb_past (by decide) ?_ | refine go_ret ?_ | refine next_ret ?_ | refine inb_ret ?_))
  (apply ends_ok; (case h1 => simp; exact is_rfl); (case h2 => simp; exact is_rfl))
  simp
theorem Format_ok (n w : Nat) (h1 : 32 ≤ n) (h2 : n ≤ 256) (h3 : w ≤ n - 32) :
    bodyW DC 17 [.int .i64 n, .int .i64 w] [] = some (.tuple [.agg [.own 0 n 0 n, .own 1 0 0 0], .int .i64 0], [.dat true 1 (strs (newS n w)), .dat true 1 []]) := by
  have hF := fits_any n w
  rw [decide_eq_true (show FitsP n w from ⟨by omega, by omega, by omega, by omega⟩)] at hF
  have hN := New_eq n (by omega) h2
  have hA := Apply_eq (List.replicate n zs128) [] (by simp; omega) (by simp) (newW n w) (by simp [newW]) (-1)
  rw [applyS_all [] _ _ 0 (newW_ok n w h1), List.length_replicate] at hA
  have hP1 := Put_eq 2 (by omega)
  have hP2 := Put_eq 1 (by omega)
  have hS := super_eq n w (by omega) (by omega)
  have hw0 : IntKind.i64.wrap ((n : Int) - w) = n - w := wrap_id (by omega) (by omega)
  have hz32 : repeatX [.str [0], .int .i64 32] = some (.str (List.replicate 32 0), []) := by
    have h : Lib.repeatL [0] (32 : Int).toNat = List.replicate 32 0 := repeatL_zero 32
    simp only [repeatX]
    rw [if_pos ⟨by omega, by omega, by simp⟩, h]
  have hz32c : ∀ d H, callW DC d (.fn 37 []) [.str [0], .int .i64 32] H = some (.str (List.replicate 32 0), H) := fun d H => by
    have h := call_ext_val (C := DC) (d := d) (f := 37) (H := H) (g := repeatX) rfl rfl (xs := [.str [0], .int .i64 32]) rfl hz32 rfl rfl
    rw [h, List.map_nil, List.append_nil]
    rfl
  (refine gives_iff ?_; refine go_func Tryd.f17 rfl rfl (by simp [Tryd.f17]) ?_; dsimp only [codeL, Tryd.f17, scL, sopsL, guardL, dstAt, loopKey])
  (repeat (first
    | (apply is_ok; (case hw => simp [hF, hN]); (case he => simp [hF, hN]; exact is_rfl))
    | (apply op_no; (case hw => simp [hF, hN]))
    | refine op_nil ?_ | refine next_normal ?_ | refine go_seq ?_ | refine go_region ?_ | refine go_skip ?_ | refine go_block ?_ | refine inb_normal ?_
    | (apply go_yes; (case hc => simp [hF, hN])) | (apply go_no; (case hc => simp [hF, hN]))
    | refine go_exit ?_ | refine next_exit ?_ | refine inb_here ?_ | refine inb_past (by decide) ?_ | refine go_ret ?_ | refine next_ret ?_ | refine inb_ret ?_))
  refine go_count n (fun i => [(0, .int .i64 n), (1, .int .i64 w), (4, .ptr 0 1 0 0), (6, .ptr 3 1 0 0), (8, .own 5 128 0 128), (26, .int .i64 n), (27, .int .i64 i)])
    (fun i => [.box (.agg [.own 1 0 0 0, .own 2 0 0 0]), .dat true 1 [], .dat true 1 [], .box (.agg [.own 4 n 0 n, .nils]), .dat true 1 (List.replicate n (.str zs128)), .dat true 1 (u8s (usedS n w i))]) (fun _ => True) (by simp [usedS, u8s]) trivial fun i hi _ => ?_
  have hw : IntKind.i64.wrap ((i : Int) + 1) = (i : Int) + 1 := wrap_id (by omega) (by omega)
  have hul := usedS_length n w i
  by_cases hlt : i < n
  · have hU : usedS n w (i + 1) = if i < 27 ∨ n - w ≤ i then markS (usedS n w i) i true else usedS n w i := rfl
    rw [hU]
    generalize usedS n w i = t at hul
    have f2 := and7 i (by omega)
    have f1 : (i : Int).fdiv 8 = ((i / 8 : Nat) : Int) := fdiv_nat i 8
    have fu : (u8s t).length = 128 := by simp [hul]
    have hq : i / 8 < t.length := by omega
    have hgo : (i : Int) < 27 ∨ (n : Int) - w ≤ i → markS t i true = if i < 27 ∨ n - w ≤ i then markS t i true else t := fun h => by rw [if_pos (by omega)]
    have hno : ¬ ((i : Int) < 27) → ¬ ((n : Int) - w ≤ i) → t = if i < 27 ∨ n - w ≤ i then markS t i true else t := fun h1 h2 => by rw [if_neg (by omega)]
    generalize (if i < 27 ∨ n - w ≤ i then markS t i true else t) = R at hgo hno
    unfold markS at hgo
    rw [getD_at hq] at hgo
    generalize hy : t[i / 8]'hq = y at hgo
    have g0 : (u8s t)[i / 8]? = some (.int .u8 y.toNat) := by
      unfold u8s
      rw [List.getElem?_map, List.getElem?_eq_getElem hq, hy]; rfl
    have g1 : ∀ h, (u8s t)[i / 8]'h = .int .u8 y.toNat := fun h => by
      rw [List.getElem?_eq_getElem h] at g0
      exact Option.some.inj g0
    have hy8 := y.toNat_lt
    have hr : i % 8 < 8 := Nat.mod_lt _ (by omega)
    have gq : i / 8 < 128 := by omega
    generalize i / 8 = q at f1 g0 g1 hq hgo gq
    generalize i % 8 = r at f2 hr hgo
    have c4 := chk3_at (x := y.toNat) (by omega) hr
    have c1 := (chk_at (x := y.toNat) (by omega) hr).1
    have f5 : min r 8 = r := by omega
    have f7 : IntKind.u8.wrap ((2 : Int) ^ r) = ((2 ^ r : Nat) : Int) := by
      have hp : 2 ^ r ≤ 128 := Nat.le_trans (Nat.pow_le_pow_right (by omega) (show r ≤ 7 by omega)) (by decide)
      have e : ((2 : Int) ^ r) = ((2 ^ r : Nat) : Int) := by rw [Int.natCast_pow]; rfl
      rw [e]
      generalize 2 ^ r = p at hp
      rw [wrap_u8_nat]
      omega
    have e2 := u8s_set t q (markN y.toNat r true) c1
    generalize 2 ^ r = p at c4 f7
    generalize markN y.toNat r true = v at c1 c4 e2 hgo
    by_cases h27 : (i : Int) < 27
    · rw [← hgo (Or.inl h27), e2]
      (repeat (first
    | (apply is_ok; (case hw => simp [-intOp, hlt, h27, intOp_or, f1, f2, f5, f7, g0, g1, fu, hul, gq, c4]); (case he => simp [-intOp, hlt, h27, intOp_or, f1, f2, f5, f7, g0, g1, fu, hul, gq, c4]; exact is_rfl))
    | (apply op_no; (case hw => simp [-intOp, hlt, h27, intOp_or, f1, f2, f5, f7, g0, g1, fu, hul, gq, c4]))
    | refine op_nil ?_ | refine next_normal ?_ | refine go_seq ?_ | refine go_region ?_ | refine go_skip ?_ | refine go_block ?_ | refine inb_normal ?_
    | (apply go_yes; (case hc => simp [-intOp, hlt, h27, intOp_or, f1, f2, f5, f7, g0, g1, fu, hul, gq, c4])) | (apply go_no; (case hc => simp [-intOp, hlt, h27, intOp_or, f1, f2, f5, f7, g0, g1, fu, hul, gq, c4]))
    | refine go_exit ?_ | refine next_exit ?_ | refine inb_here ?_ | refine inb_past (by decide) ?_ | refine go_ret ?_ | refine next_ret ?_ | refine inb_ret ?_))
      exact ⟨hlt, by simp [hw, hul], trivial⟩
    · by_cases hnw : (n : Int) - w ≤ i
      · rw [← hgo (Or.inr hnw), e2]
        (repeat (first
    | (apply is_ok; (case hw => simp [-intOp, hlt, h27, hnw, hw0, intOp_or, f1, f2, f5, f7, g0, g1, fu, hul, gq, c4]); (case he => simp [-intOp, hlt, h27, hnw, hw0, intOp_or, f1, f2, f5, f7, g0, g1, fu, hul, gq, c4]; exact is_rfl))
    | (apply op_no; (case hw => simp [-intOp, hlt, h27, hnw, hw0, intOp_or, f1, f2, f5, f7, g0, g1, fu, hul, gq, c4]))
    | refine op_nil ?_ | refine next_normal ?_ | refine go_seq ?_ | refine go_region ?_ | refine go_skip ?_ | refine go_block ?_ | refine inb_normal ?_
    | (apply go_yes; (case hc => simp [-intOp, hlt, h27, hnw, hw0, intOp_or, f1, f2, f5, f7, g0, g1, fu, hul, gq, c4])) | (apply go_no; (case hc => simp [-intOp, hlt, h27, hnw, hw0, intOp_or, f1, f2, f5, f7, g0, g1, fu, hul, gq, c4]))
    | refine go_exit ?_ | refine next_exit ?_ | refine inb_here ?_ | refine inb_past (by decide) ?_ | refine go_ret ?_ | refine next_ret ?_ | refine inb_ret ?_))
        exact ⟨hlt, by simp [hw, hul], trivial⟩
      · rw [← hno h27 hnw]
        (repeat (first
    | (apply is_ok; (case hw => simp [-intOp, hlt, h27, hnw, hw0, fu, hul]); (case he => simp [-intOp, hlt, h27, hnw, hw0, fu, hul]; exact is_rfl))
    | (apply op_no; (case hw => simp [-intOp, hlt, h27, hnw, hw0, fu, hul]))
    | refine op_nil ?_ | refine next_normal ?_ | refine go_seq ?_ | refine go_region ?_ | refine go_skip ?_ | refine go_block ?_ | refine inb_normal ?_
    | (apply go_yes; (case hc => simp [-intOp, hlt, h27, hnw, hw0, fu, hul])) | (apply go_no; (case hc => simp [-intOp, hlt, h27, hnw, hw0, fu, hul]))
    | refine go_exit ?_ | refine next_exit ?_ | refine inb_here ?_ | refine inb_past (by decide) ?_ | refine go_ret ?_ | refine next_ret ?_ | refine inb_ret ?_))
        exact ⟨hlt, by simp [hw, hul], trivial⟩
  · have hin : i = n := by omega
    subst hin
    have hA2 : bodyW DC 35 [.agg [.sl (List.replicate i (.str zs128)), .sl []], .sl [wrV (0, superS i w), wrV (18, usedS i w i), wrV (19, rootS)], .int .i64 (-1)] [] = some (.tuple [.agg [.own 0 i 0 i, .own 1 0 0 0], .int .i64 3, .int .i64 0], [.dat true 1 (strs (newS i w)), .dat true 1 []]) := by
      have e : strs (List.replicate i zs128) = List.replicate i (.str zs128) := by simp
      rw [← e]
      exact hA
    have hrt : List.replicate 32 0 ++ (put2 2 ++ put2 1) = rootS := rfl
    have hr1 : (put2 2 ++ put2 1).length ≤ room := by decide
    have hr2 : (List.replicate 32 (0 : UInt8)).length + (put2 2 ++ put2 1).length ≤ room := by decide
    generalize newS i w = NS at hA2
    generalize superS i w = su at hA2 hS
    generalize rootS = rt at hA2 hrt
    generalize usedS i w i = us at hA2 hul
    generalize hz : List.replicate 32 (0 : UInt8) = z32 at hz32c hrt hr2
    generalize put2 2 = p2 at hP1 hrt hr1 hr2
    generalize put2 1 = p1 at hP2 hrt hr1 hr2
    have hr3 : p2.length + p1.length ≤ room := by rw [List.length_append] at hr1; exact hr1
    have hr4 : z32.length + (p2.length + p1.length) ≤ room := by rw [List.length_append] at hr2; exact hr2
    subst hrt
    generalize zs128 = z128 at hA2
    (repeat (first
    | (apply is_ok; (case hw => simp [-call37, hlt, hP1, hP2, hS, hz32c, hA2, hr3, hr4, hul]); (case he => simp [-call37, hlt, hP1, hP2, hS, hz32c, hA2, hr3, hr4, hul]; exact is_rfl))
    | (apply op_no; (case hw => simp [-call37, hlt, hP1, hP2, hS, hz32c, hA2, hr3, hr4, hul]))
    | refine op_nil ?_ | refine next_normal ?_ | refine go_seq ?_ | refine go_region ?_ | refine go_skip ?_ | refine go_block ?_ | refine inb_normal ?_
    | (apply go_yes; (case hc => simp [-call37, hlt, hP1, hP2, hS, hz32c, hA2, hr3, hr4, hul])) | (apply go_no; (case hc => simp [-call37, hlt, hP1, hP2, hS, hz32c, hA2, hr3, hr4, hul]))
    | refine go_exit ?_ | refine next_exit ?_ | refine inb_here ?_ | refine inb_past (by decide) ?_ | refine go_ret ?_ | refine next_ret ?_ | refine inb_ret ?_))
    (apply ends_ok; (case h1 => simp; exact is_rfl); (case h2 => simp; exact is_rfl))
    simp
end Go.Abs

namespace Go.Abs
open Go.Proofs
set_option maxRecDepth 100000
set_option linter.unusedSimpArgs false
set_option linter.unusedVariables false

theorem VolumeNew_eq (n w : Int) : bodyW DC 6 [.int .i64 n, .int .i64 w] [] = some (.bool true, []) := by
  have hAl := alive37_eq
  by_cases hf : FitsP n w
  case neg =>
    have hF := Format_no n w hf
    by_cases c1 : 32 ≤ n
    · by_cases c2 : n ≤ 256
      · have e : IntKind.i64.wrap (n - 32) = n - 32 := wrap_id (by omega) (by omega)
        by_cases c3 : 0 ≤ w
        · have c4 : ¬ w ≤ n - 32 := fun h => hf ⟨c1, c2, c3, h⟩
          (refine gives_iff ?_; refine go_func Tryd.f6 rfl rfl (by simp [Tryd.f6]) ?_; dsimp only [codeL, Tryd.f6, scL, sopsL, guardL, dstAt, loopKey])
          (repeat (first
    | (apply is_ok; (case hw => simp [hF, c1, c2, c3, c4, e, hAl]); (case he => simp [hF, c1, c2, c3, c4, e, hAl]; exact is_rfl))
    | (apply op_no; (case hw => simp [hF, c1, c2, c3, c4, e, hAl]))
    | refine op_nil ?_ | refine next_normal ?_ | refine go_seq ?_ | refine go_region ?_ | refine go_skip ?_ | refine go_block ?_ | refine inb_normal ?_
    | (apply go_yes; (case hc => simp [hF, c1, c2, c3, c4, e, hAl])) | (apply go_no; (case hc => simp [hF, c1, c2, c3, c4, e, hAl]))
    | refine go_exit ?_ | refine next_exit ?_ | refine inb_here ?_ | refine inb_past (by decide) ?_ | refine go_ret ?_ | refine next_ret ?_ | refine inb_ret ?_))
          (apply ends_ok; (case h1 => simp; exact is_rfl); (case h2 => simp; exact is_rfl))
          simp
        · (refine gives_iff ?_; refine go_func Tryd.f6 rfl rfl (by simp [Tryd.f6]) ?_; dsimp only [codeL, Tryd.f6, scL, sopsL, guardL, dstAt, loopKey])
          (repeat (first
    | (apply is_ok; (case hw => simp [hF, c1, c2, c3, e, hAl]); (case he => simp [hF, c1, c2, c3, e, hAl]; exact is_rfl))
    | (apply op_no; (case hw => simp [hF, c1, c2, c3, e, hAl]))
    | refine op_nil ?_ | refine next_normal ?_ | refine go_seq ?_ | refine go_region ?_ | refine go_skip ?_ | refine go_block ?_ | refine inb_normal ?_
    | (apply go_yes; (case hc => simp [hF, c1, c2, c3, e, hAl])) | (apply go_no; (case hc => simp [hF, c1, c2, c3, e, hAl]))
    | refine go_exit ?_ | refine next_exit ?_ | refine inb_here ?_ | refine inb_past (by decide) ?_ | refine go_ret ?_ | refine next_ret ?_ | refine inb_ret ?_))
          (apply ends_ok; (case h1 => simp; exact is_rfl); (case h2 => simp; exact is_rfl))
          simp
      · (refine gives_iff ?_; refine go_func Tryd.f6 rfl rfl (by simp [Tryd.f6]) ?_; dsimp only [codeL, Tryd.f6, scL, sopsL, guardL, dstAt, loopKey])
        (repeat (first
    | (apply is_ok; (case hw => simp [hF, c1, c2, hAl]); (case he => simp [hF, c1, c2, hAl]; exact is_rfl))
    | (apply op_no; (case hw => simp [hF, c1, c2, hAl]))
    | refine op_nil ?_ | refine next_normal ?_ | refine go_seq ?_ | refine go_region ?_ | refine go_skip ?_ | refine go_block ?_ | refine inb_normal ?_
    | (apply go_yes; (case hc => simp [hF, c1, c2, hAl])) | (apply go_no; (case hc => simp [hF, c1, c2, hAl]))
    | refine go_exit ?_ | refine next_exit ?_ | refine inb_here ?_ | refine inb_past (by decide) ?_ | refine go_ret ?_ | refine next_ret ?_ | refine inb_ret ?_))
        (apply ends_ok; (case h1 => simp; exact is_rfl); (case h2 => simp; exact is_rfl))
        simp
    · (refine gives_iff ?_; refine go_func Tryd.f6 rfl rfl (by simp [Tryd.f6]) ?_; dsimp only [codeL, Tryd.f6, scL, sopsL, guardL, dstAt, loopKey])
      (repeat (first
    | (apply is_ok; (case hw => simp [hF, c1, hAl]); (case he => simp [hF, c1, hAl]; exact is_rfl))
    | (apply op_no; (case hw => simp [hF, c1, hAl]))
    | refine op_nil ?_ | refine next_normal ?_ | refine go_seq ?_ | refine go_region ?_ | refine go_skip ?_ | refine go_block ?_ | refine inb_normal ?_
    | (apply go_yes; (case hc => simp [hF, c1, hAl])) | (apply go_no; (case hc => simp [hF, c1, hAl]))
    | refine go_exit ?_ | refine next_exit ?_ | refine inb_here ?_ | refine inb_past (by decide) ?_ | refine go_ret ?_ | refine next_ret ?_ | refine inb_ret ?_))
      (apply ends_ok; (case h1 => simp; exact is_rfl); (case h2 => simp; exact is_rfl))
      simp
  obtain ⟨c1, c2, c3, c4⟩ := hf
  obtain ⟨n, rfl⟩ : ∃ k : Nat, n = k := ⟨n.toNat, by omega⟩
  obtain ⟨w, rfl⟩ : ∃ k : Nat, w = k := ⟨w.toNat, by omega⟩
  have h1 : 32 ≤ n := by omega
  have h2 : n ≤ 256 := by omega
  have h3 : w ≤ n - 32 := by omega
  have hF := Format_ok n w h1 h2 h3
  obtain ⟨p1, p2, p3, p4, p5, p6⟩ := new_props n w h1 h2 h3
  obtain ⟨hv, hs, hc⟩ := new_vol n w h1 h2 h3
  have hL := Layout_eq (newS n w) [] (by simp [maxLen])
  have hC := Clean_eq (newS n w) [] (by simp [maxLen])
  rw [layV_yes hv, p1, hs] at hL
  rw [decide_eq_true hc] at hC
  have hul := usedS_length n w n
  have hub := usedS_bit n w n h2
  have hrl : (padS rootS).length = 128 := by decide
  have hr32 : (padS rootS)[32]? = some 2 := by decide
  have hr32' : ∀ h, (padS rootS)[32]'h = 2 := fun h => by rw [List.getElem?_eq_getElem h] at hr32; exact Option.some.inj hr32
  have g18 : (newS n w)[18]? = some (usedS n w n) := by rw [← p5, getD_at (by omega), List.getElem?_eq_getElem]
  have g19 : (newS n w)[19]? = some (padS rootS) := by rw [← p6, getD_at (by omega), List.getElem?_eq_getElem]
  generalize newS n w = NS at hF hL hC p1 g18 g19
  have g18' : ∀ h, NS[18]'h = usedS n w n := fun h => by rw [List.getElem?_eq_getElem h] at g18; exact Option.some.inj g18
  have g19' : ∀ h, NS[19]'h = padS rootS := fun h => by rw [List.getElem?_eq_getElem h] at g19; exact Option.some.inj g19
  have l18 : 18 < n := by omega
  have l19 : 19 < n := by omega
  generalize padS rootS = rt at hrl hr32 hr32' g19 g19'
  generalize usedS n w n = us at hul hub g18 g18'
  have e1 : IntKind.i64.wrap ((n : Int) - 32) = n - 32 := wrap_id (by omega) (by omega)
  have e2 : IntKind.i64.wrap (27 + ((n : Int) - w - 27)) = n - w := by rw [wrap_id (by omega) (by omega)]; omega
  have e3 : IntKind.i64.wrap ((n : Int) - w + w) = n := by rw [wrap_id (by omega) (by omega)]; omega
  have e4 : IntKind.i64.wrap (n : Int) = n := wrap_id (by omega) (by omega)
  have e5 : ¬ ((rt.length : Int) = 0) := by omega
  have hL' : bodyW DC 18 [.agg [.sl (strs NS), .sl []]] [] = some (.tuple [.agg [.int .i64 27, .int .i64 (n - w - 27)], .agg [.int .i64 (n - w), .int .i64 w], .int .i64 0], []) := hL
  have hC' : bodyW DC 15 [.agg [.sl (strs NS), .sl []]] [] = some (.bool true, []) := hC
  (refine gives_iff ?_; refine go_func Tryd.f6 rfl rfl (by simp [Tryd.f6]) ?_; dsimp only [codeL, Tryd.f6, scL, sopsL, guardL, dstAt, loopKey])
  (repeat (first
    | (apply is_ok; (case hw => simp [hF, c1, c2, c3, c4, e1, e2, e3, e4, hL', hC', p1, l18, l19, g18, g19, g18', g19', hul, hrl]); (case he => simp [hF, c1, c2, c3, c4, e1, e2, e3, e4, hL', hC', p1, l18, l19, g18, g19, g18', g19', hul, hrl]; exact is_rfl))
    | (apply op_no; (case hw => simp [hF, c1, c2, c3, c4, e1, e2, e3, e4, hL', hC', p1, l18, l19, g18, g19, g18', g19', hul, hrl]))
    | refine op_nil ?_ | refine next_normal ?_ | refine go_seq ?_ | refine go_region ?_ | refine go_skip ?_ | refine go_block ?_ | refine inb_normal ?_
    | (apply go_yes; (case hc => simp [hF, c1, c2, c3, c4, e1, e2, e3, e4, hL', hC', p1, l18, l19, g18, g19, g18', g19', hul, hrl])) | (apply go_no; (case hc => simp [hF, c1, c2, c3, c4, e1, e2, e3, e4, hL', hC', p1, l18, l19, g18, g19, g18', g19', hul, hrl]))
    | refine go_exit ?_ | refine next_exit ?_ | refine inb_here ?_ | refine inb_past (by decide) ?_ | refine go_ret ?_ | refine next_ret ?_ | refine inb_ret ?_))
  refine go_count 1024 (fun i => [(0, .int .i64 n), (5, .ptr 0 1 0 0), (8, .ptr 3 1 0 0), (110, .int .i64 i)])
    (fun i => [.box (.agg [.own 1 n 0 n, .own 2 0 0 0]), .dat true 1 (strs NS), .dat true 1 [], .box (extV (n - w) w)]) (fun _ => True) (by simp [p1]) trivial fun i hi _ => ?_
  have hw : IntKind.i64.wrap ((i : Int) + 1) = (i : Int) + 1 := wrap_id (by omega) (by omega)
  by_cases hlt : i < 1024
  · have hltI : (i : Int) < 1024 := by omega
    have hq : i / 8 < us.length := by omega
    have hb := hub i
    unfold bitB at hb
    rw [getD_at hq] at hb
    have f1 : (i : Int).tdiv 8 = ((i / 8 : Nat) : Int) := by rw [Int.tdiv_eq_ediv_of_nonneg (by omega)]; rfl
    have f2 : (i : Int).tmod 8 = ((i % 8 : Nat) : Int) := by rw [Int.tmod_eq_emod_of_nonneg (by omega)]; rfl
    have f6 : IntKind.i64.wrap ((i / 8 : Nat) : Int) = ((i / 8 : Nat) : Int) := wrap_id (by omega) (by omega)
    generalize hx : us[i / 8]'hq = x at hb
    have g0 : us[i / 8]? = some x := by rw [List.getElem?_eq_getElem hq, hx]
    have hx8 := x.toNat_lt
    have hr : i % 8 < 8 := Nat.mod_lt _ (by omega)
    have hq2 : i / 8 < 128 := by omega
    generalize i / 8 = q at f1 g0 hq f6 hx hq2
    generalize i % 8 = r at f2 hr hb
    have f3 : (x.toNat : Int).fdiv (2 ^ r) = ((x.toNat / 2 ^ r : Nat) : Int) := by
      have := fdiv_nat x.toNat (2 ^ r)
      rwa [Int.natCast_pow] at this
    have hvv := div_pow_le x.toNat r
    generalize x.toNat / 2 ^ r = v at f3 hvv hb
    have f4 := and1_u8 v (by omega)
    have f5 : min r 8 = r := by omega
    by_cases hc : i < n ∧ (i < 27 ∨ n - w ≤ i)
    · rw [decide_eq_true hc, beq_iff_eq] at hb
      rw [hb] at f4
      by_cases h27 : (i : Int) < 27
      · (repeat (first
    | (apply is_ok; (case hw => simp [-intOp, hltI, hlt, h27, p1, l18, g18, g18', hul, hq2, intOp_quo8, intOp_rem8, f1, f2, f3, f4, f5, f6, g0, hx, hq]); (case he => simp [-intOp, hltI, hlt, h27, p1, l18, g18, g18', hul, hq2, intOp_quo8, intOp_rem8, f1, f2, f3, f4, f5, f6, g0, hx, hq]; exact is_rfl))
    | (apply op_no; (case hw => simp [-intOp, hltI, hlt, h27, p1, l18, g18, g18', hul, hq2, intOp_quo8, intOp_rem8, f1, f2, f3, f4, f5, f6, g0, hx, hq]))
    | refine op_nil ?_ | refine next_normal ?_ | refine go_seq ?_ | refine go_region ?_ | refine go_skip ?_ | refine go_block ?_ | refine inb_normal ?_
    | (apply go_yes; (case hc => simp [-intOp, hltI, hlt, h27, p1, l18, g18, g18', hul, hq2, intOp_quo8, intOp_rem8, f1, f2, f3, f4, f5, f6, g0, hx, hq])) | (apply go_no; (case hc => simp [-intOp, hltI, hlt, h27, p1, l18, g18, g18', hul, hq2, intOp_quo8, intOp_rem8, f1, f2, f3, f4, f5, f6, g0, hx, hq]))
    | refine go_exit ?_ | refine next_exit ?_ | refine inb_here ?_ | refine inb_past (by decide) ?_ | refine go_ret ?_ | refine next_ret ?_ | refine inb_ret ?_))
        exact ⟨hlt, by simp [hw, p1], trivial⟩
      · have hnw : (n : Int) - w ≤ i := by omega
        have hin : (i : Int) < n := by omega
        (repeat (first
    | (apply is_ok; (case hw => simp [-intOp, hltI, hlt, h27, hnw, hin, hc.1, p1, l18, g18, g18', hul, hq2, intOp_quo8, intOp_rem8, f1, f2, f3, f4, f5, f6, g0, hx, hq]); (case he => simp [-intOp, hltI, hlt, h27, hnw, hin, hc.1, p1, l18, g18, g18', hul, hq2, intOp_quo8, intOp_rem8, f1, f2, f3, f4, f5, f6, g0, hx, hq]; exact is_rfl))
    | (apply op_no; (case hw => simp [-intOp, hltI, hlt, h27, hnw, hin, hc.1, p1, l18, g18, g18', hul, hq2, intOp_quo8, intOp_rem8, f1, f2, f3, f4, f5, f6, g0, hx, hq]))
    | refine op_nil ?_ | refine next_normal ?_ | refine go_seq ?_ | refine go_region ?_ | refine go_skip ?_ | refine go_block ?_ | refine inb_normal ?_
    | (apply go_yes; (case hc => simp [-intOp, hltI, hlt, h27, hnw, hin, hc.1, p1, l18, g18, g18', hul, hq2, intOp_quo8, intOp_rem8, f1, f2, f3, f4, f5, f6, g0, hx, hq])) | (apply go_no; (case hc => simp [-intOp, hltI, hlt, h27, hnw, hin, hc.1, p1, l18, g18, g18', hul, hq2, intOp_quo8, intOp_rem8, f1, f2, f3, f4, f5, f6, g0, hx, hq]))
    | refine go_exit ?_ | refine next_exit ?_ | refine inb_here ?_ | refine inb_past (by decide) ?_ | refine go_ret ?_ | refine next_ret ?_ | refine inb_ret ?_))
        exact ⟨hlt, by simp [hw, p1], trivial⟩
    · rw [decide_eq_false hc] at hb
      have hb2 : v % 2 = 0 := by
        have : ¬ v % 2 = 1 := fun h => by rw [h] at hb; cases hb
        omega
      rw [hb2] at f4
      have h27 : ¬ (i : Int) < 27 := by omega
      by_cases hnw : (n : Int) - w ≤ i
      · have hin : ¬ (i : Int) < n := by omega
        have hin2 : ¬ i < n := by omega
        (repeat (first
    | (apply is_ok; (case hw => simp [-intOp, hltI, hlt, h27, hnw, hin, hin2, p1, l18, g18, g18', hul, hq2, intOp_quo8, intOp_rem8, f1, f2, f3, f4, f5, f6, g0, hx, hq]); (case he => simp [-intOp, hltI, hlt, h27, hnw, hin, hin2, p1, l18, g18, g18', hul, hq2, intOp_quo8, intOp_rem8, f1, f2, f3, f4, f5, f6, g0, hx, hq]; exact is_rfl))
    | (apply op_no; (case hw => simp [-intOp, hltI, hlt, h27, hnw, hin, hin2, p1, l18, g18, g18', hul, hq2, intOp_quo8, intOp_rem8, f1, f2, f3, f4, f5, f6, g0, hx, hq]))
    | refine op_nil ?_ | refine next_normal ?_ | refine go_seq ?_ | refine go_region ?_ | refine go_skip ?_ | refine go_block ?_ | refine inb_normal ?_
    | (apply go_yes; (case hc => simp [-intOp, hltI, hlt, h27, hnw, hin, hin2, p1, l18, g18, g18', hul, hq2, intOp_quo8, intOp_rem8, f1, f2, f3, f4, f5, f6, g0, hx, hq])) | (apply go_no; (case hc => simp [-intOp, hltI, hlt, h27, hnw, hin, hin2, p1, l18, g18, g18', hul, hq2, intOp_quo8, intOp_rem8, f1, f2, f3, f4, f5, f6, g0, hx, hq]))
    | refine go_exit ?_ | refine next_exit ?_ | refine inb_here ?_ | refine inb_past (by decide) ?_ | refine go_ret ?_ | refine next_ret ?_ | refine inb_ret ?_))
        exact ⟨hlt, by simp [hw, p1], trivial⟩
      · (repeat (first
    | (apply is_ok; (case hw => simp [-intOp, hltI, hlt, h27, hnw, p1, l18, g18, g18', hul, hq2, intOp_quo8, intOp_rem8, f1, f2, f3, f4, f5, f6, g0, hx, hq]); (case he => simp [-intOp, hltI, hlt, h27, hnw, p1, l18, g18, g18', hul, hq2, intOp_quo8, intOp_rem8, f1, f2, f3, f4, f5, f6, g0, hx, hq]; exact is_rfl))
    | (apply op_no; (case hw => simp [-intOp, hltI, hlt, h27, hnw, p1, l18, g18, g18', hul, hq2, intOp_quo8, intOp_rem8, f1, f2, f3, f4, f5, f6, g0, hx, hq]))
    | refine op_nil ?_ | refine next_normal ?_ | refine go_seq ?_ | refine go_region ?_ | refine go_skip ?_ | refine go_block ?_ | refine inb_normal ?_
    | (apply go_yes; (case hc => simp [-intOp, hltI, hlt, h27, hnw, p1, l18, g18, g18', hul, hq2, intOp_quo8, intOp_rem8, f1, f2, f3, f4, f5, f6, g0, hx, hq])) | (apply go_no; (case hc => simp [-intOp, hltI, hlt, h27, hnw, p1, l18, g18, g18', hul, hq2, intOp_quo8, intOp_rem8, f1, f2, f3, f4, f5, f6, g0, hx, hq]))
    | refine go_exit ?_ | refine next_exit ?_ | refine inb_here ?_ | refine inb_past (by decide) ?_ | refine go_ret ?_ | refine next_ret ?_ | refine inb_ret ?_))
        exact ⟨hlt, by simp [hw, p1], trivial⟩
  · have hin : i = 1024 := by omega
    subst hin
    have hr33 : 32 < rt.length := by omega
    (repeat (first
    | (apply is_ok; (case hw => simp [p1, l19, g19, g19', hrl, hr32, hr32', hr33, hAl]); (case he => simp [p1, l19, g19, g19', hrl, hr32, hr32', hr33, hAl]; exact is_rfl))
    | (apply op_no; (case hw => simp [p1, l19, g19, g19', hrl, hr32, hr32', hr33, hAl]))
    | refine op_nil ?_ | refine next_normal ?_ | refine go_seq ?_ | refine go_region ?_ | refine go_skip ?_ | refine go_block ?_ | refine inb_normal ?_
    | (apply go_yes; (case hc => simp [p1, l19, g19, g19', hrl, hr32, hr32', hr33, hAl])) | (apply go_no; (case hc => simp [p1, l19, g19, g19', hrl, hr32, hr32', hr33, hAl]))
    | refine go_exit ?_ | refine next_exit ?_ | refine inb_here ?_ | refine inb_past (by decide) ?_ | refine go_ret ?_ | refine next_ret ?_ | refine inb_ret ?_))
    (apply ends_ok; (case h1 => simp; exact is_rfl); (case h2 => simp; exact is_rfl))
    simp
end Go.Abs

