/- Proved here: what functions of the program compute, over the evaluator. No condition but those that each theorem states. -/
import Derived.Test.YtbnnaaadblpgiaaINS2
namespace Go.Proofs
open Go.RowKit Go.Shelf Go.Abs Go.Lib
set_option linter.unusedVariables false
set_option linter.unusedSimpArgs false

section
variable {base : Nat} {Z : Nat → Prop} {φ : Abs.Place} {H : Heap} {w : World}

theorem ints_flat (l : List Int) : (l.map fun n => V.int .i64 n).flatMap V.cells = l.map fun n => V.int .i64 n := by
  induction l with
  | nil => rfl
  | cons a l ih => rw [List.map_cons, List.flatMap_cons, ih]; rfl
theorem ints_each (l : List Int) : Each 1 (l.map fun n => V.int .i64 n) := by
  intro i e he
  obtain ⟨n, _, rfl⟩ := List.mem_map.1 (List.mem_of_getElem? he)
  rfl
theorem crel_of_ints {W : Nat → Prop} (l : List Int) : CRel pure0 W w (l.map fun n => V.int .i64 n) (i64s l) := by
  refine ⟨by simp, i64s_one l, fun i c v hc hv => ?_⟩
  simp only [i64s, List.getElem?_map, Option.map_eq_some_iff] at hc hv
  obtain ⟨a, ha, rfl⟩ := hc
  obtain ⟨b, hb, rfl⟩ := hv
  rw [ha] at hb
  cases hb
  exact .int _ _
theorem ints_of_crel {W : Nat → Prop} {l : List Int} {vs : List Value} (h : CRel pure0 W w (l.map fun n => V.int .i64 n) vs) : vs = i64s l := by
  apply List.ext_getElem?
  intro i
  have hl := h.1
  simp only [List.length_map] at hl
  by_cases hi : i < l.length
  · have hi2 : i < vs.length := by omega
    have := h.2.2 i (.int .i64 l[i]) vs[i] (by simp [hi]) (List.getElem?_eq_getElem hi2)
    rw [List.getElem?_eq_getElem hi2]
    simp only [i64s, List.getElem?_map, List.getElem?_eq_getElem hi, Option.map_some]
    generalize vs[i] = u at this ⊢
    cases this
    rfl
  · rw [List.getElem?_eq_none (by omega), List.getElem?_eq_none (by simp; omega)]

theorem in1_contract (args : List V) (H : Heap) (r : V) (H' : Heap) (hx : insAt1X args H = some (r, H')) (base : Nat) (Z : Nat → Prop) (φ : Abs.Place) (w : World) (cargs : Array Value) (I : Inv base Z φ H w) (ha : ArgsRel φ (Wr φ H Z) w args cargs) :
    Calls Try.prog 24 cargs w (fun e w' => ∃ v, e = .returned v ∧ Turns base Z φ H w H' r v w') := by
  unfold insAt1X at hx
  split at hx
  case h_2 => cases hx
  rename_i b tot off len i b2
  split at hx
  case h_2 => cases hx
  rename_i s es wr2 s2 nv hH1 hH2
  split at hx
  case h_2 => cases hx
  rename_i l hl
  obtain rfl := toInts_eq hl
  split at hx
  case isFalse => cases hx
  rename_i hc
  obtain ⟨rfl, rfl, rfl, rfl, ht, hi0, hi1, hne, hby, hrm⟩ := hc
  cases hx
  obtain ⟨c1, c2, c3, rfl, r1, r2, r3⟩ := len_three' ha rfl
  cases r2
  rw [List.length_map] at ht
  have h2 := own_whole I hH2 rfl r3
  rcases h2 with ⟨_, h0, _⟩ | ⟨vb, vc, vcs, vt, vfr, hvl, rfl, hvc, hvz, _, hvh, _, hnew, hvf, hvr⟩
  · simp at h0
  have hvv : vcs.toList.take 1 = i64s [nv] := ints_of_crel (l := [nv]) hvr
  have hvx : vcs[0]? = some (.int .i64 nv) := by
    have : (vcs.toList.take 1)[0]? = some (Value.int .i64 nv) := by rw [hvv]; rfl
    rw [List.getElem?_take] at this
    simpa using this
  obtain ⟨k, rfl⟩ : ∃ k : Nat, i = k := ⟨i.toNat, by omega⟩
  simp only [Int.toNat_natCast]
  have hk : k ≤ len := by omega
  have hlt : ((l.take k ++ nv :: l.drop k).map fun n => V.int .i64 n).length = len + 1 := by simp; omega
  have fin : ∀ (g cap : Nat) (w' : World) (bb : Nat), (φ b = .nil ∧ len = 0 ∧ w.heap.size ≤ bb ∨ φ b = .at bb 1 len) → InsDone1 w w' bb g (len + 1) cap (i64s (l.take k ++ nv :: l.drop k)) → (g = bb → φ b = .nil → w.heap.size ≤ g) →
      Turns base Z φ H w (H.set b (.dat true 1 ((l.take k ++ nv :: l.drop k).map fun n => V.int .i64 n))) (.own b (len + 1) 0 (len + 1)) (.slice (some ⟨g, 0, none⟩) (len + 1) cap) w' := fun g cap w' bb hp D hnilg => by
    obtain ⟨cs, e, fr, hh, hfr, hcs, htk⟩ := D.at_
    have hbb : ∀ d s' n', φ b = .at d s' n' → d = bb := fun d s' n' h => by
      rcases hp with ⟨hp, _⟩ | hp
      · rw [hp] at h; cases h
      · rw [hp] at h; cases h; rfl
    have hbase : base ≤ bb := by
      rcases hp with ⟨hp, _, hge⟩ | hp
      · exact Nat.le_trans I.hb hge
      · exact (I.rng _ _ _ _ hp).1
    have := e_redo (b := b) (s := 1) (tot := len) (cap := cap) (g := g) (es := l.map fun n => V.int .i64 n) (es' := (l.take k ++ nv :: l.drop k).map fun n => V.int .i64 n) (w' := w') I
      (by
        rcases hp with ⟨hp, _⟩ | hp
        · exact .inl hp
        · exact .inr ⟨bb, hp⟩) hH1 (by omega) (ints_each _) (by rw [hlt]; omega) D.size (fun d hd h => D.other d hd fun hdb => by
        subst hdb
        rcases hp with ⟨hp, _, hge⟩ | hp
        · omega
        · exact h _ _ hp) D.shape ⟨D.os, D.tape, D.output, D.size, fun c hc => by
          have := I.hb
          exact D.other c (by omega) (by omega)⟩
      (by
        rcases D.place with rfl | h
        · rcases hp with ⟨hp, _⟩ | hp
          · exact .inl (hnilg rfl hp)
          · exact .inr hp
        · exact .inl h) hh hfr (by rw [hlt]; exact D.fits) (by rw [Nat.mul_one]; exact hcs) D.max (by rw [hlt, Nat.mul_one, htk, ints_flat]; exact crel_of_ints _)
    rw [hlt] at this
    exact this
  have hm : 140737488355328 ≥ (len + 1) * 8 := Nat.le_trans hby (by unfold room; decide)
  rcases own_whole I hH1 (by rw [List.length_map]; exact ht) r1 with ⟨hnil', h0, rfl⟩ | ⟨c, cap, cs, t, fr, hl', rfl, hcap, hsz, hmx, hh, h01, hes, hfr, hcr⟩
  · -- the nil slice
    subst h0
    obtain rfl : l = [] := List.eq_nil_of_length_eq_zero ht
    obtain rfl : k = 0 := by omega
    refine Calls.mono (in1_nil vb vc nv w (by rw [cell_in hvh]; exact hvx)) fun z w' ⟨g, cap, he, hg, D⟩ => ⟨_, he, ?_⟩
    exact fin g cap w' g (.inl ⟨hnil', rfl, hg⟩) (by simpa [i64s] using D) (fun _ _ => hg)
  · have hcl : cs.toList.length = cs.size := Array.length_toList
    have hcv : c ≠ vb := by
      rintro rfl
      exact hne (I.inj _ _ _ _ _ _ _ hl' hvl)
    rw [ints_flat, Nat.mul_one, List.length_map, ht] at hcr
    rw [Nat.mul_one] at hsz
    refine Calls.mono (in1_some c len cap k vb vc nv l cs vcs t vt vfr w hk hcap hmx hm (Ne.symm hcv) fr hfr hh hsz (ints_of_crel hcr) ht hvh hvf hvx) fun z w' ⟨g, cap', he, D⟩ => ⟨_, he, ?_⟩
    exact fin g cap' w' c (.inr hl') D (fun h1 h2 => by rw [hl'] at h2; cases h2)
end
end Go.Proofs
