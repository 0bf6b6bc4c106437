/- Proved here: part 3 of a sound evaluator for the model: what it computes of a call, the call does. No condition. -/
import Derived.Test.YtfgikfagblhkiaaGreatDoorA2
namespace Go.Abs
open Go.RowKit
set_option linter.unusedVariables false
set_option linter.unusedSimpArgs false

variable {P : Program}

section
variable {base : Nat} {Z : Nat → Prop} {φ : Place} {H HF : Heap} {w : World} {lo hi : Nat} {x y : V} {cv cu : Value} {W : Nat → Prop}

theorem Le.last {H HF : Heap} {x : Blk} (hle : Le (H ++ [x]) HF) : ∃ y, HF[H.length]? = some y ∧ x.le y := hle.2 H.length x (by simp)

/-- What an operation leaves, for some places. -/
def Leaves (base : Nat) (Z : Nat → Prop) (φ : Place) (HF : Heap) (w : World) (lo hi : Nat) (x : V) (v : Value) (w' : World) : Prop := ∃ φ', POK base Z φ HF w lo hi x v φ' w'

theorem crel_cells {e : V} {v : Value} (h : VRel φ W w e v) (hs : e.storable = true) (j : Nat) (c : V) (hc : e.cells[j]? = some c) : ∃ u, v.cells[j]? = some u ∧ u.oneCell' = true ∧ VRel φ W w c u := by
  obtain ⟨h1, h2, h3⟩ := cells_rel h hs
  have hj : j < v.cells.size := by have := (List.getElem?_eq_some_iff.1 hc).1; omega
  exact ⟨v.cells[j], by simp [hj], h2 _ (by simp), h3 j c _ hc (by simp [hj])⟩

theorem p_makeSlice {t : TypeId} {l c : V} {cl cc : Value} {x : V} {H' : Heap} (I : Inv base Z φ HF w) (h1 : VRel φ W w l cl) (h2 : VRel φ W w c cc) (h : makeSliceV P t l c H = some (x, H')) (hle : Le H' HF) (hu : ∀ b, H.length ≤ b → b < H'.length → φ b = .unborn) :
    ∃ v w', (Instr.makeSlice t cl cc).run P w = .ok v w' ∧ Leaves base Z φ HF w H.length H'.length x v w' := by
  unfold makeSliceV at h
  split at h
  · rename_i z n m hz hn hm
    obtain ⟨e, hue, hie⟩ := elemT_some hz
    obtain ⟨kl, rfl⟩ := idx_ok h1 hn
    obtain ⟨kc, rfl⟩ := idx_ok h2 hm
    split at h
    · rename_i hc
      obtain ⟨hnm, hb, hmr, hs0⟩ := hc
      split at h
      · rename_i v hv
        split at h
        · rename_i hst
          obtain ⟨hst, hlen⟩ := hst
          cases h
          simp only [room] at hb hmr
          obtain ⟨y, hy, hyl⟩ := hle.last
          cases y <;> simp only [Blk.le] at hyl
          obtain ⟨rfl, rfl, _⟩ := hyl
          have hr := ofVal_ok (φ := pure0) (W := Wr φ HF Z) (w := w) v
          have hcs : v.cells.size = z.size := by rw [← hlen]; exact (cells_rel hr hst).1
          have hmb : (z.bytes : Int) * (m : Int) ≤ 281474976710656 := by
            have e1 : (z.bytes : Int) * (m : Int) = ((m * z.bytes : Nat) : Int) := by rw [Int.natCast_mul, Int.mul_comm]
            rw [e1]
            generalize m * z.bytes = q at hb
            omega
          have run := run_make (P := P) w t e z v hue hie hv kl kc n m (by omega) (by omega) hmb (by omega)
          refine ⟨_, _, run, ?_⟩
          have hel : ∀ (i : Nat) (e' : V), (List.replicate n (ofVal v))[i]? = some e' → e' = ofVal v ∧ i < n := fun i e' he => by
            rw [List.getElem?_replicate] at he
            split at he
            · cases he; exact ⟨rfl, by assumption⟩
            · cases he
          have born := dat_born (lo := H.length) (hi := (H ++ [Blk.dat true z.size (List.replicate n (ofVal v))]).length) (b := H.length) (len := n) (cap := m) (es := List.replicate n (ofVal v)) (s := z.size) (cs := madeCells v.cells (m * z.size)) (t := e) (fr := (0, 0)) I
            (hu _ (Nat.le_refl _) (by rw [List.length_append]; exact Nat.lt_succ_self _)) hy hs0 (by rw [List.length_replicate]; exact Nat.le_refl _) (by rw [size_madeCells]; exact Nat.le_refl _) (by rw [List.length_replicate]; exact hnm) (by (try unfold room at *); unfold maxLen; omega) (Frz.none _ _)
            (fun i e' he => by
              obtain ⟨rfl, hi⟩ := hel i e' he
              refine ⟨hlen, fun j c hc => ?_⟩
              obtain ⟨u, hu1, hu2, hu3⟩ := crel_cells hr hst j c hc
              refine ⟨u, ?_, hu2, hu3⟩
              have hj : j < z.size := by have := (List.getElem?_eq_some_iff.1 hc).1; omega
              have hlt : i * z.size + j < m * z.size := by
                have := Nat.mul_le_mul_right z.size (show i + 1 ≤ m by omega)
                rw [Nat.add_mul] at this
                omega
              have hmod : (i * z.size + j) % v.cells.size = j := by rw [hcs, Nat.mul_comm, Nat.mul_add_mod, Nat.mod_eq_of_lt hj]
              simp only [madeCells, Array.getElem?_map, Array.getElem?_range, if_pos hlt, Option.map_some, hmod]
              rw [getElem!_def, hu1])
            (Nat.le_refl _) (by rw [List.length_append]; exact Nat.lt_succ_self _)
          rw [List.length_replicate] at born
          exact ⟨_, born⟩
        · cases h
      · cases h
    · cases h
  · cases h

theorem p_makeMap {t : TypeId} (I : Inv base Z φ HF w) (hle : Le (H ++ [.map true [] []]) HF) (hu : φ H.length = .unborn) :
    ∃ v w', (Instr.makeMap t none).run P w = .ok v w' ∧ Leaves base Z φ HF w H.length (H.length + 1) (.map H.length) v w' := by
  obtain ⟨y, hy, hyl⟩ := hle.last
  cases y <;> simp only [Blk.le] at hyl
  rename_i wr ks vs
  obtain ⟨rfl, rfl, _⟩ := hyl
  refine ⟨.map (some w.heap.size), w.alloc (.map #[] 0), rfl, upd φ H.length (.at w.heap.size 0 0), ?_⟩
  have I' := I.alloc (x := .map wr [] []) (s := 0) (n := 0) (.map #[] 0) hu hy ⟨rfl, #[], 0, heap_alloc_at w _, rfl, rfl, by simp, by simp⟩
  refine ⟨I', .map _ _ rfl (by simp) (fun c s n h hn => ?_), fun h0 => .alloc _ I.hb hu, fun i hi => upd_ne _ _ (by omega)⟩
  rw [upd_same] at h
  cases h
  rfl

theorem p_box {t : TypeId} {e : V} {ce : Value} (I : Inv base Z φ HF w) (h : VRel φ (Wr φ HF Z) w e ce) (hst : e.storable = true) (hne : e.cells ≠ []) (hle : Le (H ++ [.box e]) HF) (hu : φ H.length = .unborn) :
    ∃ v w', (Instr.box t ce).run P w = .ok v w' ∧ Leaves base Z φ HF w H.length (H.length + 1) (.ptr H.length 1 0 0) v w' := by
  obtain ⟨y, hy, hyl⟩ := hle.last
  cases y <;> simp only [Blk.le] at hyl
  subst hyl
  obtain ⟨h1, h2, h3⟩ := cells_rel h hst
  have h0 : 0 < e.cells.length := by
    cases hc : e.cells with
    | nil => exact absurd hc hne
    | cons _ _ => simp
  exact ⟨.pointer (some ⟨w.heap.size, 0, none⟩), w.alloc (.cells ce.cells t), rfl, _, box_born I hu hy h0 h1 h2 h3 (Nat.le_refl _) (Nat.lt_succ_self _)⟩

/-- []byte(s) -/
theorem p_bytes {src dst e : TypeId} {s : List UInt8} (hs : P.underlying src = some .string) (hd : P.underlying dst = some (.slice e)) (he : P.underlying e = some (.int .u8)) (hlr : s.length ≤ room) (I : Inv base Z φ HF w) (hle : Le (H ++ [.dat true 1 (u8s s)]) HF) (hu : φ H.length = .unborn) :
    ∃ v w', (convert src dst (.string ⟨s.toArray⟩)).run P w = .ok v w' ∧ Leaves base Z φ HF w H.length (H.length + 1) (.own H.length s.length 0 s.length) v w' := by
  obtain ⟨y, hy, hyl⟩ := hle.last
  cases y <;> simp only [Blk.le] at hyl
  obtain ⟨rfl, rfl, _⟩ := hyl
  have hsz : (ByteArray.mk s.toArray).size = s.length := by show s.toArray.size = _; simp
  have run := run_bytes_of_string (P := P) w src dst e ⟨s.toArray⟩ hs hd he
  rw [hsz] at run
  have hcap : s.length ≤ grownCap w s.length 0 e := grownCap_ge ..
  have hmax : grownCap w s.length 0 e ≤ maxLen := grownCap_le_maxLen w s.length 0 e (by (try unfold room at *); unfold maxLen; omega)
  generalize grownCap w s.length 0 e = cap at run hcap hmax
  have hbs : (bytesRow ⟨s.toArray⟩ cap).size = cap := by simp [bytesRow, hsz]; omega
  rw [hbs] at run
  refine ⟨_, _, run, ?_⟩
  have born := dat_born (lo := H.length) (hi := H.length + 1) (b := H.length) (len := s.length) (cap := cap) (es := u8s s) (s := 1) (cs := bytesRow ⟨s.toArray⟩ cap) (t := e) (fr := (cap, cap + 1)) I.drew
    hu hy (by omega) (by simp [u8s]) (by rw [hbs]; omega) (by simpa [u8s] using hcap) hmax ⟨fun j hj => by rw [hbs] at hj; simp; omega, .inl rfl⟩
    (fun i e' he' => by
      simp only [u8s, List.getElem?_map] at he'
      cases hb : s[i]? with
      | none => simp [hb] at he'
      | some b =>
        simp [hb] at he'
        subst he'
        refine ⟨rfl, fun j c hc => ?_⟩
        cases j with
        | succ j => simp [V.cells] at hc
        | zero =>
          simp [V.cells] at hc
          subst hc
          have hi := (List.getElem?_eq_some_iff.1 hb).1
          refine ⟨.int .u8 b.toNat, ?_, rfl, .int _ _⟩
          simp only [bytesRow, Nat.mul_one, Nat.add_zero]
          rw [Array.getElem?_append_left (by simpa using hi)]
          simp [hb])
    (Nat.le_refl _) (Nat.lt_succ_self _)
  have hl : (u8s s).length = s.length := by simp [u8s]
  rw [hl] at born
  exact ⟨_, born.drewFirst⟩

theorem p_alloc_agg {t : TypeId} {cs : List V} {ss : List Nat} {H' : Heap} (hz : zeroV P t = some (.agg cs)) (hne : cs ≠ []) (I : Inv base Z φ HF w) (hH : (ownifyL ss cs H).2 = H') (hle : Le (H' ++ [.box (.agg (ownifyL ss cs H).1)]) HF) (hu : ∀ b, H.length ≤ b → b < H'.length + 1 → φ b = .unborn) :
    ∃ v w', (Instr.alloc t true (.tuple #[])).run P w = .ok v w' ∧ Leaves base Z φ HF w H.length (H'.length + 1) (.ptr H'.length 1 0 0) v w' := by
  obtain ⟨v, hv1, hv2, hv3⟩ := zeroV_ok (φ := φ) (W := Wr φ HF Z) (w := w) hz
  obtain ⟨vs, rfl, hcz⟩ := crel_zero (φ := φ) (W := Wr φ HF Z) (w := w) hv2
  obtain ⟨y, hy, hyl⟩ := hle.last
  cases y <;> simp only [Blk.le] at hyl
  subst hyl
  have hlen := ownifyL_len ss cs H
  rw [hH] at hlen
  obtain ⟨φ1, I1, s1, e1, r1⟩ := ownifyL_ok ss cs H φ vs.toList I hcz.1 hcz.2.2 (by rw [hH]; exact (Le.append ..).trans hle) (fun b hb hb' => hu b hb (by rw [hH] at hb'; omega))
  rw [hH] at e1
  have hcsz : cs.length = vs.size := by simpa using hcz.1
  have h0 : 0 < (ownifyL ss cs H).1.length := by
    rw [hlen.2]
    cases cs with
    | nil => exact absurd rfl hne
    | cons _ _ => simp
  have born := box_born (lo := H.length) (hi := H'.length + 1) (b := H'.length) (e := .agg (ownifyL ss cs H).1) (cs := vs) (t := t) I1 (by rw [e1 _ (by omega)]; exact hu _ (by omega) (by omega)) hy h0 (by simp [V.cells, hlen.2, hcsz]) hcz.2.1 (fun i c v hc hv => r1 i c v hc (by simpa using hv)) (by omega) (by omega)
  refine ⟨.pointer (some ⟨w.heap.size, 0, none⟩), w.alloc (.cells vs t), by simp [Instr.alloc, hv1]; rfl, _, born.inv, born.rel, fun h0 => (s1 h0).trans (born.step h0), fun b hb => (born.same b hb).trans (e1 b (by omega))⟩

theorem bldE_some {P : Program} {t e : TypeId} {cs : List V} (h : bldE P t cs = some e) : cs = [.nilx 0, .nils] := by
  unfold bldE at h
  split at h
  · rfl
  · cases h

theorem p_alloc_bld {t e : TypeId} (hz : zeroV P t = some (.agg [.nilx 0, .nils])) (I : Inv base Z φ HF w) (hle : Le (H ++ [.arr (some e) 1 [], .arr (some t) 2 [.agg [.nilx 0, .own H.length 0 0 0]]]) HF) (hu : ∀ b, H.length ≤ b → b < H.length + 2 → φ b = .unborn) :
    ∃ v w', (Instr.alloc t true (.tuple #[])).run P w = .ok v w' ∧ Leaves base Z φ HF w H.length (H.length + 2) (.ptr (H.length + 1) 1 0 0) v w' := by
  obtain ⟨v, hv1, hv2, hv3⟩ := zeroV_ok (φ := φ) (W := Wr φ HF Z) (w := w) hz
  obtain ⟨vs, rfl, hcz⟩ := crel_zero (φ := φ) (W := Wr φ HF Z) (w := w) hv2
  have hb0 : HF[H.length]? = some (.arr (some e) 1 []) := hle.arr (by simp)
  have hb1 : HF[H.length + 1]? = some (.arr (some t) 2 [.agg [.nilx 0, .own H.length 0 0 0]]) := hle.arr (by simp)
  have u0 := hu H.length (Nat.le_refl _) (by omega)
  have I1 := I.nilBorn' u0 (.inr ⟨_, _, hb0, Nat.zero_lt_one⟩)
  have hcsz : 2 = vs.size := by simpa using hcz.1
  have hE : Ext HF.length φ (Wr φ HF Z) w (upd φ H.length .nil) (Wr (upd φ H.length .nil) HF Z) w := Ext.nil u0
  have r1 : ∀ (i : Nat) (c : V) (v : Value), (V.agg [.nilx 0, .own H.length 0 0 0]).cells[i]? = some c → vs[i]? = some v → VRel (upd φ H.length .nil) (Wr (upd φ H.length .nil) HF Z) w c v := fun i c v hc hv => by
    have h0 := hcz.2.2
    match i, hc with
    | 0, hc =>
      simp [V.cells] at hc
      subst hc
      exact (h0 0 (.nilx 0) v rfl (by simpa using hv)).mono hE (fun _ => I.lt)
    | 1, hc =>
      simp [V.cells] at hc
      subst hc
      have := h0 1 .nils v rfl (by simpa using hv)
      cases this
      exact .own _ _ _ _ _ rfl (Nat.le_refl _) (by simp) (fun _ => ⟨rfl, rfl⟩) (fun c s n h => by rw [upd_same] at h; cases h)
    | i + 2, hc => simp [V.cells] at hc
  have born := abox_born (lo := H.length) (hi := H.length + 2) (b := H.length + 1) (e := .agg [.nilx 0, .own H.length 0 0 0]) (cs := vs) (t := t) I1 (by rw [upd_ne _ _ (by omega)]; exact hu _ (by omega) (by omega)) hb1 (by simp [V.cells]) (by simp [V.cells, ← hcsz]) hcz.2.1 r1 (by omega) (by omega)
  refine ⟨.pointer (some ⟨w.heap.size, 0, none⟩), w.alloc (.cells vs t), by simp [Instr.alloc, hv1]; rfl, _, born.inv, born.rel, fun h0 => (Step.nil u0).trans (born.step h0), fun b hb => (born.same b hb).trans (upd_ne _ _ (by omega))⟩

theorem p_alloc_one {t : TypeId} {z : V} {s : Nat} {H' : Heap} (hz : zeroV P t = some z) (hag : ∀ cs, z ≠ .agg cs) (hst : z.storable = true) (I : Inv base Z φ HF w) (hH : (ownify s z H).2 = H') (hle : Le (H' ++ [.box (ownify s z H).1]) HF) (hu : ∀ b, H.length ≤ b → b < H'.length + 1 → φ b = .unborn) :
    ∃ v w', (Instr.alloc t true (.tuple #[])).run P w = .ok v w' ∧ Leaves base Z φ HF w H.length (H'.length + 1) (.ptr H'.length 1 0 0) v w' := by
  obtain ⟨v, hv1, hv2, hv3⟩ := zeroV_ok (φ := φ) (W := Wr φ HF Z) (w := w) hz
  obtain ⟨y, hy, hyl⟩ := hle.last
  cases y <;> simp only [Blk.le] at hyl
  subst hyl
  have hlen := ownify_len s z H
  rw [hH] at hlen
  obtain ⟨φ1, h1⟩ := ownify_ok (H := H) (s := s) I hv3 (by rw [hH]; exact (Le.append ..).trans hle) (fun b hb hb' => hu b hb (by rw [hH] at hb'; omega))
  have e1 := h1.same
  rw [hH] at e1
  have hst' := ownify_storable s z H hst
  obtain ⟨c1, c2, c3⟩ := cells_rel h1.rel hst'
  have hcl : (ownify s z H).1.cells.length = 1 := by
    unfold ownify
    split
    · split <;> rfl
    · cases z <;> first | rfl | exact absurd rfl (hag _)
  have born := box_born (lo := H.length) (hi := H'.length + 1) (b := H'.length) (e := (ownify s z H).1) (cs := v.cells) (t := t) h1.inv (by rw [e1 _ (by omega)]; exact hu _ (by omega) (by omega)) hy (by omega) c1 c2 c3 (by omega) (by omega)
  refine ⟨.pointer (some ⟨w.heap.size, 0, none⟩), w.alloc (.cells v.cells t), by simp [Instr.alloc, hv1]; rfl, _, born.inv, born.rel, fun h0 => (h1.step h0).trans (born.step h0), fun b hb => (born.same b hb).trans (e1 b (by omega))⟩

end

end Go.Abs

namespace Go.Abs
open Go.RowKit
set_option linter.unusedVariables false
set_option linter.unusedSimpArgs false

variable {P : Program}

/-! ### Lists of elements and of cells -/
theorem flat_length {s : Nat} : ∀ (es : List V), (∀ (i : Nat) (e : V), es[i]? = some e → e.cells.length = s) → (es.flatMap V.cells).length = es.length * s
  | [], _ => by simp
  | e :: es, h => by
    have h0 : e.cells.length = s := h 0 e rfl
    rw [List.flatMap_cons, List.length_append, h0, flat_length es (fun i e he => h (i + 1) e (by simpa using he)), List.length_cons, Nat.add_mul]
    omega

theorem flat_get {s : Nat} : ∀ (es : List V), (∀ (i : Nat) (e : V), es[i]? = some e → e.cells.length = s) → ∀ (i j : Nat) (e c : V), es[i]? = some e → e.cells[j]? = some c → (es.flatMap V.cells)[i * s + j]? = some c
  | [], _, i, j, e, c, he, _ => by simp at he
  | d :: es, h, i, j, e, c, he, hc => by
    have h0 : d.cells.length = s := h 0 d rfl
    rw [List.flatMap_cons]
    cases i with
    | zero =>
      simp at he
      subst he
      have hj := (List.getElem?_eq_some_iff.1 hc).1
      rw [Nat.zero_mul, Nat.zero_add, List.getElem?_append_left hj]
      exact hc
    | succ i =>
      rw [List.getElem?_append_right (by rw [h0, Nat.add_mul]; omega), h0]
      have e1 : (i + 1) * s + j - s = i * s + j := by rw [Nat.add_mul]; omega
      rw [e1]
      exact flat_get es (fun i e he => h (i + 1) e (by simpa using he)) i j e c (by simpa using he) hc

theorem splice_step (l : List Value) (p n : Nat) (v : Value) (vs : List Value) (hp : p < l.length) :
    (l.set p v).take (p + 1) ++ vs ++ (l.set p v).drop (p + 1 + n) = l.take p ++ (v :: vs) ++ l.drop (p + (n + 1)) := by
  have h1 : (l.set p v).take (p + 1) = l.take p ++ [v] := by
    rw [List.set_eq_take_append_cons_drop, if_pos hp]
    have : (l.take p).length = p := by simp; omega
    rw [List.take_append, this]
    simp [List.take_take]
  have h2 : (l.set p v).drop (p + 1 + n) = l.drop (p + (n + 1)) := by
    rw [List.drop_set]
    rw [if_pos (by omega)]
    congr 1
    omega
  rw [h1, h2]
  simp

section
variable {base : Nat} {Z : Nat → Prop} {φ : Place} {H HF : Heap} {w : World} {lo hi : Nat} {x y : V} {cv cu : Value} {W : Nat → Prop}

theorem run_storeCells' {c : Nat} {t : TypeId} {fr : Nat × Nat} (k : Nat) : ∀ (vs : List Value) (i : Nat) (cs : Array Value) (w : World), w.heap[c]? = some (.cells cs t fr) → (∀ j, j < cs.size → ¬ (fr.1 ≤ j ∧ j < fr.2)) → (∀ v ∈ vs, v.oneCell' = true) → k + i + vs.length ≤ cs.size →
    (storeCells ⟨c, k, none⟩ vs i).run P w = .ok () (w.setRow c (cs.toList.take (k + i) ++ vs ++ cs.toList.drop (k + i + vs.length)).toArray)
  | [], i, cs, w, hh, _, _, _ => by
    have e1 : cs.toList.take (k + i) ++ [] ++ cs.toList.drop (k + i + ([] : List Value).length) = cs.toList := by simp
    rw [e1]
    have hlt : c < w.heap.size := (Array.getElem?_eq_some_iff.1 hh).1
    have hv : w.heap[c] = .cells cs t fr := (Array.getElem?_eq_some_iff.1 hh).2
    show Result.ok () w = _
    congr 1
    unfold World.setRow
    cases w with
    | mk heap tape drawn os output =>
      congr 1
      apply Array.ext
      · simp
      · intro q h1 h2
        simp only [Array.getElem_modify]
        split
        · rename_i hk; subst hk; simp at hv; simp [hv]
        · rfl
  | v :: vs, i, cs, w, hh, hfr, h1, hle => by
    simp only [List.length_cons] at hle
    have hlt : k + i < cs.size := by omega
    have hst : (store ((⟨c, k, none⟩ : Addr).add i) v).run P w = .ok () (w.setRow c (cs.setIfInBounds (k + i) v)) := by
      rw [add_at, run_store P w _ v _ (h1 v (by simp)), cell_at hh]
      simp [hlt, frozen_at hh hfr hlt, setCell_eq_setRow w c (k + i) cs t fr v hh]
    have ih := run_storeCells' k vs (i + 1) (cs.setIfInBounds (k + i) v) (w.setRow c (cs.setIfInBounds (k + i) v)) (setRow_heap w c cs _ t fr hh) (by simpa using hfr) (fun u hu => h1 u (by simp [hu])) (by simp; omega)
    simp only [storeCells, Sem.run_bind, hst, Result.andThen_ok, ih, setRow_setRow, Array.toList_setIfInBounds]
    have := splice_step cs.toList (k + i) vs.length v vs (by simpa using hlt)
    rw [← Nat.add_assoc k i 1, this, List.length_cons]

/-- One block of the heap turns, whatever it is. -/
theorem Inv.turn {φ' : Place} {w' : World} {H' : Heap} {b c' s' n' : Nat} {x' : Blk} (I : Inv base Z φ H w) (E : Ext H.length φ (Wr φ H Z) w φ' (Wr φ' H' Z) w')
    (hlen : H'.length = H.length) (hφ : ∀ i, i ≠ b → φ' i = φ i) (hb' : φ' b = .at c' s' n') (hc' : base ≤ c' ∧ c' < w'.heap.size) (hd : ∀ i s n, i ≠ b → φ i ≠ .at c' s n)
    (hH : ∀ (i : Nat) (x : Blk), i ≠ b → H[i]? = some x → ∃ y, H'[i]? = some y ∧ x.le y) (hx' : H'[b]? = some x') (hr : BlkRel φ' (Wr φ' H' Z) w' x' c' s' n')
    (hmem : ∀ i c s n, i ≠ b → φ i = .at c s n → w'.heap[c]? = w.heap[c]?) : Inv base Z φ' H' w' where
  hz := I.hz
  hb := Nat.le_trans I.hb E.size
  born i hi := by
    by_cases hib : i = b
    · subst hib; have := (List.getElem?_eq_some_iff.1 hx').1; omega
    · rw [hφ i hib]; exact I.born i (by omega)
  inj i j c s n s1 n1 h1 h2 := by
    by_cases hib : i = b <;> by_cases hjb : j = b
    · rw [hib, hjb]
    · subst hib; rw [hb'] at h1; cases h1; rw [hφ j hjb] at h2; exact absurd h2 (hd _ _ _ hjb)
    · subst hjb; rw [hb'] at h2; cases h2; rw [hφ i hib] at h1; exact absurd h1 (hd _ _ _ hib)
    · rw [hφ i hib] at h1; rw [hφ j hjb] at h2; exact I.inj _ _ _ _ _ _ _ h1 h2
  rng i c s n h1 := by
    by_cases hib : i = b
    · subst hib; rw [hb'] at h1; cases h1; exact hc'
    · rw [hφ i hib] at h1; have := I.rng _ _ _ _ h1; have := E.size; omega
  blk i c s n h1 := by
    by_cases hib : i = b
    · subst hib; rw [hb'] at h1; cases h1; exact ⟨x', hx', hr⟩
    · rw [hφ i hib] at h1
      obtain ⟨y, hy, hry⟩ := I.blk _ _ _ _ h1
      obtain ⟨z, hz, hle⟩ := hH i y hib hy
      exact ⟨z, hz, (hry.mono E (fun _ => I.lt) (hmem _ _ _ _ hib h1)).le hle⟩
  nil i h1 := by
    by_cases hib : i = b
    · subst hib; rw [hb'] at h1; cases h1
    · rw [hφ i hib] at h1
      rcases I.nil i h1 with ⟨wr, s, hx, hs⟩ | ⟨wr, s, hx, hs⟩
      · obtain ⟨z, hz, hle⟩ := hH i _ hib hx
        cases z <;> simp only [Blk.le] at hle
        obtain ⟨rfl, rfl, _⟩ := hle
        exact .inl ⟨_, _, hz, hs⟩
      · obtain ⟨z, hz, hle⟩ := hH i _ hib hx
        cases z <;> simp only [Blk.le] at hle
        obtain ⟨rfl, rfl, rfl⟩ := hle
        exact .inr ⟨_, _, hz, hs⟩

theorem Ext.write {h0 c : Nat} {cs cs' : Array Value} {t : TypeId} {fr : Nat × Nat} {φ' : Place} {H' : Heap} (hk : ∀ b, b < h0 → φ b ≠ .unborn → Keeps (φ b) (φ' b)) (hw : Wr φ H Z c) (hW : ∀ c, Wr φ' H' Z c → Wr φ H Z c) (hh : w.heap[c]? = some (.cells cs t fr)) (hs : cs'.size = cs.size) :
    Ext h0 φ (Wr φ H Z) w φ' (Wr φ' H' Z) (w.setRow c cs') where
  keeps := hk
  small c _ h := hW c h
  mem d hd hnw := setRow_other w c d cs' (by rintro rfl; exact hnw hw)
  shape d x hx := by
    by_cases hdc : d = c
    · subst hdc
      rw [shape_at hh] at hx
      cases hx
      rw [shape_at (setRow_heap w d cs cs' t fr hh), hs]
    · rw [shape_of_heap (setRow_other w c d cs' hdc)]; exact hx
  size := by simp

theorem below_setRow {c : Nat} {cs' : Array Value} (hc : base ≤ c) : Below base w (w.setRow c cs') :=
  ⟨rfl, rfl, rfl, by simp, fun k hk => setRow_other w c k cs' (by omega)⟩

/-- What an operation that writes to the heap leaves. -/
structure EOK (base : Nat) (Z : Nat → Prop) (φ : Place) (H : Heap) (w : World) (H' : Heap) (x : V) (cv : Value) (φ' : Place) (w' : World) : Prop where
  inv : Inv base Z φ' H' w'
  rel : VRel φ' (Wr φ' H' Z) w' x cv
  step : Step base H.length φ (Wr φ H Z) w φ' (Wr φ' H' Z) w'
  len : H.length ≤ H'.length

theorem POK.toE {φ' : Place} {w' : World} {H' : Heap} (I : Inv base Z φ H w) (hle : Le H H') (h : POK base Z φ H' w lo hi x cv φ' w') : EOK base Z φ H w H' x cv φ' w' :=
  ⟨h.inv, h.rel, (Step.frz (wr_le hle fun b => I.lt)).trans (h.step H.length), hle.1⟩

def Turns (base : Nat) (Z : Nat → Prop) (φ : Place) (H : Heap) (w : World) (H' : Heap) (x : V) (v : Value) (w' : World) : Prop := ∃ φ', EOK base Z φ H w H' x v φ' w'

theorem frz_rel {H' : Heap} (I : Inv base Z φ H w) (hle : Le H H') (h : VRel φ (Wr φ H Z) w x cv) : VRel φ (Wr φ H' Z) w x cv :=
  h.mono (h0 := H.length) (Ext.frz (wr_le hle fun b => I.lt)) (fun _ => I.lt)

theorem seal_cells : ∀ {x x' : V} {bs : List Nat}, sealV H x = some (x', bs) → x'.cells.length = x.cells.length ∧ x'.isAgg = x.isAgg ∧ (x.storable = true → x'.storable = true)
  | .agg cs, x', bs, h => by
    simp only [sealV] at h
    split at h
    · rename_i cs' bs' h1; cases h; exact ⟨(sealL_at h1).1, rfl, fun _ => rfl⟩
    · cases h
  | .own b tot off len, x', bs, h => by
    simp only [sealV] at h
    split at h
    · split at h
      · cases h; exact ⟨rfl, rfl, fun _ => rfl⟩
      · cases h
    · cases h
  | .map b, x', bs, h => by
    simp only [sealV] at h
    split at h
    · cases h; exact ⟨rfl, rfl, fun _ => rfl⟩
    · cases h
  | .tuple cs, x', bs, h => by
    simp only [sealV] at h
    split at h
    · cases h; exact ⟨rfl, rfl, fun h => by simp [V.storable] at h⟩
    · cases h
  | .ptr .., _, _, h | .rop _, _, _, h | .fn .., _, _, h | .meth .., _, _, h | .view .., _, _, h => by simp only [sealV] at h; cases h
  | .undef, _, _, h | .bool _, _, _, h | .int .., _, _, h | .str _, _, _, h | .nils, _, _, h | .nilm, _, _, h | .nilx _, _, _, h | .sl _, _, _, h | .mapr .., _, _, h => by simp only [sealV] at h; cases h; exact ⟨rfl, rfl, id⟩

theorem setSub_ok {e x e' : V} {off : Nat} (h : setSub e off x = some e') (hs : x.storable = true) :
    off + x.cells.length ≤ e.cells.length ∧ e'.cells = e.cells.take off ++ x.cells ++ e.cells.drop (off + x.cells.length) := by
  unfold setSub at h
  split at h
  · rename_i cs
    split at h
    · rename_i hc
      obtain ⟨rfl, h2, h3⟩ := hc
      cases h
      simp only [V.cells] at h3 ⊢
      exact ⟨by omega, by simp [h3]⟩
    · split at h
      · rename_i hc
        cases h
        exact ⟨hc, rfl⟩
      · cases h
  · rename_i hne
    split at h
    · rename_i hc
      obtain ⟨rfl, h2⟩ := hc
      cases h
      have h1 : x.cells = [x] := by cases x <;> first | rfl | simp [V.isAgg] at h2
      have h3 : e.cells = [e] := by cases e <;> first | rfl | exact absurd rfl (hne _)
      rw [h1, h3]
      simp
    · cases h

end

end Go.Abs

namespace Go.Abs
open Go.RowKit
set_option linter.unusedVariables false
set_option linter.unusedSimpArgs false

variable {P : Program}

section
variable {base : Nat} {Z : Nat → Prop} {φ : Place} {H HF : Heap} {w : World} {lo hi : Nat} {x y : V} {cv cu : Value} {W : Nat → Prop}

/-- The block of element rows with one element's cells spliced. -/
theorem Row.splice {c s i off : Nat} {es : List V} {e e' x : V} {vs : List Value} {cs : Array Value} {t : TypeId} {fr : Nat × Nat} {W' : Nat → Prop} {w' : World} {φ' : Place}
    (h0 : 0 < s) (hh : w'.heap[c]? = some (.cells (cs.toList.take (i * s + off) ++ vs ++ cs.toList.drop (i * s + off + vs.length)).toArray t fr)) (hsz : es.length * s ≤ cs.size) (hfr : Frz s cs.size fr)
    (hel : ∀ (i : Nat) (e : V), es[i]? = some e → e.cells.length = s ∧ ∀ (j : Nat) (x : V), e.cells[j]? = some x → ∃ v, cs[i * s + j]? = some v ∧ v.oneCell' = true ∧ VRel φ' W' w' x v)
    (he : es[i]? = some e) (hx : CRel φ' W' w' x.cells vs) (hoff : off + x.cells.length ≤ e.cells.length) (he' : e'.cells = e.cells.take off ++ x.cells ++ e.cells.drop (off + x.cells.length)) :
    Row φ' W' w' c s (es.set i e') := by
  have hi := (List.getElem?_eq_some_iff.1 he).1
  have hes := (hel i e he).1
  have hvl : x.cells.length = vs.length := hx.1
  have hmul : (i + 1) * s ≤ es.length * s := Nat.mul_le_mul_right _ hi
  rw [Nat.add_mul] at hmul
  have hsize : (cs.toList.take (i * s + off) ++ vs ++ cs.toList.drop (i * s + off + vs.length)).toArray.size = cs.size := by simp; omega
  refine ⟨h0, _, t, fr, hh, by rw [hsize]; simpa using hsz, hfr.size hsize, fun i' e1 he1 => ?_⟩
  rw [List.getElem?_set] at he1
  have other : ∀ k v, cs[k]? = some v → (k < i * s + off ∨ i * s + off + vs.length ≤ k) → (cs.toList.take (i * s + off) ++ vs ++ cs.toList.drop (i * s + off + vs.length)).toArray[k]? = some v := fun k v hk hor => by
    have hkl : k < cs.size := (Array.getElem?_eq_some_iff.1 hk).1
    have hk' : cs.toList[k]? = some v := by simpa using hk
    rw [List.getElem?_toArray, List.append_assoc, List.getElem?_append, List.getElem?_append]
    simp only [List.length_take, Array.length_toList, List.getElem?_take, List.getElem?_drop]
    have e0 : min (i * s + off) cs.size = i * s + off := by omega
    rw [e0]
    rcases hor with hor | hor
    · rw [if_pos hor, if_pos hor]; exact hk'
    · rw [if_neg (by omega), if_neg (by omega)]
      have : i * s + off + vs.length + (k - (i * s + off) - vs.length) = k := by omega
      rw [this]; exact hk'
  split at he1
  · rename_i hii
    subst hii
    cases he1
    refine ⟨by rw [he']; simp; omega, fun j d hd => ?_⟩
    rw [he', List.append_assoc, List.getElem?_append, List.getElem?_append] at hd
    simp only [List.length_take, List.getElem?_take, List.getElem?_drop] at hd
    have e0 : min off e.cells.length = off := by omega
    rw [e0] at hd
    by_cases h1 : j < off
    · rw [if_pos h1, if_pos h1] at hd
      obtain ⟨v, p1, p2, p3⟩ := (hel i e he).2 j d hd
      exact ⟨v, other _ _ p1 (.inl (by omega)), p2, p3⟩
    · rw [if_neg h1] at hd
      by_cases h2 : j - off < x.cells.length
      · rw [if_pos h2] at hd
        have hj' : j - off < vs.length := by omega
        refine ⟨vs[j - off], ?_, hx.2.1 _ (List.getElem_mem hj'), hx.2.2 _ _ _ hd (List.getElem?_eq_getElem hj')⟩
        rw [List.getElem?_toArray, List.append_assoc, List.getElem?_append_right (by simp; omega), List.getElem?_append_left (by simp; omega)]
        simp only [List.length_take, Array.length_toList]
        have e3 : min (i * s + off) cs.size = i * s + off := by omega
        rw [e3]
        have e4 : i * s + j - (i * s + off) = j - off := by omega
        rw [e4, List.getElem?_eq_getElem hj']
      · rw [if_neg h2] at hd
        have e5 : off + x.cells.length + (j - off - x.cells.length) = j := by omega
        rw [e5] at hd
        obtain ⟨v, p1, p2, p3⟩ := (hel i e he).2 j d hd
        exact ⟨v, other _ _ p1 (.inr (by omega)), p2, p3⟩
  · rename_i hii
    refine ⟨(hel i' e1 he1).1, fun j d hd => ?_⟩
    obtain ⟨v, p1, p2, p3⟩ := (hel i' e1 he1).2 j d hd
    refine ⟨v, other _ _ p1 ?_, p2, p3⟩
    have hj : j < s := by have := (List.getElem?_eq_some_iff.1 hd).1; have := (hel i' e1 he1).1; omega
    rcases Nat.lt_or_gt_of_ne hii with hlt | hlt
    · right
      have := Nat.mul_le_mul_right s (show i + 1 ≤ i' by omega)
      rw [Nat.add_mul] at this
      omega
    · left
      have := Nat.mul_le_mul_right s (show i' + 1 ≤ i by omega)
      rw [Nat.add_mul] at this
      omega

theorem run_storeVar' {c k : Nat} {cs : Array Value} {t ty : TypeId} {fr : Nat × Nat} {i : TypeInfo} {v : Value} (hi : P.info? ty = some i) (hs : v.cells.size = i.size) (hh : w.heap[c]? = some (.cells cs t fr)) (hfr : ∀ j, j < cs.size → ¬ (fr.1 ≤ j ∧ j < fr.2)) (h1 : ∀ u ∈ v.cells.toList, u.oneCell' = true) (hle : k + v.cells.size ≤ cs.size) :
    (storeVar ty ⟨c, k, none⟩ v).run P w = .ok () (w.setRow c (cs.toList.take k ++ v.cells.toList ++ cs.toList.drop (k + v.cells.toList.length)).toArray) := by
  have := run_storeCells' (P := P) (c := c) (t := t) (fr := fr) k v.cells.toList 0 cs w hh hfr h1 (by simpa using hle)
  simp only [Nat.add_zero] at this
  simp [storeVar, run_size hi, hs]
  simpa [hs] using this

theorem freeze_other : ∀ (bs : List Nat) (H : Heap) (b : Nat), b ∉ bs → (freeze H bs)[b]? = H[b]?
  | [], H, b, _ => rfl
  | a :: bs, H, b, h => by
    simp only [List.mem_cons, not_or] at h
    simp only [freeze]
    rw [freeze_other bs _ b h.2]
    split
    · rw [List.getElem?_set_ne (Ne.symm h.1)]
    · rw [List.getElem?_set_ne (Ne.symm h.1)]
    · rfl

/-- Sealed, towards where less may be written. -/
theorem seal_to {x' : V} {bs : List Nat} {W' : Nat → Prop} (I : Inv base Z φ H w) (h : VRel φ (Wr φ H Z) w x cv) (hs : sealV H x = some (x', bs)) (hW : ∀ c, W' c → Wr φ (freeze H bs) Z c) : VRel pure0 W' w x' cv := by
  have hle := freeze_le bs H
  have I' := I.le hle
  refine seal_ok I' hle hW (frz_rel I hle h) x' bs hs fun b hb c s n hl hw => ?_
  exact I'.shut (freeze_shut bs H (seal_notBox hs) b hb) hl (hW c hw)

/-- One block put in the heap's place. -/
theorem set_at {H : Heap} {b : Nat} {x : Blk} {i : Nat} {y : Blk} (h : (H.set b x)[i]? = some y) : (i ≠ b → H[i]? = some y) ∧ (i = b → y = x) := by
  rw [List.getElem?_set] at h
  by_cases hib : b = i
  · subst hib
    refine ⟨fun h => absurd rfl h, fun _ => ?_⟩
    simp at h
    exact h.2.symm
  · rw [if_neg hib] at h
    exact ⟨fun _ => h, fun e => absurd e.symm hib⟩

theorem wr_set {b : Nat} {x x0 : Blk} (h0 : H[b]? = some x0) (hw : x0.wr = true) (c : Nat) (h : Wr φ (H.set b x) Z c) : Wr φ H Z c := by
  rcases h with hz | ⟨i, s, n, y, h1, h2, h3⟩
  · exact .inl hz
  · by_cases hib : i = b
    · subst hib; exact .inr ⟨i, s, n, x0, h1, h0, hw⟩
    · exact .inr ⟨i, s, n, y, h1, (set_at h2).1 hib, h3⟩

theorem e_store {t : TypeId} {a x : V} {ca cx : Value} {H' : Heap} (I : Inv base Z φ H w) (ha : VRel φ (Wr φ H Z) w a ca) (hx : VRel φ (Wr φ H Z) w x cx) (h : storeV P t a x H = some H') :
    ∃ w', (Instr.storeAt t ca cx).run P w = .ok () w' ∧ Turns base Z φ H w H' (.tuple []) undef w' := by
  unfold storeV at h
  split at h
  case isFalse => cases h
  rename_i hc
  obtain ⟨hsz, hst⟩ := hc
  obtain ⟨ti, hti, htis⟩ : ∃ ti, P.info? t = some ti ∧ ti.size = x.cells.length := by
    cases hq : P.info? t with
    | none => simp [hq] at hsz
    | some ti => exact ⟨ti, rfl, by simpa [hq] using hsz⟩
  obtain ⟨c1, c2, c3⟩ := cells_rel hx hst
  cases a <;> simp only at h <;> try (cases h; done)
  rename_i b tot i off
  have fin : ∀ {w' : World} {φ' : Place} {H' : Heap}, Inv base Z φ' H' w' → Step base H.length φ (Wr φ H Z) w φ' (Wr φ' H' Z) w' → H.length ≤ H'.length → Turns base Z φ H w H' (.tuple []) undef w' := fun hI hS hL => ⟨_, hI, .tuple _ _ rfl (by simp), hS, hL⟩
  split at h
  · -- a box
    rename_i e hb
    split at h
    case isFalse => cases h
    rename_i hti0
    obtain ⟨rfl, rfl⟩ := hti0
    cases hss : setSub e off x with
    | none => simp [hss] at h
    | some e' =>
      simp [hss] at h
      subst h
      have hlt := (List.getElem?_eq_some_iff.1 hb).1
      obtain ⟨c, s, hl, hca⟩ := ptr_live I ha (by unfold live; rw [hb]; rfl)
      obtain ⟨y, hy, hr⟩ := I.blk b c s 1 hl
      rw [hb] at hy
      cases hy
      obtain ⟨_, hs0, cs, tt, fr, hh, hsz', hfr, hel⟩ := hr
      obtain ⟨hoff, he'⟩ := setSub_ok hss hst
      have hes := (hel 0 e rfl).1
      have hv : cx.cells.size = ti.size := by omega
      simp at hsz'
      have hca' : ca = .pointer (some ⟨c, off, none⟩) := by rw [hca]; simp
      have run := run_storeVar' (P := P) (k := off) hti hv hh hfr.1 c2 (by omega)
      have hwr : Wr φ H Z c := .inr ⟨b, s, 1, .box e, hl, hb, rfl⟩
      have hset : ∀ (i : Nat) (x : Blk), (H.set b (.box e'))[i]? = some x → (i ≠ b → H[i]? = some x) ∧ (i = b → x = .box e') := fun i x hx => by
        rw [List.getElem?_set] at hx
        split at hx
        · rename_i hii; subst hii; first | (cases hx; exact ⟨fun h => absurd rfl h, fun _ => rfl⟩) | (rw [if_pos hlt] at hx; cases hx; exact ⟨fun h => absurd rfl h, fun _ => rfl⟩)
        · rename_i hii; exact ⟨fun _ => hx, fun h => absurd h.symm hii⟩
      have hW : ∀ c, Wr φ (H.set b (.box e')) Z c → Wr φ H Z c := by
        rintro d (hz | ⟨i, s', n', x', h1, h2, h3⟩)
        · exact .inl hz
        · by_cases hib : i = b
          · subst hib; exact .inr ⟨i, s', n', _, h1, hb, rfl⟩
          · exact .inr ⟨i, s', n', x', h1, (hset i x' h2).1 hib, h3⟩
      have E := Ext.write (h0 := H.length) (φ' := φ) (H' := H.set b (.box e')) (cs' := (cs.toList.take off ++ cx.cells.toList ++ cs.toList.drop (off + cx.cells.toList.length)).toArray) (fun _ _ h => .refl h) hwr hW hh (by simp; omega)
      have hrow : Row φ (Wr φ (H.set b (.box e')) Z) (w.setRow c (cs.toList.take off ++ cx.cells.toList ++ cs.toList.drop (off + cx.cells.toList.length)).toArray) c s [e'] := by
        have hh' := setRow_heap w c cs (cs.toList.take off ++ cx.cells.toList ++ cs.toList.drop (off + cx.cells.toList.length)).toArray tt fr hh
        have := Row.splice (es := [e]) (i := 0) (off := off) (e := e) (e' := e') (x := x) (vs := cx.cells.toList) (cs := cs) (t := tt) (fr := fr) (c := c) (s := s) (φ' := φ) (W' := Wr φ (H.set b (.box e')) Z) hs0 (by simpa using hh') (by simpa using hsz') hfr
          (fun i e1 h1 => ⟨(hel i e1 h1).1, fun j d hd => by obtain ⟨v, p1, p2, p3⟩ := (hel i e1 h1).2 j d hd; exact ⟨v, p1, p2, p3.mono E (fun _ => I.lt)⟩⟩) rfl
          ⟨by simpa using c1.symm, c2, fun i c v hc hv => (c3 i c v hc (by simpa using hv)).mono E (fun _ => I.lt)⟩ hoff he'
        simpa using this
      refine ⟨_, by rw [hca']; simp [Instr.storeAt, Instr.sureAddr, run], fin (I.turn E (by simp) (fun _ _ => rfl) hl ⟨(I.rng _ _ _ _ hl).1, by simpa using (I.rng _ _ _ _ hl).2⟩ (fun i s' n' hib h1 => hib (I.inj _ _ _ _ _ _ _ h1 hl)) (fun i x' hib h1 => ⟨x', by rw [List.getElem?_set_ne (Ne.symm hib)]; exact h1, x'.le_refl⟩) (List.getElem?_set_self hlt) ⟨rfl, hrow⟩
        (fun i d s' n' hib h1 => setRow_other w c d _ (by rintro rfl; exact hib (I.inj _ _ _ _ _ _ _ h1 hl)))) ⟨E, below_setRow (I.rng _ _ _ _ hl).1⟩ (by simp)⟩
  · -- an element of a slice
    rename_i sz es hb
    split at h
    case isFalse => cases h
    rename_i htot
    split at h
    case h_2 => cases h
    rename_i e x' bs he hseal
    split at h
    case isTrue => cases h
    rename_i hnb
    have hnb' : b ∉ bs := by simpa using hnb
    cases hss : setSub e off x' with
    | none => simp [hss] at h
    | some e' =>
      simp [hss] at h
      subst h
      have hlt := (List.getElem?_eq_some_iff.1 hb).1
      have hb1 : (freeze H bs)[b]? = some (.dat true sz es) := by rw [freeze_other bs H b hnb']; exact hb
      obtain ⟨q1, q2, q3⟩ := seal_cells hseal
      obtain ⟨c, s, hl, hca⟩ := ptr_live I ha (by unfold live; rw [hb]; simpa using htot)
      obtain ⟨y, hy, hr⟩ := I.blk b c s tot hl
      rw [hb] at hy
      cases hy
      obtain ⟨_, rfl, hs0, cs, tt, fr, hh, hsz', hfr, hel⟩ := hr
      obtain ⟨hoff, he'⟩ := setSub_ok hss (q3 hst)
      have hes := (hel i e he).1
      have hi := (List.getElem?_eq_some_iff.1 he).1
      have hmul : (i + 1) * sz ≤ es.length * sz := Nat.mul_le_mul_right _ hi
      rw [Nat.add_mul] at hmul
      have hv : cx.cells.size = ti.size := by omega
      have run := run_storeVar' (P := P) (k := i * sz + off) hti hv hh hfr.1 c2 (by omega)
      have hwr : Wr φ H Z c := .inr ⟨b, sz, tot, _, hl, hb, rfl⟩
      have hW1 : ∀ c, Wr φ ((freeze H bs).set b (.dat true sz (es.set i e'))) Z c → Wr φ (freeze H bs) Z c := wr_set hb1 rfl
      have hW : ∀ c, Wr φ ((freeze H bs).set b (.dat true sz (es.set i e'))) Z c → Wr φ H Z c := fun c hc => wr_le (freeze_le bs H) (fun b => I.lt) c (hW1 c hc)
      have E := Ext.write (h0 := H.length) (φ' := φ) (H' := (freeze H bs).set b (.dat true sz (es.set i e'))) (cs' := (cs.toList.take (i * sz + off) ++ cx.cells.toList ++ cs.toList.drop (i * sz + off + cx.cells.toList.length)).toArray) (fun _ _ h => .refl h) hwr hW hh (by simp; omega)
      have hxr := seal_to I hx hseal hW1
      obtain ⟨d1, d2, d3⟩ := cells_rel hxr (q3 hst)
      have hrow : Row pure0 (Wr φ ((freeze H bs).set b (.dat true sz (es.set i e'))) Z) (w.setRow c (cs.toList.take (i * sz + off) ++ cx.cells.toList ++ cs.toList.drop (i * sz + off + cx.cells.toList.length)).toArray) c sz (es.set i e') := by
        have hh' := setRow_heap w c cs (cs.toList.take (i * sz + off) ++ cx.cells.toList ++ cs.toList.drop (i * sz + off + cx.cells.toList.length)).toArray tt fr hh
        have E0 := Ext.write (h0 := H.length) (φ := φ) (φ' := φ) (H := freeze H bs) (H' := (freeze H bs).set b (.dat true sz (es.set i e'))) (Z := Z) (cs' := (cs.toList.take (i * sz + off) ++ cx.cells.toList ++ cs.toList.drop (i * sz + off + cx.cells.toList.length)).toArray) (fun _ _ h => .refl h) (.inr ⟨b, sz, tot, _, hl, hb1, rfl⟩) hW1 hh (by simp; omega)
        have E1 : Ext 0 pure0 (Wr φ ((freeze H bs).set b (.dat true sz (es.set i e'))) Z) w pure0 (Wr φ ((freeze H bs).set b (.dat true sz (es.set i e'))) Z) (w.setRow c (cs.toList.take (i * sz + off) ++ cx.cells.toList ++ cs.toList.drop (i * sz + off + cx.cells.toList.length)).toArray) := by
          refine (Ext.write (h0 := 0) (H := (freeze H bs).set b (.dat true sz (es.set i e'))) (φ := φ) (φ' := φ) (fun _ h => absurd h (Nat.not_lt_zero _)) (.inr ⟨b, sz, tot, _, hl, List.getElem?_set_self (by rw [freeze_length]; exact hlt), rfl⟩) (fun _ h => h) hh (by simp; omega)).pure
        exact Row.splice (e := e) (x := x') (φ' := pure0) hs0 hh' hsz' hfr
          (fun i e1 h1 => ⟨(hel i e1 h1).1, fun j d hd => by obtain ⟨v, p1, p2, p3⟩ := (hel i e1 h1).2 j d hd; exact ⟨v, p1, p2, p3.mono0 E⟩⟩) he
          ⟨by simpa using d1.symm, d2, fun i c v hc hv => (d3 i c v hc (by simpa using hv)).mono E1 (fun _ h => absurd rfl h)⟩ hoff he'
      refine ⟨_, by rw [hca]; simp [Instr.storeAt, Instr.sureAddr, run], fin (I.turn E (by simp [freeze_length]) (fun _ _ => rfl) hl ⟨(I.rng _ _ _ _ hl).1, by simpa using (I.rng _ _ _ _ hl).2⟩ (fun i s' n' hib h1 => hib (I.inj _ _ _ _ _ _ _ h1 hl)) (fun i x' hib h1 => by
          obtain ⟨y, hy, hyl⟩ := (freeze_le bs H).2 i x' h1
          exact ⟨y, by rw [List.getElem?_set_ne (Ne.symm hib)]; exact hy, hyl⟩) (List.getElem?_set_self (by rw [freeze_length]; exact hlt)) ⟨by simpa using htot.symm, rfl, hrow⟩
        (fun i d s' n' hib h1 => setRow_other w c d _ (by rintro rfl; exact hib (I.inj _ _ _ _ _ _ _ h1 hl)))) ⟨E, below_setRow (I.rng _ _ _ _ hl).1⟩ (by simp [freeze_length])⟩
  · -- an element of any values
    rename_i ta sz es hb
    split at h
    case isFalse => cases h
    rename_i htot
    split at h
    case h_2 => cases h
    rename_i e he
    cases hss : setSub e off x with
    | none => simp [hss] at h
    | some e' =>
      simp [hss] at h
      subst h
      have hlt := (List.getElem?_eq_some_iff.1 hb).1
      obtain ⟨c, s, hl, hca⟩ := ptr_live I ha (by unfold live; rw [hb]; simpa using htot)
      obtain ⟨y, hy, hr⟩ := I.blk b c s tot hl
      rw [hb] at hy
      cases hy
      obtain ⟨_, rfl, ⟨hs0, cs, tt, fr, hh, hsz', hfr, hel⟩, hT⟩ := hr
      obtain ⟨hoff, he'⟩ := setSub_ok hss hst
      have hes := (hel i e he).1
      have hi := (List.getElem?_eq_some_iff.1 he).1
      have hmul : (i + 1) * sz ≤ es.length * sz := Nat.mul_le_mul_right _ hi
      rw [Nat.add_mul] at hmul
      have hv : cx.cells.size = ti.size := by omega
      have run := run_storeVar' (P := P) (k := i * sz + off) hti hv hh hfr.1 c2 (by omega)
      have hwr : Wr φ H Z c := .inr ⟨b, sz, tot, _, hl, hb, rfl⟩
      have hset : ∀ (q : Nat) (x : Blk), (H.set b (.arr ta sz (es.set i e')))[q]? = some x → (q ≠ b → H[q]? = some x) ∧ (q = b → x = .arr ta sz (es.set i e')) := fun q x hx => by
        rw [List.getElem?_set] at hx
        split at hx
        · rename_i hii; subst hii; first | (cases hx; exact ⟨fun h => absurd rfl h, fun _ => rfl⟩) | (rw [if_pos hlt] at hx; cases hx; exact ⟨fun h => absurd rfl h, fun _ => rfl⟩)
        · rename_i hii; exact ⟨fun _ => hx, fun h => absurd h.symm hii⟩
      have hW : ∀ c, Wr φ (H.set b (.arr ta sz (es.set i e'))) Z c → Wr φ H Z c := by
        rintro d (hz | ⟨q, s', n', x', h1, h2, h3⟩)
        · exact .inl hz
        · by_cases hib : q = b
          · subst hib; exact .inr ⟨q, s', n', _, h1, hb, rfl⟩
          · exact .inr ⟨q, s', n', x', h1, (hset q x' h2).1 hib, h3⟩
      have E := Ext.write (h0 := H.length) (φ' := φ) (H' := H.set b (.arr ta sz (es.set i e'))) (cs' := (cs.toList.take (i * sz + off) ++ cx.cells.toList ++ cs.toList.drop (i * sz + off + cx.cells.toList.length)).toArray) (fun _ _ h => .refl h) hwr hW hh (by simp; omega)
      have hrow : Row φ (Wr φ (H.set b (.arr ta sz (es.set i e'))) Z) (w.setRow c (cs.toList.take (i * sz + off) ++ cx.cells.toList ++ cs.toList.drop (i * sz + off + cx.cells.toList.length)).toArray) c sz (es.set i e') := by
        have hh' := setRow_heap w c cs (cs.toList.take (i * sz + off) ++ cx.cells.toList ++ cs.toList.drop (i * sz + off + cx.cells.toList.length)).toArray tt fr hh
        have := Row.splice (es := es) (i := i) (off := off) (e := e) (e' := e') (x := x) (vs := cx.cells.toList) (cs := cs) (t := tt) (fr := fr) (c := c) (s := sz) (φ' := φ) (W' := Wr φ (H.set b (.arr ta sz (es.set i e'))) Z) hs0 (by simpa using hh') hsz' hfr
          (fun q e1 h1 => ⟨(hel q e1 h1).1, fun j d hd => by obtain ⟨v, p1, p2, p3⟩ := (hel q e1 h1).2 j d hd; exact ⟨v, p1, p2, p3.mono E (fun _ => I.lt)⟩⟩) he
          ⟨by simpa using c1.symm, c2, fun i c v hc hv => (c3 i c v hc (by simpa using hv)).mono E (fun _ => I.lt)⟩ hoff he'
        simpa using this
      refine ⟨_, by rw [hca]; simp [Instr.storeAt, Instr.sureAddr, run], fin (I.turn E (by simp) (fun _ _ => rfl) hl ⟨(I.rng _ _ _ _ hl).1, by simpa using (I.rng _ _ _ _ hl).2⟩ (fun i s' n' hib h1 => hib (I.inj _ _ _ _ _ _ _ h1 hl)) (fun i x' hib h1 => ⟨x', by rw [List.getElem?_set_ne (Ne.symm hib)]; exact h1, x'.le_refl⟩) (List.getElem?_set_self hlt) ⟨by simpa using htot.symm, rfl, hrow, fun T hT' => by obtain ⟨⟨z, hz, hn⟩, hp⟩ := hT T hT'; rw [hh] at hz; cases hz; exact ⟨⟨_, setRow_heap w c cs _ _ _ hh, fun h => by have := hn h; simp; omega⟩, hp⟩⟩
        (fun i d s' n' hib h1 => setRow_other w c d _ (by rintro rfl; exact hib (I.inj _ _ _ _ _ _ _ h1 hl)))) ⟨E, below_setRow (I.rng _ _ _ _ hl).1⟩ (by simp)⟩
  · cases h

end

end Go.Abs

namespace Go.Abs
open Go.RowKit
set_option linter.unusedVariables false
set_option linter.unusedSimpArgs false

variable {P : Program}

section
variable {base : Nat} {Z : Nat → Prop} {φ : Place} {H HF : Heap} {w : World} {lo hi : Nat} {x y : V} {cv cu : Value} {W : Nat → Prop}

theorem elems_mem {es : List V} (I : Inv base Z φ H w) (hx : VRel φ (Wr φ H Z) w x cv) (he : elems H x = some es) :
    (es = [] ∧ cv = .slice none 0 0) ∨ ∃ a cap s, cv = .slice (some a) es.length cap ∧ ∀ (i : Nat) (e : V), es[i]? = some e → e.cells.length = s ∧ MemAt pure0 (Wr φ H Z) w (a.add (i * s)) e.cells := by
  cases x <;> simp only [elems] at he <;> try (cases he; done)
  case nils => cases he; cases hx; exact .inl ⟨rfl, rfl⟩
  case sl es' =>
    cases he
    rcases sl_mem hx with ⟨rfl, rfl⟩ | ⟨a, cap, s, rfl, _, _, hp, _, hel⟩
    · exact .inl ⟨rfl, rfl⟩
    · refine .inr ⟨a, cap, s, rfl, fun i e he => ⟨(hel i e he).1, fun j c hc => ?_⟩⟩
      obtain ⟨v, h1, h2, h3⟩ := (hel i e he).2 j c hc
      exact ⟨v, h1, h2, h3.toPure (pure_cells (pureL_at hp i e he) j c hc)⟩
  case own b tot off len =>
    split at he
    · rename_i wr sz es' hb
      split at he
      · rename_i ht
        cases he
        rw [take_all ht]
        obtain ⟨h0, hr⟩ := own_read I hb ht hx
        rcases hr with ⟨_, rfl, rfl, rfl, rfl⟩ | ⟨c, hl, hrow, a, cap, t', z', rfl, hsh, hcap, ha, _⟩
        · exact .inl ⟨by simp, rfl⟩
        · have hlen : ((es'.drop off).take len).length = len := by rw [List.length_take, List.length_drop]; omega
          refine .inr ⟨a, cap, sz, by rw [hlen], fun i e he => ?_⟩
          rw [List.getElem?_take] at he
          split at he
          · rename_i hi
            rw [List.getElem?_drop] at he
            have hm := hrow.mem he
            rw [ha (.inl (by omega))]
            refine ⟨(hrow.2.choose_spec.choose_spec.choose_spec.2.2.2 _ _ he).1, ?_⟩
            rw [add_at, ← Nat.add_mul]
            exact hm
          · cases he
      · cases he
    · cases he

/-- What append and copy read: its length, and the cells of the first elements. -/
theorem src_ok {new : List V} {size : Nat} (I : Inv base Z φ H w) (hx : VRel φ (Wr φ H Z) w x cv) (he : srcV H x = some new) (hs : ∀ (i : Nat) (e : V), new[i]? = some e → e.cells.length = size) (n : Nat) (hn : n ≤ new.length) :
    (∀ w', (Builtin.lenOf cv).run P w' = .ok new.length w') ∧ ∃ us : Array Value, (∀ w' : World, w'.heap = w.heap → (Builtin.firstCells size n cv).run P w' = .ok us w') ∧ CRel pure0 (Wr φ H Z) w ((new.take n).flatMap V.cells) us.toList := by
  have fin : ∀ {es : List V}, elems H x = some es → new = es → (∀ w', (Builtin.lenOf cv).run P w' = .ok new.length w') ∧ ∃ us : Array Value, (∀ w' : World, w'.heap = w.heap → (Builtin.firstCells size n cv).run P w' = .ok us w') ∧ CRel pure0 (Wr φ H Z) w ((new.take n).flatMap V.cells) us.toList := fun {es} hes hne => by
    subst hne
    rcases elems_mem I hx hes with ⟨rfl, rfl⟩ | ⟨a, cap, s, rfl, hel⟩
    · exact ⟨fun w' => rfl, #[], fun w' _ => by simp [Builtin.firstCells], by simp [CRel]⟩
    · refine ⟨fun w' => rfl, ?_⟩
      have hels : ∀ (i : Nat) (e : V), (new.take n)[i]? = some e → new[i]? = some e := fun i e h => by
        rw [List.getElem?_take] at h
        split at h
        · exact h
        · cases h
      have hfl : ((new.take n).flatMap V.cells).length = n * size := by
        rw [flat_length (s := size) _ (fun i e h => hs i e (hels i e h)), List.length_take, Nat.min_eq_left hn]
      have hm : MemAt pure0 (Wr φ H Z) w a ((new.take n).flatMap V.cells) := fun k c hk => by
        obtain ⟨i, j, e, h1, h2, h3⟩ := flat_at (s := size) _ (fun i e h => hs i e (hels i e h)) k c hk
        obtain ⟨v, p1, p2, p3⟩ := (hel i e (hels i e h2)).2 j c h3
        have hss : s = size := by rw [← (hel i e (hels i e h2)).1, hs i e (hels i e h2)]
        subst hss
        exact ⟨v, by rw [h1, ← add_add]; exact p1, p2, p3⟩
      obtain ⟨us, h1, h2, h3, h4⟩ := run_loadCells' (P := P) hm
      refine ⟨us, fun w' hw' => ?_, by simpa using h2, h3, fun i c v hc hv => h4 i c v hc (by simpa using hv)⟩
      have hm' : MemAt pure0 (fun _ => False) w' a ((new.take n).flatMap V.cells) := fun k c hk => by
        obtain ⟨v, p1, p2, p3⟩ := hm k c hk
        have hb : w'.heap[(a.add k).block]? = w.heap[(a.add k).block]? := by rw [hw']
        refine ⟨v, by rw [cell_kept hb]; exact p1, p2, ?_⟩
        exact p3.mono (h0 := 0) ⟨fun b hb => absurd hb (by omega), fun _ _ h => h.elim, fun c _ _ => by rw [hw'], fun c x hx => by rw [← hx]; simp [World.shape?, hw'], by rw [hw']; exact Nat.le_refl _⟩ (fun _ h => absurd rfl h)
      -- the very cells
      have hcells : ∀ j v, us.toList[j]? = some v → w'.cell? (a.add j) = some v := fun j v hj => by
        have hb : w'.heap[(a.add j).block]? = w.heap[(a.add j).block]? := by rw [hw']
        rw [cell_kept hb]
        have hj' : j < us.size := by have := (List.getElem?_eq_some_iff.1 hj).1; simpa using this
        obtain ⟨u, p1, _, _⟩ := hm j (((new.take n).flatMap V.cells)[j]'(by omega)) (List.getElem?_eq_getElem (by omega))
        have := run_loadCells (P := P) w a ((new.take n).flatMap V.cells).length (fun k => (w.cell? (a.add k)).getD undef) (fun k hk => by
          obtain ⟨u, q1, _, _⟩ := hm k _ (List.getElem?_eq_getElem hk)
          rw [q1]; rfl)
        rw [h1] at this
        injection this with this
        rw [this] at hj
        simp only [List.getElem?_map] at hj
        rw [List.getElem?_range (by omega)] at hj
        simp [p1] at hj
        rw [p1, hj]
      have hus : us.toList.length = n * size := by rw [← hfl, h2]; simp
      have := run_firstCells_some (P := P) w' size n a new.length cap us.toList hus hcells
      simpa using this
  cases x <;> first
    | exact fin he rfl
    | skip
  case str s =>
    simp only [srcV] at he
    cases he
    cases hx
    have hsz : (ByteArray.mk s.toArray).size = s.length := by show s.toArray.size = _; simp
    have hul : (u8s s).length = s.length := by simp [u8s]
    refine ⟨fun w' => by simp [Builtin.lenOf, hsz, hul], ((ByteArray.mk s.toArray).extract 0 n).data.map fun b => Value.int .u8 b.toNat, fun w' _ => rfl, ?_⟩
    have hd : ((ByteArray.mk s.toArray).extract 0 n).data.toList = s.take n := by
      rw [ByteArray.data_extract]
      simp
    have hfm : ((u8s s).take n).flatMap V.cells = (s.take n).map fun b => V.int .u8 b.toNat := by
      simp only [u8s, ← List.map_take]
      induction s.take n with
      | nil => rfl
      | cons b r ih => simp [List.flatMap_cons, V.cells, ih]
    rw [hfm]
    refine ⟨by simp [hd], fun v hv => ?_, fun i c v hc hv => ?_⟩
    · rw [Array.toList_map, hd, List.mem_map] at hv
      obtain ⟨b, _, rfl⟩ := hv
      rfl
    · simp only [Array.toList_map, hd, List.getElem?_map] at hv
      simp only [List.getElem?_map] at hc
      cases hb : (s.take n)[i]? with
      | none => simp [hb] at hc
      | some b =>
        simp [hb] at hc hv
        rw [← hc, ← hv]
        exact .int _ _

theorem run_append_room' {t u ty e : TypeId} {i : TypeInfo} {d : TypeDesc} {c sLen sCap m : Nat} {cs us : Array Value} {tt : TypeId} {fr : Nat × Nat} (ht : P.underlying t = some (.slice e)) (hi : P.info? e = some i) (hu : P.underlying u = some d) (hd : ∀ k, d ≠ .int k)
    (hh : w.heap[c]? = some (.cells cs tt fr)) (hfr : ∀ j, j < cs.size → ¬ (fr.1 ≤ j ∧ j < fr.2)) (hlen : (Builtin.lenOf cv).run P w = .ok m w) (hnew : (Builtin.firstCells i.size m cv).run P w = .ok us w) (h1 : ∀ v ∈ us.toList, v.oneCell' = true)
    (hroom : sLen + m ≤ sCap) (hfit : sLen * i.size + us.size ≤ cs.size) :
    (Builtin.append_ #[t, u] ty #[.slice (some ⟨c, 0, none⟩) sLen sCap, cv]).run P w = .ok (.slice (some ⟨c, 0, none⟩) (sLen + m) sCap) (w.setRow c (cs.toList.take (sLen * i.size) ++ us.toList ++ cs.toList.drop (sLen * i.size + us.toList.length)).toArray) := by
  have hst := run_storeCells' (P := P) (c := c) (t := tt) (fr := fr) (sLen * i.size) us.toList 0 cs w hh hfr h1 (by simpa using hfit)
  simp only [Nat.add_zero] at hst
  have hz : (match d with | .int _ => true | _ => false) = false := by cases d <;> first | rfl | exact absurd rfl (hd _)
  simp [Builtin.append_, run_underlying ht, run_underlying hu, sizeOf, typeInfo, hi, hlen, hroom, hnew, add_at, hz]
  simp at hst
  rw [hst]
  simp

theorem run_append_big {t u ty e : TypeId} {i : TypeInfo} {d : TypeDesc} {z : Value} {base' : Option Addr} {sLen sCap m : Nat} {olds us : Array Value} (ht : P.underlying t = some (.slice e)) (hi : P.info? e = some i) (hz : i.zero = some z) (hu : P.underlying u = some d) (hd : ∀ k, d ≠ .int k)
    (hlen : (Builtin.lenOf cv).run P w = .ok m w) (hold : (Builtin.firstCells i.size sLen (.slice base' sLen sCap)).run P w.drew = .ok olds w.drew) (hnew : (Builtin.firstCells i.size m cv).run P w.drew = .ok us w.drew)
    (hg : sCap < sLen + m) (h63 : sLen + m ≤ 1099511627776) (hfit : (sLen + m) * i.bytes ≤ 1099511627776) :
    (Builtin.append_ #[t, u] ty #[.slice base' sLen sCap, cv]).run P w = .ok (.slice (some ⟨w.heap.size, 0, none⟩) (sLen + m) (grownCap w (sLen + m) sCap e)) (w.drew.alloc (.cells (olds ++ us ++ Builtin.zeroCells z.cells (grownCap w (sLen + m) sCap e - (sLen + m))) e)) := by
  have hn : ¬ (sLen + m ≤ sCap) := by omega
  have h63' : ¬ (9223372036854775807 < ((sLen : Int) + (m : Int))) := by omega
  have h48 := growslice_fits (need := sLen + m) (old := sCap) (bytes := i.bytes) hg (by omega)
  have h48' : ¬ (281474976710656 < Builtin.nextslicecap (sLen + m) sCap * i.bytes) := by omega
  have hzz : (match d with | .int _ => true | _ => false) = false := by cases d <;> first | rfl | exact absurd rfl (hd _)
  simp [Builtin.append_, run_underlying ht, run_underlying hu, sizeOf, typeInfo, zeroValue, hi, hz, hlen, hn, h63', h48', Question.forced, hold, hnew, newRow, grownCap, hzz]

end

end Go.Abs

namespace Go.Abs
open Go.RowKit
set_option linter.unusedVariables false
set_option linter.unusedSimpArgs false

variable {P : Program}

/-- All elements have s cells. -/
def Each (s : Nat) (es : List V) : Prop := ∀ (i : Nat) (e : V), es[i]? = some e → e.cells.length = s

theorem Each.of_mem {s : Nat} {es : List V} (h : ∀ e ∈ es, e.cells.length = s) : Each s es := fun i e he => h e (List.mem_of_getElem? he)
theorem Each.mem {s : Nat} {es : List V} (h : Each s es) : ∀ e ∈ es, e.cells.length = s := fun e he => by
  obtain ⟨i, hi⟩ := List.getElem?_of_mem he
  exact h i e hi
theorem Each.append {s : Nat} {es fs : List V} (h : Each s es) (k : Each s fs) : Each s (es ++ fs) := .of_mem fun e he => by
  rcases List.mem_append.1 he with he | he
  · exact h.mem e he
  · exact k.mem e he
theorem Each.take {s n : Nat} {es : List V} (h : Each s es) : Each s (es.take n) := .of_mem fun e he => h.mem e (List.mem_of_mem_take he)
theorem Each.drop {s n : Nat} {es : List V} (h : Each s es) : Each s (es.drop n) := .of_mem fun e he => h.mem e (List.mem_of_mem_drop he)

theorem flat_split (es : List V) (n : Nat) : es.flatMap V.cells = (es.take n).flatMap V.cells ++ (es.drop n).flatMap V.cells := by
  rw [← List.flatMap_append, List.take_append_drop]

theorem flat_take {s : Nat} {es : List V} (h : Each s es) (n : Nat) (hn : n ≤ es.length) : (es.take n).flatMap V.cells = (es.flatMap V.cells).take (n * s) := by
  have hl : ((es.take n).flatMap V.cells).length = n * s := by rw [flat_length _ h.take, List.length_take, Nat.min_eq_left hn]
  rw [flat_split es n, ← hl, List.take_left]

theorem flat_drop {s : Nat} {es : List V} (h : Each s es) (n : Nat) (hn : n ≤ es.length) : (es.drop n).flatMap V.cells = (es.flatMap V.cells).drop (n * s) := by
  have hl : ((es.take n).flatMap V.cells).length = n * s := by rw [flat_length _ h.take, List.length_take, Nat.min_eq_left hn]
  rw [flat_split es n, ← hl, List.drop_left]

section
variable {base : Nat} {Z : Nat → Prop} {φ : Place} {H HF : Heap} {w : World} {lo hi : Nat} {x y : V} {cv cu : Value} {W : Nat → Prop}

theorem CRel.append {cs ds : List V} {vs us : List Value} (h : CRel φ W w cs vs) (k : CRel φ W w ds us) : CRel φ W w (cs ++ ds) (vs ++ us) := by
  have := h.splice k (off := cs.length)
  obtain ⟨h1, h2, h3⟩ := h
  obtain ⟨k1, k2, k3⟩ := k
  refine ⟨by simp [h1, k1], fun v hv => ?_, fun i c v hc hv => ?_⟩
  · rcases List.mem_append.1 hv with hv | hv
    · exact h2 v hv
    · exact k2 v hv
  · rw [List.getElem?_append] at hc hv
    rw [h1] at hc
    split at hc <;> rename_i g
    · rw [if_pos g] at hv; exact h3 _ _ _ hc hv
    · rw [if_neg g] at hv; exact k3 _ _ _ hc hv

theorem CRel.mono {h0 : Nat} {φ' : Place} {W' : Nat → Prop} {w' : World} {cs : List V} {vs : List Value} (E : Ext h0 φ W w φ' W' w') (hb : ∀ b, φ b ≠ .unborn → b < h0) (h : CRel φ W w cs vs) : CRel φ' W' w' cs vs :=
  ⟨h.1, h.2.1, fun i c v hc hv => (h.2.2 i c v hc hv).mono E hb⟩

theorem Row.ofFlat {c s : Nat} {es : List V} {cs : Array Value} {t : TypeId} {fr : Nat × Nat} {vs : List Value} (h0 : 0 < s) (hh : w.heap[c]? = some (.cells cs t fr)) (hfr : Frz s cs.size fr) (hs : Each s es)
    (hc : CRel φ W w (es.flatMap V.cells) vs) (hpre : ∀ (k : Nat) (v : Value), vs[k]? = some v → cs[k]? = some v) : Row φ W w c s es := by
  have hfl := flat_length es hs
  have hvl : vs.length = es.length * s := by rw [← hc.1, hfl]
  refine ⟨h0, cs, t, fr, hh, ?_, hfr, fun i e he => ⟨hs i e he, fun j d hd => ?_⟩⟩
  · rcases Nat.eq_zero_or_pos (es.length * s) with hz | hz
    · omega
    · have := hpre (es.length * s - 1) (vs[es.length * s - 1]'(by omega)) (List.getElem?_eq_getElem (by omega))
      have := (Array.getElem?_eq_some_iff.1 this).1
      omega
  · have hg := flat_get es hs i j e d he hd
    have hlt : i * s + j < vs.length := by rw [← hc.1]; exact (List.getElem?_eq_some_iff.1 hg).1
    exact ⟨vs[i * s + j], hpre _ _ (List.getElem?_eq_getElem hlt), hc.2.1 _ (List.getElem_mem hlt), hc.2.2 _ _ _ hg (List.getElem?_eq_getElem hlt)⟩

theorem Row.toFlat {c s : Nat} {es : List V} (h : Row φ W w c s es) : 0 < s ∧ Each s es ∧ ∃ cs t fr, w.heap[c]? = some (.cells cs t fr) ∧ es.length * s ≤ cs.size ∧ Frz s cs.size fr ∧ CRel φ W w (es.flatMap V.cells) (cs.toList.take (es.length * s)) := by
  obtain ⟨h0, cs, t, fr, hh, hsz, hfr, hel⟩ := h
  have hs : Each s es := fun i e he => (hel i e he).1
  have key : ∀ (k : Nat) (d : V), (es.flatMap V.cells)[k]? = some d → ∃ v, cs[k]? = some v ∧ v.oneCell' = true ∧ VRel φ W w d v := fun k d hd => by
    obtain ⟨i, j, e, h1, h2, h3⟩ := flat_at es hs k d hd
    obtain ⟨v, p1, p2, p3⟩ := (hel i e h2).2 j d h3
    exact ⟨v, by rw [h1]; exact p1, p2, p3⟩
  have hfl := flat_length es hs
  have hcl : cs.toList.length = cs.size := by simp
  refine ⟨h0, hs, cs, t, fr, hh, hsz, hfr, by rw [hfl, List.length_take, hcl]; omega, fun v hv => ?_, fun k d v hd hv => ?_⟩
  · obtain ⟨k, hk⟩ := List.getElem?_of_mem hv
    rw [List.getElem?_take] at hk
    split at hk
    · rename_i hlt
      obtain ⟨u, p1, p2, _⟩ := key k _ (List.getElem?_eq_getElem (by rw [hfl]; exact hlt))
      have : cs[k]? = some v := by simpa using hk
      rw [this] at p1
      cases p1
      exact p2
    · cases hk
  · obtain ⟨u, p1, _, p3⟩ := key k d hd
    rw [List.getElem?_take] at hv
    split at hv
    · have : cs[k]? = some v := by simpa using hv
      rw [this] at p1
      cases p1
      exact p3
    · cases hv

/-- Elements of an own slice overwritten in place. -/
theorem e_over {b c s tot k : Nat} {es new : List V} {us : Array Value} (I : Inv base Z φ H w) (hl : φ b = .at c s tot) (hb : H[b]? = some (.dat true s es)) (hn : Each s new) (hus : CRel pure0 (Wr φ H Z) w (new.flatMap V.cells) us.toList) (hk : k + new.length ≤ es.length) :
    ∃ cs t fr, w.heap[c]? = some (.cells cs t fr) ∧ Frz s cs.size fr ∧ es.length * s ≤ cs.size ∧ us.size = new.length * s ∧
      Inv base Z φ (H.set b (.dat true s (es.take k ++ new ++ es.drop (k + new.length)))) (w.setRow c (cs.toList.take (k * s) ++ us.toList ++ cs.toList.drop (k * s + us.toList.length)).toArray) ∧
      Step base H.length φ (Wr φ H Z) w φ (Wr φ (H.set b (.dat true s (es.take k ++ new ++ es.drop (k + new.length)))) Z) (w.setRow c (cs.toList.take (k * s) ++ us.toList ++ cs.toList.drop (k * s + us.toList.length)).toArray) := by
  obtain ⟨y, hy, hr⟩ := I.blk b c s tot hl
  rw [hb] at hy
  cases hy
  obtain ⟨htot, _, hrow⟩ := hr
  obtain ⟨h0, hs, cs, t, fr, hh, hsz, hfr, hcr⟩ := hrow.toFlat
  have hlt := (List.getElem?_eq_some_iff.1 hb).1
  have hul : us.toList.length = new.length * s := by rw [← hus.1, flat_length new hn]
  have hmul : (k + new.length) * s ≤ es.length * s := Nat.mul_le_mul_right _ hk
  rw [Nat.add_mul] at hmul
  have hsize : (cs.toList.take (k * s) ++ us.toList ++ cs.toList.drop (k * s + us.toList.length)).toArray.size = cs.size := by simp; simp at hul; omega
  refine ⟨cs, t, fr, hh, hfr, hsz, by simpa using hul, ?_⟩
  generalize hx' : Blk.dat true s (es.take k ++ new ++ es.drop (k + new.length)) = x'
  have hxw : x'.wr = true := by rw [← hx']; rfl
  have hW : ∀ c, Wr φ (H.set b x') Z c → Wr φ H Z c := wr_set hb rfl
  have E := Ext.write (h0 := H.length) (φ' := φ) (H' := H.set b x') (cs' := (cs.toList.take (k * s) ++ us.toList ++ cs.toList.drop (k * s + us.toList.length)).toArray) (fun _ _ h => .refl h) (.inr ⟨b, s, tot, _, hl, hb, rfl⟩) hW hh hsize
  have hlist : (es.take k ++ new ++ es.drop (k + new.length)).flatMap V.cells = (es.flatMap V.cells).take (k * s) ++ new.flatMap V.cells ++ (es.flatMap V.cells).drop (k * s + (new.flatMap V.cells).length) := by
    rw [List.flatMap_append, List.flatMap_append, flat_take hs k (by omega), flat_drop hs (k + new.length) hk, flat_length new hn, Nat.add_mul]
  have hrow' : Row pure0 (Wr φ (H.set b x') Z) (w.setRow c (cs.toList.take (k * s) ++ us.toList ++ cs.toList.drop (k * s + us.toList.length)).toArray) c s (es.take k ++ new ++ es.drop (k + new.length)) := by
    refine Row.ofFlat h0 (setRow_heap w c cs _ t fr hh) (hfr.size hsize) ((hs.take.append hn).append hs.drop) (vs := (cs.toList.take (es.length * s)).take (k * s) ++ us.toList ++ (cs.toList.take (es.length * s)).drop (k * s + us.toList.length)) ?_ ?_
    · rw [hlist]
      exact ((hcr.mono E.pure (fun _ h => absurd rfl h)).splice (hus.mono E.pure (fun _ h => absurd rfl h)) (by rw [flat_length new hn, flat_length es hs]; omega))
    · intro q v hq
      rw [List.getElem?_toArray]
      rw [List.append_assoc, List.getElem?_append, List.getElem?_append] at hq ⊢
      simp only [List.length_take, List.getElem?_take, List.getElem?_drop, Array.length_toList] at hq ⊢
      have e0 : min (k * s) (min (es.length * s) cs.size) = k * s := by omega
      have e0' : min (k * s) cs.size = k * s := by omega
      rw [e0] at hq
      rw [e0']
      split at hq <;> rename_i g1
      · rw [if_pos g1, if_pos g1]
        split at hq
        · exact hq
        · cases hq
      · rw [if_neg g1]
        split at hq <;> rename_i g2
        · rw [if_pos g2]; exact hq
        · rw [if_neg g2]
          split at hq
          · exact hq
          · cases hq
  refine ⟨I.turn E (by simp) (fun _ _ => rfl) hl ⟨(I.rng _ _ _ _ hl).1, by simpa using (I.rng _ _ _ _ hl).2⟩ (fun i s' n' hib h1 => hib (I.inj _ _ _ _ _ _ _ h1 hl)) (fun i x0 hib h1 => ⟨x0, by rw [List.getElem?_set_ne (Ne.symm hib)]; exact h1, x0.le_refl⟩) (List.getElem?_set_self hlt) (by rw [← hx']; exact ⟨by simp; omega, rfl, by rw [hx']; exact hrow'⟩)
    (fun i d s' n' hib h1 => setRow_other w c d _ (by rintro rfl; exact hib (I.inj _ _ _ _ _ _ _ h1 hl))), ⟨E, below_setRow (I.rng _ _ _ _ hl).1⟩⟩

end

end Go.Abs

namespace Go.Abs
open Go.RowKit
set_option linter.unusedVariables false
set_option linter.unusedSimpArgs false

variable {P : Program}

section
variable {base : Nat} {Z : Nat → Prop} {φ : Place} {H HF : Heap} {w : World} {lo hi : Nat} {x y : V} {cv cu cx : Value} {W : Nat → Prop}

theorem keeps_upd {b : Nat} {l : Loc} (h : φ b ≠ .unborn → Keeps (φ b) l) (i : Nat) (hi : φ i ≠ .unborn) : Keeps (φ i) (upd φ b l i) := by
  by_cases hib : i = b
  · subst hib; rw [upd_same]; exact h hi
  · rw [upd_ne _ _ hib]; exact .refl hi

theorem wr_upd {b c s n : Nat} {x x0 : Blk} (h0 : H[b]? = some x0) (hw : x0.wr = true) (hlt : c < w.heap.size → ∃ s' n', φ b = .at c s' n') (d : Nat) (hd : d < w.heap.size) (h : Wr (upd φ b (.at c s n)) (H.set b x) Z d) : Wr φ H Z d := by
  rcases h with hz | ⟨i, s', n', y, h1, h2, h3⟩
  · exact .inl hz
  · by_cases hib : i = b
    · subst hib
      rw [upd_same] at h1
      cases h1
      obtain ⟨s'', n'', h4⟩ := hlt hd
      exact .inr ⟨i, s'', n'', x0, h4, h0, hw⟩
    · rw [upd_ne _ _ hib] at h1
      exact .inr ⟨i, s', n', y, h1, (set_at h2).1 hib, h3⟩

/-- An own slice moved: its elements and new ones in a new block. -/
theorem e_move {b s tot m : Nat} {es new : List V} {olds us rest : Array Value} {e : TypeId} (I : Inv base Z φ H w) (hl : φ b = .nil ∨ ∃ c, φ b = .at c s tot) (hb : H[b]? = some (.dat true s es)) (htot : es.length = tot) (h0 : 0 < s)
    (hes : Each s es) (hn : Each s new) (hm : 0 < new.length) (hold : CRel pure0 (Wr φ H Z) w (es.flatMap V.cells) olds.toList) (hus : CRel pure0 (Wr φ H Z) w (new.flatMap V.cells) us.toList) (cap : Nat) (hcap : tot + new.length ≤ cap) (hmax : cap ≤ maxLen) (hrest : rest.size = (cap - (tot + new.length)) * s) :
    ∃ φ', EOK base Z φ H w (H.set b (.dat true s (es ++ new))) (.own b (tot + new.length) 0 (tot + new.length)) (.slice (some ⟨w.heap.size, 0, none⟩) (tot + new.length) cap) φ' (w.drew.alloc (.cells (olds ++ us ++ rest) e)) := by
  have hlt := (List.getElem?_eq_some_iff.1 hb).1
  generalize hx' : Blk.dat true s (es ++ new) = x'
  have hnb : φ b ≠ .unborn := by rcases hl with hl | ⟨c, hl⟩ <;> rw [hl] <;> simp
  have hk : Keeps (φ b) (.at w.heap.size s (tot + new.length)) := by
    refine ⟨by simp, by simp, fun c s' n' h => ?_⟩
    cases h
    rcases hl with hl | ⟨c', hl⟩
    · exact .inr (.inr ⟨hl, by omega⟩)
    · exact .inr (.inl ⟨c', s, tot, hl, by omega⟩)
  have E : Ext H.length φ (Wr φ H Z) w (upd φ b (.at w.heap.size s (tot + new.length))) (Wr (upd φ b (.at w.heap.size s (tot + new.length))) (H.set b x') Z) (w.drew.alloc (.cells (olds ++ us ++ rest) e)) :=
    ⟨fun i _ hi => keeps_upd (fun _ => hk) i hi, fun d hd h => wr_upd (w := w) hb rfl (fun h => absurd h (Nat.lt_irrefl _)) d hd h, fun d hd _ => heap_alloc_lt w.drew _ d hd, fun d x hx => by
      have hd : d < w.heap.size := by
        unfold World.shape? at hx
        cases hh : w.heap[d]? with
        | none => rw [hh] at hx; cases hx
        | some _ => exact (Array.getElem?_eq_some_iff.1 hh).1
      rw [shape_of_heap (heap_alloc_lt w.drew _ d hd)]; exact hx, by simp⟩
  have hh := heap_alloc_at w.drew (.cells (olds ++ us ++ rest) e)
  have hol : olds.toList.length = tot * s := by rw [← hold.1, flat_length es hes, htot]
  have hul : us.toList.length = new.length * s := by rw [← hus.1, flat_length new hn]
  have hsz : (olds ++ us ++ rest).size = cap * s := by
    simp only [Array.size_append]
    simp at hol hul
    rw [hol, hul, hrest, ← Nat.add_mul, ← Nat.add_mul]
    congr 1
    omega
  have hrow : Row pure0 (Wr (upd φ b (.at w.heap.size s (tot + new.length))) (H.set b x') Z) (w.drew.alloc (.cells (olds ++ us ++ rest) e)) w.heap.size s (es ++ new) := by
    refine Row.ofFlat h0 hh (Frz.none _ _) (hes.append hn) (vs := olds.toList ++ us.toList) ?_ fun k v hk => ?_
    · rw [List.flatMap_append]
      exact (hold.mono E.pure (fun _ h => absurd rfl h)).append (hus.mono E.pure (fun _ h => absurd rfl h))
    · have hk' : k < (olds ++ us).size := by have := (List.getElem?_eq_some_iff.1 hk).1; simpa using this
      rw [Array.getElem?_append_left hk', ← Array.getElem?_toList, Array.toList_append]
      exact hk
  have I' := I.turn (b := b) E (by simp) (fun i hi => upd_ne _ _ hi) (upd_same ..) ⟨I.hb, by simp⟩ (fun i s' n' hib h1 => by have := (I.rng _ _ _ _ h1).2; omega) (fun i x0 hib h1 => ⟨x0, by rw [List.getElem?_set_ne (Ne.symm hib)]; exact h1, x0.le_refl⟩) (List.getElem?_set_self hlt)
    (by rw [← hx']; exact ⟨by simp; omega, rfl, by rw [hx']; exact hrow⟩) (fun i d s' n' hib h1 => heap_alloc_lt w.drew _ d (I.rng _ _ _ _ h1).2)
  refine ⟨_, I', .own _ _ _ _ _ rfl (by omega) (by simp) (by simp) fun c' s' n' h => ?_, ⟨E, Below.alloc (Below.drew (.refl ..)) I.hb _⟩, by simp⟩
  rw [upd_same] at h
  cases h
  exact ⟨Nat.le_refl _, fun _ => ⟨_, cap, e, cap * s, rfl, by rw [← hsz]; exact shape_at hh, hcap, fun _ => by simp, fun _ => ⟨hcap, Nat.le_refl _, hmax⟩⟩⟩

/-- An own slice grown in place. -/
theorem e_grow {b c s tot cap z : Nat} {tt : TypeId} {es new : List V} {us : Array Value} (I : Inv base Z φ H w) (hl : φ b = .at c s tot) (hb : H[b]? = some (.dat true s es)) (hn : Each s new) (hus : CRel pure0 (Wr φ H Z) w (new.flatMap V.cells) us.toList)
    (hsh : w.shape? c = some (tt, z)) (hcz : cap * s ≤ z) (hmax : cap ≤ maxLen) (hcap : tot + new.length ≤ cap) :
    ∃ cs t fr, w.heap[c]? = some (.cells cs t fr) ∧ Frz s cs.size fr ∧ tot * s + us.size ≤ cs.size ∧
      ∃ φ', EOK base Z φ H w (H.set b (.dat true s (es ++ new))) (.own b (tot + new.length) 0 (tot + new.length)) (.slice (some ⟨c, 0, none⟩) (tot + new.length) cap) φ' (w.setRow c (cs.toList.take (tot * s) ++ us.toList ++ cs.toList.drop (tot * s + us.toList.length)).toArray) := by
  obtain ⟨y, hy, hr⟩ := I.blk b c s tot hl
  rw [hb] at hy
  cases hy
  obtain ⟨htot, _, hrow⟩ := hr
  obtain ⟨h0, hs, cs, t, fr, hh, hsz, hfr, hcr⟩ := hrow.toFlat
  have hlt := (List.getElem?_eq_some_iff.1 hb).1
  have hul : us.toList.length = new.length * s := by rw [← hus.1, flat_length new hn]
  have hcsz : cs.size = z := by rw [shape_at hh] at hsh; cases hsh; rfl
  have hmul : (tot + new.length) * s ≤ cap * s := Nat.mul_le_mul_right _ hcap
  rw [Nat.add_mul] at hmul
  subst htot
  have hus' : us.size = new.length * s := by simpa using hul
  have hsize : (cs.toList.take (es.length * s) ++ us.toList ++ cs.toList.drop (es.length * s + us.toList.length)).toArray.size = cs.size := by simp; omega
  refine ⟨cs, t, fr, hh, hfr, by omega, ?_⟩
  generalize hx' : Blk.dat true s (es ++ new) = x'
  generalize hcs' : (cs.toList.take (es.length * s) ++ us.toList ++ cs.toList.drop (es.length * s + us.toList.length)).toArray = cs' at hsize
  have hk : Keeps (φ b) (.at c s (es.length + new.length)) := by
    refine ⟨by simp, by simp, fun c' s' n' h => ?_⟩
    cases h
    rcases Nat.eq_zero_or_pos new.length with hz | hz
    · rw [hz]; exact .inl hl
    · exact .inr (.inl ⟨c, s, es.length, hl, by omega⟩)
  have hW : ∀ d, Wr (upd φ b (.at c s (es.length + new.length))) (H.set b x') Z d → Wr φ H Z d := by
    rintro d (hz | ⟨i, s', n', y, h1, h2, h3⟩)
    · exact .inl hz
    · by_cases hib : i = b
      · subst hib
        rw [upd_same] at h1
        cases h1
        exact .inr ⟨i, s, es.length, _, hl, hb, rfl⟩
      · rw [upd_ne _ _ hib] at h1
        exact .inr ⟨i, s', n', y, h1, (set_at h2).1 hib, h3⟩
  have E := Ext.write (h0 := H.length) (φ' := upd φ b (.at c s (es.length + new.length))) (H' := H.set b x') (cs' := cs') (fun i _ hi => keeps_upd (fun _ => hk) i hi) (.inr ⟨b, s, _, _, hl, hb, rfl⟩) hW hh hsize
  have hh' := setRow_heap w c cs cs' t fr hh
  have hrow' : Row pure0 (Wr (upd φ b (.at c s (es.length + new.length))) (H.set b x') Z) (w.setRow c cs') c s (es ++ new) := by
    refine Row.ofFlat h0 hh' (hfr.size hsize) (hs.append hn) (vs := cs.toList.take (es.length * s) ++ us.toList) ?_ fun k v hk => ?_
    · rw [List.flatMap_append]
      exact (hcr.mono E.pure (fun _ h => absurd rfl h)).append (hus.mono E.pure (fun _ h => absurd rfl h))
    · rw [← hcs', List.getElem?_toArray, List.getElem?_append_left (List.getElem?_eq_some_iff.1 hk).1]
      exact hk
  have I' := I.turn (b := b) E (by simp) (fun i hi => upd_ne _ _ hi) (upd_same ..) ⟨(I.rng _ _ _ _ hl).1, by simpa using (I.rng _ _ _ _ hl).2⟩ (fun i s' n' hib h1 => hib (I.inj _ _ _ _ _ _ _ h1 hl)) (fun i x0 hib h1 => ⟨x0, by rw [List.getElem?_set_ne (Ne.symm hib)]; exact h1, x0.le_refl⟩) (List.getElem?_set_self hlt)
    (by rw [← hx']; exact ⟨by simp, rfl, by rw [hx']; exact hrow'⟩) (fun i d s' n' hib h1 => setRow_other w c d _ (by rintro rfl; exact hib (I.inj _ _ _ _ _ _ _ h1 hl)))
  refine ⟨_, I', .own _ _ _ _ _ rfl (by omega) (by simp) (by simp) fun c' s' n' h => ?_, ⟨E, below_setRow (I.rng _ _ _ _ hl).1⟩, by simp⟩
  rw [upd_same] at h
  cases h
  exact ⟨Nat.le_refl _, fun _ => ⟨_, cap, t, cs.size, rfl, by rw [← hsize]; exact shape_at hh', by omega, fun _ => by simp, fun _ => ⟨hcap, by omega, hmax⟩⟩⟩

theorem each_all {z : Nat} {new : List V} (h : (new.all fun e => e.cells.length = z) = true) : Each z new := .of_mem fun e he => by
  have := List.all_eq_true.1 h e he
  simpa using this

/-- The same of any values. -/
theorem e_moveA {ta : Option TypeId} {b s tot m : Nat} {es new : List V} {olds us rest : Array Value} {e : TypeId} (I : Inv base Z φ H w) (hl : φ b = .nil ∨ ∃ c, φ b = .at c s tot) (hb : H[b]? = some (.arr ta s es)) (hta : ∀ T, ta = some T → T = e ∧ s = 1) (htot : es.length = tot) (h0 : 0 < s)
    (hes : Each s es) (hn : Each s new) (hm : 0 < new.length) (hold : CRel φ (Wr φ H Z) w (es.flatMap V.cells) olds.toList) (hus : CRel φ (Wr φ H Z) w (new.flatMap V.cells) us.toList) (cap : Nat) (hcap : tot + new.length ≤ cap) (hmax : cap ≤ maxLen) (hrest : rest.size = (cap - (tot + new.length)) * s) :
    ∃ φ', EOK base Z φ H w (H.set b (.arr ta s (es ++ new))) (.own b (tot + new.length) 0 (tot + new.length)) (.slice (some ⟨w.heap.size, 0, none⟩) (tot + new.length) cap) φ' (w.drew.alloc (.cells (olds ++ us ++ rest) e)) := by
  have hlt := (List.getElem?_eq_some_iff.1 hb).1
  generalize hx' : Blk.arr ta s (es ++ new) = x'
  have hnb : φ b ≠ .unborn := by rcases hl with hl | ⟨c, hl⟩ <;> rw [hl] <;> simp
  have hk : Keeps (φ b) (.at w.heap.size s (tot + new.length)) := by
    refine ⟨by simp, by simp, fun c s' n' h => ?_⟩
    cases h
    rcases hl with hl | ⟨c', hl⟩
    · exact .inr (.inr ⟨hl, by omega⟩)
    · exact .inr (.inl ⟨c', s, tot, hl, by omega⟩)
  have E : Ext H.length φ (Wr φ H Z) w (upd φ b (.at w.heap.size s (tot + new.length))) (Wr (upd φ b (.at w.heap.size s (tot + new.length))) (H.set b x') Z) (w.drew.alloc (.cells (olds ++ us ++ rest) e)) :=
    ⟨fun i _ hi => keeps_upd (fun _ => hk) i hi, fun d hd h => wr_upd (w := w) hb rfl (fun h => absurd h (Nat.lt_irrefl _)) d hd h, fun d hd _ => heap_alloc_lt w.drew _ d hd, fun d x hx => by
      have hd : d < w.heap.size := by
        unfold World.shape? at hx
        cases hh : w.heap[d]? with
        | none => rw [hh] at hx; cases hx
        | some _ => exact (Array.getElem?_eq_some_iff.1 hh).1
      rw [shape_of_heap (heap_alloc_lt w.drew _ d hd)]; exact hx, by simp⟩
  have hh := heap_alloc_at w.drew (.cells (olds ++ us ++ rest) e)
  have hol : olds.toList.length = tot * s := by rw [← hold.1, flat_length es hes, htot]
  have hul : us.toList.length = new.length * s := by rw [← hus.1, flat_length new hn]
  have hsz : (olds ++ us ++ rest).size = cap * s := by
    simp only [Array.size_append]
    simp at hol hul
    rw [hol, hul, hrest, ← Nat.add_mul, ← Nat.add_mul]
    congr 1
    omega
  have hrow : Row (upd φ b (.at w.heap.size s (tot + new.length))) (Wr (upd φ b (.at w.heap.size s (tot + new.length))) (H.set b x') Z) (w.drew.alloc (.cells (olds ++ us ++ rest) e)) w.heap.size s (es ++ new) := by
    refine Row.ofFlat h0 hh (Frz.none _ _) (hes.append hn) (vs := olds.toList ++ us.toList) ?_ fun k v hk => ?_
    · rw [List.flatMap_append]
      exact (hold.mono E (fun _ => I.lt)).append (hus.mono E (fun _ => I.lt))
    · have hk' : k < (olds ++ us).size := by have := (List.getElem?_eq_some_iff.1 hk).1; simpa using this
      rw [Array.getElem?_append_left hk', ← Array.getElem?_toList, Array.toList_append]
      exact hk
  have I' := I.turn (b := b) E (by simp) (fun i hi => upd_ne _ _ hi) (upd_same ..) ⟨I.hb, by simp⟩ (fun i s' n' hib h1 => by have := (I.rng _ _ _ _ h1).2; omega) (fun i x0 hib h1 => ⟨x0, by rw [List.getElem?_set_ne (Ne.symm hib)]; exact h1, x0.le_refl⟩) (List.getElem?_set_self hlt)
    (by rw [← hx']; exact ⟨by simp; omega, rfl, by rw [hx']; exact hrow, fun T hT => by rw [(hta T hT).1]; exact ⟨⟨_, hh, fun h => absurd (hta T hT).2 h⟩, fun _ => by omega⟩⟩) (fun i d s' n' hib h1 => heap_alloc_lt w.drew _ d (I.rng _ _ _ _ h1).2)
  refine ⟨_, I', .own _ _ _ _ _ rfl (by omega) (by simp) (by simp) fun c' s' n' h => ?_, ⟨E, Below.alloc (Below.drew (.refl ..)) I.hb _⟩, by simp⟩
  rw [upd_same] at h
  cases h
  exact ⟨Nat.le_refl _, fun _ => ⟨_, cap, e, cap * s, rfl, by rw [← hsz]; exact shape_at hh, hcap, fun _ => by simp, fun _ => ⟨hcap, Nat.le_refl _, hmax⟩⟩⟩

/-- The same of any values. -/
theorem e_growA {ta : Option TypeId} {b c s tot cap z : Nat} {tt : TypeId} {es new : List V} {us : Array Value} (I : Inv base Z φ H w) (hl : φ b = .at c s tot) (hb : H[b]? = some (.arr ta s es)) (hta : ∀ T, ta = some T → s = 1) (hn : Each s new) (hus : CRel φ (Wr φ H Z) w (new.flatMap V.cells) us.toList)
    (hsh : w.shape? c = some (tt, z)) (hcz : cap * s ≤ z) (hmax : cap ≤ maxLen) (hcap : tot + new.length ≤ cap) :
    ∃ cs t fr, w.heap[c]? = some (.cells cs t fr) ∧ Frz s cs.size fr ∧ tot * s + us.size ≤ cs.size ∧
      ∃ φ', EOK base Z φ H w (H.set b (.arr ta s (es ++ new))) (.own b (tot + new.length) 0 (tot + new.length)) (.slice (some ⟨c, 0, none⟩) (tot + new.length) cap) φ' (w.setRow c (cs.toList.take (tot * s) ++ us.toList ++ cs.toList.drop (tot * s + us.toList.length)).toArray) := by
  obtain ⟨y, hy, hr⟩ := I.blk b c s tot hl
  rw [hb] at hy
  cases hy
  obtain ⟨htot, _, hrow, hT⟩ := hr
  obtain ⟨h0, hs, cs, t, fr, hh, hsz, hfr, hcr⟩ := hrow.toFlat
  have hlt := (List.getElem?_eq_some_iff.1 hb).1
  have hul : us.toList.length = new.length * s := by rw [← hus.1, flat_length new hn]
  have hcsz : cs.size = z := by rw [shape_at hh] at hsh; cases hsh; rfl
  have hmul : (tot + new.length) * s ≤ cap * s := Nat.mul_le_mul_right _ hcap
  rw [Nat.add_mul] at hmul
  subst htot
  have hus' : us.size = new.length * s := by simpa using hul
  have hsize : (cs.toList.take (es.length * s) ++ us.toList ++ cs.toList.drop (es.length * s + us.toList.length)).toArray.size = cs.size := by simp; omega
  refine ⟨cs, t, fr, hh, hfr, by omega, ?_⟩
  generalize hx' : Blk.arr ta s (es ++ new) = x'
  generalize hcs' : (cs.toList.take (es.length * s) ++ us.toList ++ cs.toList.drop (es.length * s + us.toList.length)).toArray = cs' at hsize
  have hk : Keeps (φ b) (.at c s (es.length + new.length)) := by
    refine ⟨by simp, by simp, fun c' s' n' h => ?_⟩
    cases h
    rcases Nat.eq_zero_or_pos new.length with hz | hz
    · rw [hz]; exact .inl hl
    · exact .inr (.inl ⟨c, s, es.length, hl, by omega⟩)
  have hW : ∀ d, Wr (upd φ b (.at c s (es.length + new.length))) (H.set b x') Z d → Wr φ H Z d := by
    rintro d (hz | ⟨i, s', n', y, h1, h2, h3⟩)
    · exact .inl hz
    · by_cases hib : i = b
      · subst hib
        rw [upd_same] at h1
        cases h1
        exact .inr ⟨i, s, es.length, _, hl, hb, rfl⟩
      · rw [upd_ne _ _ hib] at h1
        exact .inr ⟨i, s', n', y, h1, (set_at h2).1 hib, h3⟩
  have E := Ext.write (h0 := H.length) (φ' := upd φ b (.at c s (es.length + new.length))) (H' := H.set b x') (cs' := cs') (fun i _ hi => keeps_upd (fun _ => hk) i hi) (.inr ⟨b, s, _, _, hl, hb, rfl⟩) hW hh hsize
  have hh' := setRow_heap w c cs cs' t fr hh
  have hrow' : Row (upd φ b (.at c s (es.length + new.length))) (Wr (upd φ b (.at c s (es.length + new.length))) (H.set b x') Z) (w.setRow c cs') c s (es ++ new) := by
    refine Row.ofFlat h0 hh' (hfr.size hsize) (hs.append hn) (vs := cs.toList.take (es.length * s) ++ us.toList) ?_ fun k v hk => ?_
    · rw [List.flatMap_append]
      exact (hcr.mono E (fun _ => I.lt)).append (hus.mono E (fun _ => I.lt))
    · rw [← hcs', List.getElem?_toArray, List.getElem?_append_left (List.getElem?_eq_some_iff.1 hk).1]
      exact hk
  have I' := I.turn (b := b) E (by simp) (fun i hi => upd_ne _ _ hi) (upd_same ..) ⟨(I.rng _ _ _ _ hl).1, by simpa using (I.rng _ _ _ _ hl).2⟩ (fun i s' n' hib h1 => hib (I.inj _ _ _ _ _ _ _ h1 hl)) (fun i x0 hib h1 => ⟨x0, by rw [List.getElem?_set_ne (Ne.symm hib)]; exact h1, x0.le_refl⟩) (List.getElem?_set_self hlt)
    (by rw [← hx']; exact ⟨by simp, rfl, by rw [hx']; exact hrow', fun T hT' => by obtain ⟨⟨z, hz, _⟩, hp⟩ := hT T hT'; have h1 := hta T hT'; rw [hh] at hz; cases hz; exact ⟨⟨_, hh', fun h => absurd h1 h⟩, fun h => by have := hp h; omega⟩⟩) (fun i d s' n' hib h1 => setRow_other w c d _ (by rintro rfl; exact hib (I.inj _ _ _ _ _ _ _ h1 hl)))
  refine ⟨_, I', .own _ _ _ _ _ rfl (by omega) (by simp) (by simp) fun c' s' n' h => ?_, ⟨E, below_setRow (I.rng _ _ _ _ hl).1⟩, by simp⟩
  rw [upd_same] at h
  cases h
  exact ⟨Nat.le_refl _, fun _ => ⟨_, cap, t, cs.size, rfl, by rw [← hsize]; exact shape_at hh', by omega, fun _ => by simp, fun _ => ⟨hcap, by omega, hmax⟩⟩⟩


/-- The elements of a slice of any values. -/
theorem src_okA {new : List V} {size : Nat} (I : Inv base Z φ H w) (hx : VRel φ (Wr φ H Z) w x cv) (he : srcA H x = some new) (hs : Each size new) :
    (∀ w', (Builtin.lenOf cv).run P w' = .ok new.length w') ∧ ∃ us : Array Value, (∀ w' : World, w'.heap = w.heap → (Builtin.firstCells size new.length cv).run P w' = .ok us w') ∧ CRel φ (Wr φ H Z) w (new.flatMap V.cells) us.toList := by
  unfold srcA at he
  split at he
  case h_2 => cases he
  rename_i b tot off len
  split at he
  case h_2 => cases he
  rename_i ta s es hb
  split at he
  case isFalse => cases he
  rename_i hc
  obtain ⟨ht, rfl, rfl⟩ := hc
  cases he
  obtain ⟨_, hr⟩ := own_readA I hb ht hx
  rcases hr with ⟨_, rfl, rfl, _, _⟩ | ⟨c, hl, hrow, ⟨a, cap, t', z', rfl, hsh, hcap, ha, ha0⟩, _⟩
  · exact ⟨fun w' => rfl, #[], fun w' _ => by simp [Builtin.firstCells], by simp [CRel]⟩
  · have haa := ha (.inr rfl)
    subst haa
    subst ht
    refine ⟨fun w' => rfl, ?_⟩
    obtain ⟨h0, hes, cs, t, fr, hh, hsz, hfr, hcr⟩ := hrow.toFlat
    have hss : new ≠ [] → s = size := fun hne => by
      cases new with
      | nil => exact absurd rfl hne
      | cons e es => rw [← hes 0 e rfl, hs 0 e rfl]
    by_cases hne : new = []
    · subst hne
      refine ⟨#[], fun w' _ => ?_, by simp [CRel]⟩
      have := run_firstCells_some (P := P) w' size 0 ⟨c, 0, none⟩ 0 cap [] (by simp) (by simp)
      simpa using this
    · obtain rfl := hss hne
      refine ⟨(cs.toList.take (new.length * s)).toArray, fun w' hw' => ?_, by simpa using hcr⟩
      have := run_firstCells_some (P := P) w' s new.length ⟨c, 0, none⟩ new.length cap (cs.toList.take (new.length * s)) (by have := Array.length_toList (xs := cs); rw [List.length_take]; omega) (fun j v hj => by
        rw [add_at, Nat.zero_add]
        have hh' : w'.heap[c]? = some (.cells cs t fr) := by rw [hw']; exact hh
        rw [cell_at hh']
        rw [List.getElem?_take] at hj
        split at hj
        · simpa using hj
        · cases hj)
      simpa using this

theorem e_appendA {t u ty : TypeId} {e : TypeId} {z : TypeInfo} {zv : Value} {d : TypeDesc} {s r : V} {cs cx : Value} {H' : Heap} {new : List V} {us : Array Value} (I : Inv base Z φ H w) (hs : VRel φ (Wr φ H Z) w s cs)
    (hue : P.underlying t = some (.slice e)) (hie : P.info? e = some z) (hzz : z.zero = some zv) (hzs : zv.cells.size = z.size) (hd : P.underlying u = some d) (hdk : ∀ k, d ≠ .int k)
    (hlen : ∀ w', (Builtin.lenOf cx).run P w' = .ok new.length w') (hus : ∀ w' : World, w'.heap = w.heap → (Builtin.firstCells z.size new.length cx).run P w' = .ok us w') (hcr : CRel φ (Wr φ H Z) w (new.flatMap V.cells) us.toList)
    (h : appendA P t z s new H = some (r, H')) :
    ∃ v w', (Builtin.append_ #[t, u] ty #[cs, cx]).run P w = .ok v w' ∧ Turns base Z φ H w H' r v w' := by
  unfold appendA at h
  split at h
  case h_2 => cases h
  rename_i b tot off len
  split at h
  case h_2 => cases h
  rename_i ta sz es hb
  split at h
  case isFalse => cases h
  rename_i hc
  obtain ⟨htot, rfl, rfl, rfl, hta, hall, hb1, hb2⟩ := hc
  have hn := each_all hall
  have hta' : ∀ T, ta = some T → T = e ∧ z.size = 1 := fun T hT => by
    rcases hta with h1 | h1
    · rw [hT] at h1; cases h1
    · have h2 := h1.1; rw [hT] at h2; simp only [sliceElem, hue] at h2; cases h2; exact ⟨rfl, h1.2⟩
  simp only [room] at hb1 hb2
  cases h
  have hul : us.size = new.length * z.size := by
    have := hcr.1
    rw [flat_length new hn] at this
    simpa using this.symm
  obtain ⟨h0, hr⟩ := own_readA I hb htot hs
  have hsz0 : 0 < z.size := by
    cases hs with
    | own _ _ _ _ _ _ _ hnu _ _ =>
    cases hl : φ b with
    | unborn => exact absurd hl hnu
    | nil => obtain ⟨_, s', hx', hs'⟩ | ⟨_, _, hx', hs'⟩ := I.nil b hl <;> (rw [hb] at hx'; cases hx'); exact hs'
    | «at» c s n => obtain ⟨y, hy, hry⟩ := I.blk b c s n hl; rw [hb] at hy; cases hy; obtain ⟨_, rfl, ⟨h0, _⟩, _⟩ := hry; exact h0
  rcases hr with ⟨hl, rfl, rfl, _, rfl⟩ | ⟨c, hl, hrow, ⟨a, cap, t', z', rfl, hsh, hcap, ha, ha0⟩, hT⟩
  · -- nil still
    rcases Nat.eq_zero_or_pos new.length with hm | hm
    · have hne : new = [] := List.eq_nil_of_length_eq_zero hm
      subst hne
      have hzz' : (match d with | .int _ => true | _ => false) = false := by cases d <;> first | rfl | exact absurd rfl (hdk _)
      have hl0 := hlen w
      have hu0 := hus w rfl
      simp only [List.length_nil] at hl0 hu0
      have hset : H.set b (.arr ta z.size ([] ++ [])) = H := by
        apply List.ext_getElem?
        intro i
        rw [List.getElem?_set]
        split
        · rename_i hii; subst hii; simp only [List.append_nil]; split
          · exact hb.symm
          · rename_i hge; rw [List.getElem?_eq_none (by omega)]
        · rfl
      rw [hset]
      refine ⟨.slice none 0 0, w, ?_, φ, I, by simpa using hs, .refl .., Nat.le_refl _⟩
      simp [Builtin.append_, run_underlying hue, run_underlying hd, sizeOf, typeInfo, hie, hl0, hu0, hzz']
    · have run := run_append_big (P := P) (w := w) (ty := ty) (base' := none) (sLen := 0) (sCap := 0) (m := new.length) (olds := #[]) (us := us) (cv := cx) hue hie hzz hd hdk (hlen w) (by simp [Builtin.firstCells]) (hus w.drew rfl) (by omega) (by omega) (by simpa using hb1)
      refine ⟨_, _, run, ?_⟩
      have hcap := grownCap_ge w (0 + new.length) 0 e
      exact e_moveA (s := z.size) (tot := 0) (m := 0) (olds := #[]) (us := us) (e := e) I (.inl hl) hb hta' rfl hsz0 (fun i e he => by simp at he) hn hm (by simp [CRel]) hcr _ hcap (grownCap_le_maxLen _ _ _ _ (by unfold maxLen; omega)) (by rw [size_zeroCells, hzs])
  · have hcap0 := ha0 rfl
    have haa := ha (.inr rfl)
    subst haa
    have hes : Each z.size es := hrow.toFlat.2.1
    by_cases hroom : len + new.length ≤ cap
    · obtain ⟨cs, tt, fr, hh, hfr, hfit, φ', hE⟩ := e_growA I hl hb (fun T hT => (hta' T hT).2) hn hcr hsh hcap0.2.1 hcap0.2.2 hroom
      simp only [Nat.zero_mul]
      refine ⟨_, _, run_append_room' (P := P) hue hie hd hdk hh hfr.1 (hlen w) (hus w rfl) hcr.2.1 hroom hfit, φ', hE⟩
    · have hself : VRel φ (Wr φ H Z) w (.own b len 0 len) (.slice (some ⟨c, 0 * z.size, none⟩) len cap) := hs
      obtain ⟨_, olds, hold, hocr⟩ := src_okA (P := P) (x := .own b len 0 len) I hself (show srcA H (.own b len 0 len) = some es by simp [srcA, hb, htot]) hes
      rw [htot] at hold
      have run := run_append_big (P := P) (w := w) (ty := ty) (base' := some ⟨c, 0 * z.size, none⟩) (sLen := len) (sCap := cap) (m := new.length) (olds := olds) (us := us) (cv := cx) hue hie hzz hd hdk (hlen w) (hold w.drew rfl) (hus w.drew rfl) (by omega) (by omega) hb1
      refine ⟨_, _, run, ?_⟩
      exact e_moveA (s := z.size) (tot := len) (m := 0) (olds := olds) (us := us) (e := e) I (.inr ⟨c, hl⟩) hb hta' htot hsz0 hes hn (by omega) hocr hcr _ (grownCap_ge ..) (grownCap_le_maxLen _ _ _ _ (by unfold maxLen; omega)) (by rw [size_zeroCells, hzs])

theorem e_append {t u ty : TypeId} {s x r : V} {cs cx : Value} {H' : Heap} (I : Inv base Z φ H w) (hs : VRel φ (Wr φ H Z) w s cs) (hx : VRel φ (Wr φ H Z) w x cx) (hu1 : isIntT P u = false) (hu2 : (P.underlying u).isNone = false) (h : appendV P t s x H = some (r, H')) :
    ∃ v w', (Builtin.append_ #[t, u] ty #[cs, cx]).run P w = .ok v w' ∧ Turns base Z φ H w H' r v w' := by
  obtain ⟨d, hd⟩ : ∃ d, P.underlying u = some d := by
    cases hq : P.underlying u with
    | none => simp [hq] at hu2
    | some d => exact ⟨d, rfl⟩
  have hdk : ∀ k, d ≠ .int k := by
    rintro k rfl
    simp [isIntT, hd] at hu1
  unfold appendV at h
  split at h
  · cases h
  rename_i z hz
  obtain ⟨e, hue, hie, zv, hzz, hzs⟩ := elemT_zero hz
  split at h
  · split at h
    · rename_i new hnew
      have hall : (new.all fun e => e.cells.length = z.size) = true := by
        unfold appendA at h
        split at h
        · split at h
          · split at h
            · rename_i hc; exact hc.2.2.2.2.2.1
            · cases h
          · cases h
        · cases h
      obtain ⟨hlen, us, hus, hcr⟩ := src_okA (P := P) I hx hnew (each_all hall)
      exact e_appendA I hs hue hie hzz hzs hd hdk hlen hus hcr h
    · cases h
  rename_i new hnew
  split at h
  case isFalse => cases h
  rename_i hall
  have hn := each_all hall
  obtain ⟨hlen, us, hus, hcr⟩ := src_ok (P := P) I hx hnew hn new.length (Nat.le_refl _)
  rw [List.take_length] at hcr
  have hul : us.size = new.length * z.size := by
    have := hcr.1
    rw [flat_length new hn] at this
    simpa using this.symm
  split at h
  · -- nil
    split at h
    case isFalse => cases h
    rename_i hb
    obtain ⟨hb1, hb2, hb3⟩ := hb
    simp only [room] at hb1 hb2
    cases hs
    split at h
    · rename_i hemp
      cases h
      have hne : new = [] := by simpa using hemp
      subst hne
      have hzz : (match d with | .int _ => true | _ => false) = false := by cases d <;> first | rfl | exact absurd rfl (hdk _)
      refine ⟨.slice none 0 0, w, ?_, φ, I, .nils, .refl .., Nat.le_refl _⟩
      have hl0 := hlen w
      have hu0 := hus w rfl
      simp only [List.length_nil] at hl0 hu0
      simp [Builtin.append_, run_underlying hue, run_underlying hd, sizeOf, typeInfo, hie, hl0, hu0, hzz]
    · rename_i hemp
      cases h
      have hm : 0 < new.length := by
        cases new with
        | nil => simp at hemp
        | cons _ _ => simp
      have run := run_append_big (P := P) (w := w) (ty := ty) (base' := none) (sLen := 0) (sCap := 0) (m := new.length) (olds := #[]) (us := us) (cv := cx) hue hie hzz hd hdk (hlen w) (by simp [Builtin.firstCells]) (hus w.drew rfl) (by omega) (by omega) (by simpa using hb1)
      refine ⟨_, _, run, ?_⟩
      have hcap := grownCap_ge w (0 + new.length) 0 e
      have hmax := grownCap_le_maxLen w (0 + new.length) 0 e (by (try unfold room at *); unfold maxLen; omega)
      generalize grownCap w (0 + new.length) 0 e = cap at hcap hmax ⊢
      have hle := Le.append H [.dat true z.size new]
      have I1 := (I.le hle).drew
      have born := dat_born (wr := true) (lo := H.length) (hi := H.length + 1) (b := H.length) (len := new.length) (cap := cap) (es := new) (s := z.size) (cs := #[] ++ us ++ Builtin.zeroCells zv.cells (cap - (0 + new.length))) (t := e) (fr := (0, 0)) I1
        (I.born _ (Nat.le_refl _)) (by simp) hb3 (Nat.le_refl _)
        (by
          have e1 : cap * z.size = new.length * z.size + (cap - (0 + new.length)) * z.size := by rw [← Nat.add_mul]; congr 1; omega
          rw [Array.size_append, Array.size_append, size_zeroCells, hzs, hul, e1]
          simp) (by omega) hmax (Frz.none _ _)
        (fun i e' he => ⟨hn i e' he, fun j c hc => by
          have hg := flat_get new hn i j e' c he hc
          have hlt : i * z.size + j < us.toList.length := by rw [← hcr.1]; exact (List.getElem?_eq_some_iff.1 hg).1
          refine ⟨us.toList[i * z.size + j], ?_, hcr.2.1 _ (List.getElem_mem hlt), ?_⟩
          · rw [Array.getElem?_append_left (by simpa using hlt)]
            simp
          · exact (hcr.2.2 _ _ _ hg (List.getElem?_eq_getElem hlt)).mono (show Ext 0 pure0 (Wr φ H Z) w pure0 (Wr φ (H ++ [.dat true z.size new]) Z) w.drew from ⟨fun b hb => absurd hb (Nat.not_lt_zero _), fun c _ h => wr_le hle (fun b => I.lt) c h, fun _ _ _ => rfl, fun _ _ h => h, Nat.le_refl _⟩) (fun _ h => absurd rfl h)⟩)
        (Nat.le_refl _) (Nat.lt_succ_self _)
      have := born.drewFirst.toE I hle
      simp only [Nat.zero_add] at this ⊢
      exact ⟨_, this⟩
  · -- an own slice
    rename_i b tot off len
    split at h
    case h_3 => cases h
    case h_2 =>
      exact e_appendA I hs hue hie hzz hzs hd hdk hlen (fun w' hw' => hus w' hw') ⟨hcr.1, hcr.2.1, fun i c v hc hv => (hcr.2.2 i c v hc hv).ofPure⟩ h
    rename_i sz es hb
    split at h
    case isFalse => cases h
    rename_i hc
    obtain ⟨htot, rfl, rfl⟩ := hc
    obtain ⟨h0, hr⟩ := own_read I hb htot hs
    have hsz0 : 0 < z.size := by
      cases hs with
      | own _ _ _ _ _ _ _ hnu _ _ =>
      cases hl : φ b with
      | unborn => exact absurd hl hnu
      | nil => obtain ⟨_, s', hx', hs'⟩ | ⟨_, _, hx', _⟩ := I.nil b hl <;> (rw [hb] at hx'; cases hx'); exact hs'
      | «at» c s n => obtain ⟨y, hy, hry⟩ := I.blk b c s n hl; rw [hb] at hy; cases hy; obtain ⟨_, rfl, h0, _⟩ := hry; exact h0
    split at h
    · rename_i hlen'
      subst hlen'
      split at h
      case isFalse => cases h
      rename_i hbb
      obtain ⟨hb1, hb2⟩ := hbb
      simp only [room] at hb1 hb2
      cases h
      rcases hr with ⟨hl, rfl, rfl, _, rfl⟩ | ⟨c, hl, hrow, a, cap, t', z', rfl, hsh, hcap, ha, ha0⟩
      · -- nil still
        rcases Nat.eq_zero_or_pos new.length with hm | hm
        · have hne : new = [] := List.eq_nil_of_length_eq_zero hm
          subst hne
          have hzz' : (match d with | .int _ => true | _ => false) = false := by cases d <;> first | rfl | exact absurd rfl (hdk _)
          have hl0 := hlen w
          have hu0 := hus w rfl
          simp only [List.length_nil] at hl0 hu0
          have hset : H.set b (.dat true z.size ([] ++ [])) = H := by
            apply List.ext_getElem?
            intro i
            rw [List.getElem?_set]
            split
            · rename_i hii; subst hii; simp only [List.append_nil]; split
              · exact hb.symm
              · rename_i hge; rw [List.getElem?_eq_none (by omega)]
            · rfl
          rw [hset]
          refine ⟨.slice none 0 0, w, ?_, φ, I, by simpa using hs, .refl .., Nat.le_refl _⟩
          simp [Builtin.append_, run_underlying hue, run_underlying hd, sizeOf, typeInfo, hie, hl0, hu0, hzz']
        · have run := run_append_big (P := P) (w := w) (ty := ty) (base' := none) (sLen := 0) (sCap := 0) (m := new.length) (olds := #[]) (us := us) (cv := cx) hue hie hzz hd hdk (hlen w) (by simp [Builtin.firstCells]) (hus w.drew rfl) (by omega) (by omega) (by simpa using hb1)
          refine ⟨_, _, run, ?_⟩
          have hcap := grownCap_ge w (0 + new.length) 0 e
          exact e_move (s := z.size) (tot := 0) (m := 0) (olds := #[]) (us := us) (e := e) I (.inl hl) hb rfl hsz0 (fun i e he => by simp at he) hn hm (by simp [CRel]) hcr _ hcap (grownCap_le_maxLen _ _ _ _ (by (try unfold room at *); unfold maxLen; omega)) (by rw [size_zeroCells, hzs])
      · have hcap0 := ha0 rfl
        have haa := ha (.inr rfl)
        subst haa
        have hes : Each z.size es := hrow.toFlat.2.1
        by_cases hroom : len + new.length ≤ cap
        · obtain ⟨cs, tt, fr, hh, hfr, hfit, φ', hE⟩ := e_grow I hl hb hn hcr hsh hcap0.2.1 hcap0.2.2 hroom
          simp only [Nat.zero_mul]
          refine ⟨_, _, run_append_room' (P := P) hue hie hd hdk hh hfr.1 (hlen w) (hus w rfl) hcr.2.1 hroom hfit, φ', hE⟩
        · have hself : VRel φ (Wr φ H Z) w (.own b len 0 len) (.slice (some ⟨c, 0 * z.size, none⟩) len cap) := hs
          have hel : elems H (.own b len 0 len) = some es := by simp [elems, hb, htot]
          obtain ⟨_, olds, hold, hocr⟩ := src_ok (P := P) (x := .own b len 0 len) I hself hel hes len (by omega)
          rw [← htot, List.take_length] at hocr
          have run := run_append_big (P := P) (w := w) (ty := ty) (base' := some ⟨c, 0 * z.size, none⟩) (sLen := len) (sCap := cap) (m := new.length) (olds := olds) (us := us) (cv := cx) hue hie hzz hd hdk (hlen w) (hold w.drew rfl) (hus w.drew rfl) (by omega) (by omega) hb1
          refine ⟨_, _, run, ?_⟩
          exact e_move (s := z.size) (tot := len) (m := 0) (olds := olds) (us := us) (e := e) I (.inr ⟨c, hl⟩) hb htot hsz0 hes hn (by omega) hocr hcr _ (grownCap_ge ..) (grownCap_le_maxLen _ _ _ _ (by (try unfold room at *); unfold maxLen; omega)) (by rw [size_zeroCells, hzs])
    · rename_i hne
      split at h
      case isFalse => cases h
      rename_i hle
      cases h
      rcases hr with ⟨_, rfl, _, _, rfl⟩ | ⟨c, hl, hrow, a, cap, t', z', rfl, hsh, hcap, ha, ha0⟩
      · simp at htot; omega
      · have hcap0 := ha0 rfl
        have haa := ha (.inr rfl)
        subst haa
        obtain ⟨cs, tt, fr, hh, hfr, hsz', hus', hI, hS⟩ := e_over (k := len) I hl hb hn hcr (by omega)
        have hmul : (len + new.length) * z.size ≤ es.length * z.size := Nat.mul_le_mul_right _ (by omega)
        rw [Nat.add_mul] at hmul
        simp only [Nat.zero_mul]
        refine ⟨_, _, run_append_room' (P := P) hue hie hd hdk hh hfr.1 (hlen w) (hus w rfl) hcr.2.1 (by omega) (by omega), φ, hI, ?_, hS, by simp⟩
        refine .own _ _ _ _ _ rfl (by omega) (by rw [hl]; simp) (by rw [hl]; simp) fun c' s' n' h => ?_
        rw [hl] at h
        cases h
        exact ⟨Nat.le_refl _, fun _ => ⟨_, cap, t', z', rfl, hS.ext.shape _ _ hsh, by omega, fun _ => by simp, fun _ => hcap0⟩⟩
  · cases h

end

end Go.Abs

