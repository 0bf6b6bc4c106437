/- Proved here: what functions of the program compute, over the evaluator. No condition but those that each theorem states. -/
import Derived.Test.YtbnnaaadblpgiaaDC
import Derived.Test.YtbnnaaadblpgiaaTryShelf
import Derived.Handy
import Derived.Test.YtbnnaaadblpgiaaA7
import Derived.Shelf.RegionOpenPlain
import Derived.WalkKit
import Derived.Lib.Walk
import Derived.Lib.SliceRun
import Derived.Lib.JoinLaws
import Derived.Lib.AppendZeros
import Derived.Lib.Overlaps
import Derived.Laws.Externs
import Derived.Laws.CopyRow
import Derived.Lib.AppendZerosOnto
import Derived.Deep.AppendSrc
import Derived.Shelf.Spec.SlicesInsert
namespace Go.Proofs
open Go.RowKit Go.Shelf Go.Abs Go.Lib
set_option linter.unusedVariables false
set_option linter.unusedSimpArgs false

/-- A store of cells into a row none of whose cells is frozen. -/
theorem run_storeCells_fr (P : Program) (g o : Nat) (t : TypeId) (fr : Nat × Nat) : ∀ (vs : List Value) (i : Nat) (cur : Array Value) (w : World), w.heap[g]? = some (.cells cur t fr) → (∀ j, j < cur.size → ¬ (fr.1 ≤ j ∧ j < fr.2)) → o + i + vs.length ≤ cur.size → (∀ v ∈ vs, v.oneCell' = true) →
    (storeCells ⟨g, o, none⟩ vs i).run P w = .ok () (w.setRow g (cur.toList.take (o + i) ++ vs ++ cur.toList.drop (o + i + vs.length)).toArray)
  | [], i, cur, w, hg, _, _, _ => by
    simp only [storeCells, List.append_nil, List.length_nil, Nat.add_zero, List.take_append_drop, Array.toArray_toList]
    rw [setRow_self w g cur t fr hg]
    rfl
  | v :: rest, i, cur, w, hg, hfr, hl, h1 => by
    have hi : o + i < cur.size := by simp at hl; omega
    have hadd : (⟨g, o, none⟩ : Addr).add i = ⟨g, o + i, none⟩ := by unfold Addr.add; split <;> simp_all
    have hcell : w.cell? ⟨g, o + i, none⟩ = some cur[o + i] := by simp [World.cell?, hg, hi]
    have hfro : w.frozen? ⟨g, o + i, none⟩ = false := frozen_at hg hfr hi
    have hst : (store ((⟨g, o, none⟩ : Addr).add i) v).run P w = .ok () (w.setRow g (cur.setIfInBounds (o + i) v)) := by
      rw [hadd, run_store P w _ v _ (h1 v (by simp)), hcell]
      simp [hfro, setCell_eq_setRow w g (o + i) cur t fr v hg]
    have ih := run_storeCells_fr P g o t fr rest (i + 1) (cur.setIfInBounds (o + i) v) (w.setRow g (cur.setIfInBounds (o + i) v)) (setRow_heap w g cur _ t _ hg) (by simpa using hfr) (by simp at hl ⊢; omega) (fun x hx => h1 x (by simp [hx]))
    simp only [storeCells, Sem.run_bind, hst, Result.andThen_ok, ih, setRow_setRow]
    congr 3
    have e := list_seg_step cur.toList (o + i) v rest (by simp at hl ⊢; omega)
    simpa [Array.toList_setIfInBounds, Nat.add_assoc] using e

/-- copy of elements of any size into a row. -/
theorem run_copy_fr {P : Program} (w : World) (dT sT ty elem : TypeId) (i : TypeInfo) (g o dLen dCap : Nat) (a : Addr) (sLen sCap m : Nat) (cur : Array Value) (t : TypeId) (fr : Nat × Nat) (cs : List Value)
    (hu : P.underlying dT = some (.slice elem)) (hi : P.info? elem = some i) (hm : Nat.min sLen dLen = m)
    (hg : w.heap[g]? = some (.cells cur t fr)) (hfr : ∀ j, j < cur.size → ¬ (fr.1 ≤ j ∧ j < fr.2)) (hn : cs.length = m * i.size)
    (hsrc : ∀ j v, cs[j]? = some v → w.cell? (a.add j) = some v) (hfit : o + cs.length ≤ cur.size) (h1 : ∀ v ∈ cs, v.oneCell' = true) :
    (Builtin.copy_ #[dT, sT] ty #[.slice (some ⟨g, o, none⟩) dLen dCap, .slice (some a) sLen sCap]).run P w =
      .ok (goInt m) (w.setRow g (cur.toList.take o ++ cs ++ cur.toList.drop (o + cs.length)).toArray) := by
  have hl := run_loadCells_list (P := P) w a cs hsrc
  have hst := run_storeCells_fr P g o t fr cs 0 cur w hg hfr (by simpa using hfit) h1
  simp [Builtin.copy_, run_underlying hu, Builtin.lenOf, Builtin.firstCells, sizeOf, typeInfo, hi, hm, ← hn, hl, hst]

/-- slices.overlaps of slices in two blocks: false, or what is drawn. -/
theorem run_overlaps_any {P : Program} (w : World) (tS tR e : TypeId) (ht : P.underlying tS = some (.slice e)) (size : Nat) (hz : ∀ w, (Go.sizeOf e).run P w = .ok size w)
    (a b : Addr) (la lb : Nat) (h0 : ¬ (la = 0 ∨ lb = 0 ∨ size = 0)) (hne : a.block ≠ b.block) (tA tB : TypeId) (kA kB : Nat)
    (hsa : w.shape? a.block = some (tA, kA)) (hsb : w.shape? b.block = some (tB, kB)) (hkA : kA ≠ 0) (hkB : kB ≠ 0)
    (hfa : w.frozen? a = false) :
    ∃ r w1, (w1 = w ∨ w1 = w.drew) ∧ ∀ ca cb, (Extern.SlicesOverlaps.overlaps #[tS, tS] #[tR] #[.slice (some a) la ca, .slice (some b) lb cb]).run P w = .ok (.bool r) w1 := by
  have hnb : (a.block != b.block) = true := by simpa using hne
  have hnb' : (a.block == b.block) = false := by simpa using hne
  have e0 : ∀ ca cb, (Extern.SlicesOverlaps.overlaps #[tS, tS] #[tR] #[.slice (some a) la ca, .slice (some b) lb cb]).run P w = Sem.run P (α := Value) (do
    let some t := (#[tS, tS] : Array TypeId)[0]? | stuck "slices.overlaps: no parameter types"
    let .slice elem ← underlying t | stuck "slices.overlaps: slice type expected"
    let size ← sizeOf elem
    match (some a : Option Addr), (some b : Option Addr) with
    | some a, some b =>
      if la = 0 ∨ lb = 0 ∨ size = 0 then pure (Value.bool false)
      else if a.block != b.block && (← frozen a) && (← frozen b) then unsupported .addressObserved
      else do
        if a.block != b.block then do
          noView a; noView b
          if ← mayBeOne a b then return Value.bool ((← choose (.extern "sameAddr.stringBytes" 2)) == 1)
        pure (Value.bool (a.block == b.block && a.off < b.off + lb * size && b.off < a.off + la * size))
    | _, _ => pure (Value.bool false)) w := fun _ _ => rfl
  have e1 : ∀ r w1, (w1 = w ∨ w1 = w.drew) → Sem.run P (α := Value) (do
    let some t := (#[tS, tS] : Array TypeId)[0]? | stuck "slices.overlaps: no parameter types"
    let .slice elem ← underlying t | stuck "slices.overlaps: slice type expected"
    let size ← sizeOf elem
    match (some a : Option Addr), (some b : Option Addr) with
    | some a, some b =>
      if la = 0 ∨ lb = 0 ∨ size = 0 then pure (Value.bool false)
      else if a.block != b.block && (← frozen a) && (← frozen b) then unsupported .addressObserved
      else do
        if a.block != b.block then do
          noView a; noView b
          if ← mayBeOne a b then return Value.bool ((← choose (.extern "sameAddr.stringBytes" 2)) == 1)
        pure (Value.bool (a.block == b.block && a.off < b.off + lb * size && b.off < a.off + la * size))
    | _, _ => pure (Value.bool false)) w = .ok (.bool r) w1 → ∃ r w1, (w1 = w ∨ w1 = w.drew) ∧ ∀ ca cb, (Extern.SlicesOverlaps.overlaps #[tS, tS] #[tR] #[.slice (some a) la ca, .slice (some b) lb cb]).run P w = .ok (.bool r) w1 := fun r w1 hw hr => ⟨r, w1, hw, fun ca cb => (e0 ca cb).trans hr⟩
  cases kB with
  | zero => exact absurd rfl hkB
  | succ kB => cases kA with
    | zero => exact absurd rfl hkA
    | succ kA =>
    cases h1 : w.frozen? { block := a.block, off := kA + 1 } with
    | false => exact e1 false w (.inl rfl) (by simp [run_underlying ht, hz, h0, hnb, hnb', frozen, noView, viewAt, mayBeOne, stringish, shape, Sem.run, hsa, hsb, hfa, h1])
    | true =>
      cases h2 : w.frozen? b with
      | true => exact e1 _ w.drew (.inr rfl) (by simp [run_underlying ht, hz, h0, hnb, hnb', frozen, noView, viewAt, mayBeOne, stringish, shape, choose, Sem.run, hsa, hsb, hfa, h1, h2]; rfl)
      | false =>
        cases h3 : w.frozen? { block := b.block, off := kB + 1 } with
        | true => exact e1 _ w.drew (.inr rfl) (by simp [run_underlying ht, hz, h0, hnb, hnb', frozen, noView, viewAt, mayBeOne, stringish, shape, choose, Sem.run, hsa, hsb, hfa, h1, h2, h3]; rfl)
        | false => exact e1 false w (.inl rfl) (by simp [run_underlying ht, hz, h0, hnb, hnb', frozen, noView, viewAt, mayBeOne, stringish, shape, Sem.run, hsa, hsb, hfa, h1, h2, h3])

theorem in1_i : (Try.prog.info? 3).map (fun i => (i.zero, i.size, i.bytes)) = some (some (.int .i64 0), 1, 8) := by kernel_rfl
theorem in1_u : Try.prog.underlying 23 = some (.slice 3) := by kernel_rfl
theorem in1_ui : Try.prog.underlying 3 = some (.int .i64) := by kernel_rfl

/-- Another world, in which block b holds X. -/
structure RowIs (w w' : World) (b : Nat) (X : List Value) (t : TypeId) (fr : Nat × Nat) : Prop where
  at_ : w'.heap[b]? = some (.cells X.toArray t fr)
  other : ∀ d, d ≠ b → w'.heap[d]? = w.heap[d]?
  size : w'.heap.size = w.heap.size
  os : w'.os = w.os
  tape : w'.tape = w.tape
  output : w'.output = w.output
theorem RowIs.trans {w w1 w2 : World} {b : Nat} {X Y : List Value} {t : TypeId} {fr : Nat × Nat} (h1 : RowIs w w1 b X t fr) (h2 : RowIs w1 w2 b Y t fr) : RowIs w w2 b Y t fr :=
  ⟨h2.at_, fun d hd => (h2.other d hd).trans (h1.other d hd), h2.size.trans h1.size, h2.os.trans h1.os, h2.tape.trans h1.tape, h2.output.trans h1.output⟩

/-- Kept from the walk. -/
structure Held (p : Prop) : Prop where
  out : p

def i64s (l : List Int) : List Value := l.map (Value.int .i64)
@[simp] theorem i64s_len (l : List Int) : (i64s l).length = l.length := by simp [i64s]
theorem i64s_app (a b : List Int) : i64s (a ++ b) = i64s a ++ i64s b := by simp [i64s]
theorem i64s_one (l : List Int) : ∀ v ∈ i64s l, v.oneCell' = true := by
  intro v hv
  obtain ⟨x, _, rfl⟩ := List.mem_map.1 hv
  rfl

theorem setCells_kept (b : Nat) : ∀ (vs : List Value) (o : Nat) (w : World), (w.setCells b o vs).os = w.os ∧ (w.setCells b o vs).tape = w.tape ∧ (w.setCells b o vs).output = w.output
  | [], _, _ => ⟨rfl, rfl, rfl⟩
  | v :: r, o, w => setCells_kept b r (o + 1) (w.setCell ⟨b, o, none⟩ v)
theorem setCells_is {w : World} {b off : Nat} {P M N Q : List Value} {t : TypeId} {fr : Nat × Nat} (q : Nat) (hb : w.heap[b]? = some (.cells (P ++ M ++ Q).toArray t fr)) (hP : P.length = off) (hM : N.length = M.length) : RowIs w ((w.drewN q).setCells b off N) b (P ++ N ++ Q) t fr := by
  have hb' : (w.drewN q).heap[b]? = some (.cells (P ++ M ++ Q).toArray t fr) := hb
  obtain ⟨g1, g2, g3⟩ := setCells_row (c := b) (t := t) (fr := fr) N off _ (w.drewN q) hb' (by simp; omega)
  obtain ⟨k1, k2, k3⟩ := setCells_kept b N off (w.drewN q)
  refine ⟨?_, fun d hd => g3 d hd, g2, k1, k2, k3⟩
  · rw [g1]
    subst hP
    have e1 : (P ++ M ++ Q).take P.length = P := by rw [List.append_assoc, List.take_left' rfl]
    have e2 : (P ++ M ++ Q).drop (P.length + N.length) = Q := by rw [List.drop_left' (by simp [hM])]
    simp only [e1, e2]

/-- slices.Reverse within a row. -/
theorem rev_row (b off n c : Nat) (zs : List Int) (P Q : List Value) (t : TypeId) (fr : Nat × Nat) (w : World) (hb : w.heap[b]? = some (.cells (P ++ i64s zs ++ Q).toArray t fr)) (hfr : ∀ j, j < (P ++ i64s zs ++ Q).length → ¬ (fr.1 ≤ j ∧ j < fr.2)) (hP : P.length = off) (hn : zs.length = n) (hbig : n ≤ 9223372036854775807) :
    Calls Try.prog 48 #[.slice (some ⟨b, off, none⟩) n c] w fun e w' => e = .returned (.tuple #[]) ∧ RowIs w w' b (P ++ i64s zs.reverse ++ Q) t fr := by
  refine Calls.mono (Try.slices_Reverse_int_cells b off n c zs w (by omega) hbig (fun j hj => ?_) (fun j hj => ?_)) ?_
  · rw [cell_at hb]
    subst hP
    rw [List.getElem?_toArray, List.append_assoc, List.getElem?_append_right (by omega), List.getElem?_append_left (by simp; omega)]
    simp [i64s, List.getD_eq_getElem?_getD, hj]
  · exact frozen_at hb (by simpa using hfr) (by simp; omega)
  · rintro e w' ⟨he, q, hw⟩
    subst hw
    refine ⟨he, ?_⟩
    rw [List.take_of_length_le (by omega)]
    exact setCells_is q hb hP (by simp)

set_option maxHeartbeats 4000000 in
set_option maxRecDepth 100000 in
/-- slices.rotateLeft within a row. -/
theorem rotL_row (b off n k c : Nat) (A B : List Int) (P Q : List Value) (t : TypeId) (fr : Nat × Nat) (w : World) (hb : w.heap[b]? = some (.cells (P ++ i64s (A ++ B) ++ Q).toArray t fr)) (hfr : ∀ j, j < (P ++ i64s (A ++ B) ++ Q).length → ¬ (fr.1 ≤ j ∧ j < fr.2)) (hP : P.length = off) (hA : A.length = k) (hn : (A ++ B).length = n) (hkn1 : k < n) (hc : n ≤ c) (hbig : c ≤ 9223372036854775807) :
    Calls Try.prog 42 #[.slice (some ⟨b, off, none⟩) n c, .int .i64 k] w fun e w' => e = .returned (.tuple #[]) ∧ RowIs w w' b (P ++ i64s (B ++ A) ++ Q) t fr := by
  have hnl := hn
  rw [List.length_append] at hnl
  have hkn : k ≤ n := by omega
  have hkc : k ≤ c := by omega
  have l1 : (P ++ i64s (A ++ B) ++ Q).length = P.length + n + Q.length := by simp; omega
  have h1 : ∀ cc, Calls Try.prog 48 #[.slice (some ⟨b, off, none⟩) k cc] w fun e w' => e = .returned (.tuple #[]) ∧ RowIs w w' b (P ++ i64s A.reverse ++ (i64s B ++ Q)) t fr := fun cc =>
    rev_row b off k cc A P (i64s B ++ Q) t fr w (by rw [hb, i64s_app]; simp) (fun j hj => hfr j (by rw [l1]; simp at hj; omega)) hP hA (by omega)
  have h2 : ∀ cc w1, RowIs w w1 b (P ++ i64s A.reverse ++ (i64s B ++ Q)) t fr → Calls Try.prog 48 #[.slice (some ⟨b, off + k, none⟩) (n - k) cc] w1 fun e w' => e = .returned (.tuple #[]) ∧ RowIs w w' b (P ++ i64s A.reverse ++ i64s B.reverse ++ Q) t fr := fun cc w1 r1 => by
    refine Calls.mono (rev_row b (off + k) (n - k) cc B (P ++ i64s A.reverse) Q t fr w1 (by rw [r1.at_]; simp) (fun j hj => hfr j (by rw [l1]; simp at hj; omega)) (by simp; omega) (by omega) (by omega)) ?_
    rintro e w' ⟨he, r2⟩
    exact ⟨he, r1.trans r2⟩
  have h3 : ∀ w1, RowIs w w1 b (P ++ i64s A.reverse ++ i64s B.reverse ++ Q) t fr → Calls Try.prog 48 #[.slice (some ⟨b, off, none⟩) n c] w1 fun e w' => e = .returned (.tuple #[]) ∧ RowIs w w' b (P ++ i64s (B ++ A) ++ Q) t fr := fun w1 r1 => by
    refine Calls.mono (rev_row b off n c (A.reverse ++ B.reverse) P Q t fr w1 (by rw [r1.at_, i64s_app]; simp) (fun j hj => hfr j (by rw [l1]; simp at hj; omega)) hP (by simp; omega) (by omega)) ?_
    rintro e w' ⟨he, r2⟩
    refine ⟨he, r1.trans ?_⟩
    simpa using r2
  have hkn' : (k : Int) ≤ (n : Int) := by omega
  have hck : ¬ (c = k) := by omega
  have hkz : (0 : Int) ≤ (k : Int) := by omega
  have A1 := Held.mk h1
  have A2 := Held.mk h2
  have A3 := Held.mk h3
  clear hnl l1 hfr hP hA hn hb h1 h2 h3
  go_enter Try.func42, Try.ntmps42
  go_wp2_with fail
  go_call (A1.out _) as e w1 ⟨he, r1⟩
  subst he
  have B1 := Held.mk r1
  clear r1
  go_wp2_with fail
  go_call (A2.out _ _ B1.out) as e w2 ⟨he, r2⟩
  subst he
  have B2 := Held.mk r2
  clear r2
  go_wp2_with fail
  go_call (A3.out _ B2.out) as e w3 ⟨he, r3⟩
  subst he
  have B3 := Held.mk r3
  clear r3
  go_wp2_with fail
  go_returns
  exact ⟨rfl, B3.out⟩

set_option maxHeartbeats 4000000 in
set_option maxRecDepth 100000 in
/-- slices.rotateRight by one within a row. -/
theorem rotR_row (b off n c : Nat) (A : List Int) (x : Int) (P Q : List Value) (t : TypeId) (fr : Nat × Nat) (w : World) (hb : w.heap[b]? = some (.cells (P ++ i64s (A ++ [x]) ++ Q).toArray t fr)) (hfr : ∀ j, j < (P ++ i64s (A ++ [x]) ++ Q).length → ¬ (fr.1 ≤ j ∧ j < fr.2)) (hP : P.length = off) (hn : (A ++ [x]).length = n) (hc : n ≤ c) (hbig : c ≤ 9223372036854775807) :
    Calls Try.prog 34 #[.slice (some ⟨b, off, none⟩) n c, .int .i64 1] w fun e w' => e = .returned (.tuple #[]) ∧ RowIs w w' b (P ++ i64s (x :: A) ++ Q) t fr := by
  have hnl : A.length + 1 = n := by simpa using hn
  have A1 := Held.mk (rotL_row b off n A.length c A [x] P Q t fr w hb hfr hP rfl hn (by omega) hc hbig)
  have hw : IntKind.i64.wrap ((n : Int) - 1) = (A.length : Int) := by rw [IntKind.wrap_i64]; omega
  generalize A.length = k at A1 hw hnl
  clear hfr hP hn hb
  go_enter Try.func34, Try.ntmps34
  go_wp2_with fail
  go_call A1.out as e w1 ⟨he, r1⟩
  subst he
  have B1 := Held.mk r1
  clear r1
  go_wp2_with fail
  go_returns
  exact ⟨rfl, B1.out⟩
end Go.Proofs
