/- Proved here: what functions of the program compute, over the evaluator. No condition but those that each theorem states. -/
import Derived.Test.YtbnnaaadblpgiaaINS1
import Derived.Test.YtbnnaaadblpgiaaA7
import Derived.Shelf.RegionOpenPlain
import Derived.WalkKit
import Derived.Lib.Walk
import Derived.Lib.SliceRun
import Derived.Lib.JoinLaws
import Derived.Lib.AppendZeros
import Derived.Lib.Overlaps
import Derived.Laws.Externs
import Derived.Laws.CopyRow
import Derived.Lib.AppendZerosOnto
import Derived.Deep.AppendSrc
import Derived.Shelf.Spec.SlicesInsert
namespace Go.Proofs
open Go.RowKit Go.Shelf Go.Abs Go.Lib
set_option linter.unusedVariables false
set_option linter.unusedSimpArgs false

theorem one_cell' {w : World} {vb : Nat} {x : Value} (hx : w.cell? ⟨vb, 0, none⟩ = some x) (j : Nat) (u : Value) (hj : [x][j]? = some u) : w.cell? ((⟨vb, 0, none⟩ : Addr).add j) = some u := by
  match j, hj with
  | 0, hj => simp at hj; subst hj; exact hx
  | j + 1, hj => simp at hj

set_option maxHeartbeats 4000000 in
set_option maxRecDepth 100000 in
/-- At the end, room. -/
theorem in1_end_room (b n c vb vc : Nat) (x : Value) (cur : Array Value) (t : TypeId) (w : World) (hroom : n + 1 ≤ c) (hc63 : c ≤ 9223372036854775807)
    (fr : Nat × Nat) (hfr : ∀ j, j < cur.size → ¬ (fr.1 ≤ j ∧ j < fr.2)) (hb : w.heap[b]? = some (.cells cur t fr)) (hsz : c ≤ cur.size) (hx : w.cell? ⟨vb, 0, none⟩ = some x) (h1x : x.oneCell' = true) :
    Calls Try.prog 24 #[.slice (some ⟨b, 0, none⟩) n c, .int .i64 n, .slice (some ⟨vb, 0, none⟩) 1 vc] w fun e w' =>
      e = .returned (.slice (some ⟨b, 0, none⟩) (n + 1) c) ∧ w' = w.setCells b (n) [x] := by
  obtain ⟨i0, hi, hz0, hz1, hz2⟩ := info_parts in1_i
  have hsrc : Src Try.prog i0.size 23 (.slice (some ⟨vb, 0, none⟩) 1 vc) 1 [x] w := by
    rw [hz1]
    exact Src.ofSlice (e' := 3) w in1_u ⟨vb, 0, none⟩ 1 vc [x] rfl (one_cell' hx) (by simp [h1x])
  have hrun : ∀ ty, (Builtin.append_ #[23, 23] ty #[.slice (some ⟨b, 0, none⟩) n c, .slice (some ⟨vb, 0, none⟩) 1 vc]).run Try.prog w = .ok (.slice (some ⟨b, 0, none⟩) (n + 1) c) (w.setCells b (n) [x]) := fun ty => by
    have := run_append_room_src (P := Try.prog) w 23 23 ty 3 i0 in1_u hi b 0 n c _ 1 [x] hsrc hroom (fun j hj => by
      rw [hz1, cell_at hb, Array.getElem?_eq_getElem (by simp at hj; omega)]; rfl) (fun j hj => frozen_at hb hfr (by rw [hz1]; simp at hj; omega))
    simpa [hz1] using this
  go_enter Try.func24, Try.ntmps24
  go_wp2_with (at_builtin; refine Lib.wpList_append_run _ rfl _ _ _ _ rfl _ _ rfl rfl _ _ (hrun _) ?_)
  all_goals (go_ret; exact ⟨rfl, rfl⟩)

set_option maxHeartbeats 4000000 in
set_option maxRecDepth 100000 in
/-- At the end, no room. -/
theorem in1_end_grow (base : Option Addr) (n c vb vc : Nat) (x : Value) (cs : List Value) (w : World) (hnc : n ≤ c) (hroom : c < n + 1) (hbig : (n + 1) * 8 ≤ 140737488355328) (hcl : cs.length = n) (hnil : base = none → n = 0)
    (hcs : ∀ a, base = some a → ∀ j v, cs[j]? = some v → w.cell? (a.add j) = some v) (hx : w.cell? ⟨vb, 0, none⟩ = some x) (h1x : x.oneCell' = true) :
    Calls Try.prog 24 #[.slice base n c, .int .i64 n, .slice (some ⟨vb, 0, none⟩) 1 vc] w fun e w' =>
      e = .returned (.slice (some ⟨w.heap.size, 0, none⟩) (n + 1) (grownCap w (n + 1) c 3)) ∧
      w' = w.drew.alloc (.cells ((cs ++ [x]).toArray ++ Builtin.zeroCells (Value.int .i64 0).cells (grownCap w (n + 1) c 3 - (n + 1))) 3) := by
  obtain ⟨i0, hi, hz0, hz1, hz2⟩ := info_parts in1_i
  have hsrc : Src Try.prog i0.size 23 (.slice (some ⟨vb, 0, none⟩) 1 vc) 1 [x] w := by
    rw [hz1]
    exact Src.ofSlice (e' := 3) w in1_u ⟨vb, 0, none⟩ 1 vc [x] rfl (one_cell' hx) (by simp [h1x])
  have hold : (Builtin.firstCells i0.size n (.slice base n c)).run Try.prog w.drew = .ok cs.toArray w.drew := by
    rw [hz1]
    cases base with
    | none =>
      have h0 := hnil rfl
      subst h0
      obtain rfl : cs = [] := List.length_eq_zero_iff.1 (by simpa using hcl)
      exact run_firstCells_none w.drew 1 0 0 c
    | some a => exact run_firstCells_some w.drew 1 n a n c cs (by omega) (fun j v hj => hcs a rfl j v hj)
  have hrun : ∀ ty, (Builtin.append_ #[23, 23] ty #[.slice base n c, .slice (some ⟨vb, 0, none⟩) 1 vc]).run Try.prog w = _ := fun ty =>
    run_append_grow_src w 23 23 ty 3 i0 _ in1_u hi hz0 base n c cs hold _ 1 [x] hsrc hroom (by omega) (by rw [hz2]; exact growslice_fits hroom hbig)
  go_enter Try.func24, Try.ntmps24
  cases base with
  | none =>
    have h0 := hnil rfl
    subst h0
    go_wp2_with (at_builtin; refine Lib.wpList_append_run _ rfl _ _ _ _ rfl _ _ rfl rfl _ _ (hrun _) ?_)
    go_ret
    exact ⟨rfl, rfl⟩
  | some a =>
    obtain ⟨ab, ao, asp⟩ := a
    go_wp2_with (at_builtin; refine Lib.wpList_append_run _ rfl _ _ _ _ rfl _ _ rfl rfl _ _ (hrun _) ?_)
    all_goals (go_ret; exact ⟨rfl, rfl⟩)

set_option maxHeartbeats 4000000 in
set_option maxRecDepth 100000 in
/-- Within, room. -/
theorem in1_shift (b n c i vb vc : Nat) (v : Int) (A B : List Int) (z : Value) (Q : List Value) (vcur : Array Value) (t tv : TypeId) (frv : Nat × Nat) (w : World) (hA : A.length = i) (hn : (A ++ B).length = n) (hin : i < n) (hroom : n + 1 ≤ c) (hc63 : c ≤ 9223372036854775807) (hvb : vb ≠ b)
    (fr : Nat × Nat) (hfr : ∀ j, j < (i64s (A ++ B) ++ z :: Q).length → ¬ (fr.1 ≤ j ∧ j < fr.2)) (hb : w.heap[b]? = some (.cells (i64s (A ++ B) ++ z :: Q).toArray t fr)) (hsz : c ≤ (i64s (A ++ B) ++ z :: Q).length)
    (hv : w.heap[vb]? = some (.cells vcur tv frv)) (hfv : ∀ j, j < vcur.size → ¬ (frv.1 ≤ j ∧ j < frv.2)) (hx : vcur[0]? = some (.int .i64 v)) :
    Calls Try.prog 24 #[.slice (some ⟨b, 0, none⟩) n c, .int .i64 i, .slice (some ⟨vb, 0, none⟩) 1 vc] w fun e w' =>
      e = .returned (.slice (some ⟨b, 0, none⟩) (n + 1) c) ∧ RowIs w w' b (i64s (A ++ v :: B) ++ Q) t fr := by
  obtain ⟨i0, hi, hz0, hz1, hz2⟩ := info_parts in1_i
  have hnl : i + B.length = n := by rw [← hA]; simpa using hn
  have hz3 : ¬ ((i : Int) = (n : Int)) := by omega
  have hvs : 0 < vcur.size := (Array.getElem?_eq_some_iff.1 hx).1
  have hXl : (i64s (A ++ B) ++ z :: Q).length = n + 1 + Q.length := by simp; omega
  obtain ⟨r, w1, hw1, hov0⟩ := run_overlaps_any (P := Try.prog) w 23 4 3 in1_u 1 (fun w => by simp [Go.sizeOf, typeInfo, hi, hz1]) ⟨vb, 0, none⟩ ⟨b, i + 1, none⟩ 1 (n - i) (by omega) hvb tv t vcur.size (i64s (A ++ B) ++ z :: Q).toArray.size (shape_at hv) (shape_at hb) (by omega) (by simp) (frozen_at hv hfv hvs)
  have hov : ∀ cb, (callFunc 33 #[.slice (some ⟨vb, 0, none⟩) 1 vc, .slice (some ⟨b, i + 1, none⟩) (n - i) cb]).run Try.prog w = .ok (.value (.bool r)) w1 := fun cb => by
    rw [run_callFunc_extern Try.func33 (by kernel_rfl) (by kernel_rfl) (by kernel_rfl) (e := Extern.SlicesOverlaps.overlaps #[23, 23] #[4]) (by kernel_rfl), hov0]
    rfl
  have hb1 : w1.heap[b]? = some (.cells (i64s (A ++ B) ++ z :: Q).toArray t fr) := by rcases hw1 with rfl | rfl <;> exact hb
  have hv1 : w1.heap[vb]? = some (.cells vcur tv frv) := by rcases hw1 with rfl | rfl <;> exact hv
  have k0 : w1.heap = w.heap ∧ w1.os = w.os ∧ w1.tape = w.tape ∧ w1.output = w.output := by rcases hw1 with rfl | rfl <;> exact ⟨rfl, rfl, rfl, rfl⟩
  -- the rows
  have e1 : (i64s (A ++ B) ++ z :: Q).drop (i + 1 + (i64s B).length) = Q := by
    rw [show i + 1 + (i64s B).length = (i64s (A ++ B)).length + 1 by simp; omega, ← List.drop_drop, List.drop_left' rfl]; rfl
  obtain ⟨RA, hRA⟩ : ∃ RA, RA = (i64s (A ++ B) ++ z :: Q).take (i + 1) ++ i64s B ++ Q := ⟨_, rfl⟩
  have hRAl : RA.length = (i64s (A ++ B) ++ z :: Q).length := by rw [hRA]; simp; omega
  have hRB : RA.take i ++ [Value.int .i64 v] ++ RA.drop (i + 1) = i64s (A ++ v :: B) ++ Q := by
    have f1 : RA.take i = i64s A := by
      rw [hRA, List.append_assoc, List.take_append_of_le_length (by rw [List.length_take]; omega), List.take_take, show min i (i + 1) = i by omega, i64s_app, List.append_assoc, List.take_left' (by simp [hA])]
    have f2 : RA.drop (i + 1) = i64s B ++ Q := by
      rw [hRA, List.append_assoc, List.drop_left' (by rw [List.length_take]; omega)]
    rw [f1, f2]
    simp [i64s]
  have hcp1 : ∀ ty dc sc, (Builtin.copy_ #[23, 23] ty #[.slice (some ⟨b, i + 1, none⟩) (n - i) dc, .slice (some ⟨b, i, none⟩) (n + 1 - i) sc]).run Try.prog w1.drew = .ok (goInt ((n - i : Nat) : Int)) (w1.drew.setRow b RA.toArray) := fun ty dc sc => by
    have hb' : w1.drew.heap[b]? = some (.cells (i64s (A ++ B) ++ z :: Q).toArray t fr) := hb1
    have := run_copy_fr (P := Try.prog) w1.drew 23 23 ty 3 i0 b (i + 1) (n - i) dc ⟨b, i, none⟩ (n + 1 - i) sc (n - i) _ t fr (i64s B) in1_u hi (by simp only [Nat.min_def]; split <;> omega) hb' (by simpa using hfr) (by rw [hz1]; simp; omega)
      (fun j u hj => by
        rw [add_at, cell_at hb', List.getElem?_toArray, i64s_app, List.append_assoc, List.getElem?_append_right (by simp [hA]), List.getElem?_append_left (by
          have := (List.getElem?_eq_some_iff.1 hj).1
          simp [hA]; simpa using this)]
        simpa [hA] using hj) (by simp; omega) (i64s_one B)
    rw [this]
    simp only [e1]
    rw [hRA]
  have hcp2 : ∀ ty dc, (Builtin.copy_ #[23, 23] ty #[.slice (some ⟨b, i, none⟩) (n + 1 - i) dc, .slice (some ⟨vb, 0, none⟩) 1 vc]).run Try.prog (w1.drew.setRow b RA.toArray) = .ok (goInt 1) ((w1.drew.setRow b RA.toArray).setRow b (i64s (A ++ v :: B) ++ Q).toArray) := fun ty dc => by
    have hb' : (w1.drew.setRow b RA.toArray).heap[b]? = some (.cells RA.toArray t fr) := setRow_heap w1.drew b _ _ t _ hb1
    have hv' : (w1.drew.setRow b RA.toArray).heap[vb]? = some (.cells vcur tv frv) := (setRow_other w1.drew b vb _ hvb).trans hv1
    have := run_copy_fr (P := Try.prog) (w1.drew.setRow b RA.toArray) 23 23 ty 3 i0 b i (n + 1 - i) dc ⟨vb, 0, none⟩ 1 vc 1 RA.toArray t fr [.int .i64 v] in1_u hi (by simp only [Nat.min_def]; split <;> omega) hb' (by rw [List.size_toArray, hRAl]; exact hfr) (by rw [hz1]; rfl)
      (one_cell' (by rw [cell_at hv']; exact hx)) (by simp [hRAl]; omega) (i64s_one [v])
    rw [this]
    simp only [List.length_singleton, hRB]
    rfl
  have hcp3 : ∀ ty dc, (Builtin.copy_ #[23, 23] ty #[.slice (some ⟨b, n, none⟩) 1 dc, .slice (some ⟨vb, 0, none⟩) 1 vc]).run Try.prog w1 = .ok (goInt 1) (w1.setRow b (i64s A ++ i64s (B ++ [v]) ++ Q).toArray) := fun ty dc => by
    have := run_copy_fr (P := Try.prog) w1 23 23 ty 3 i0 b n 1 dc ⟨vb, 0, none⟩ 1 vc 1 _ t fr [.int .i64 v] in1_u hi (by simp) hb1 (by simpa using hfr) (by rw [hz1]; rfl)
      (one_cell' (by rw [cell_at hv1]; exact hx)) (by simp; omega) (i64s_one [v])
    rw [this]
    congr 3
    have f1 : (i64s (A ++ B) ++ z :: Q).take n = i64s (A ++ B) := List.take_left' (by simp; omega)
    have f2 : (i64s (A ++ B) ++ z :: Q).drop (n + 1) = Q := by
      rw [show n + 1 = (i64s (A ++ B)).length + 1 by simp; omega, ← List.drop_drop, List.drop_left' rfl]; rfl
    simp only [List.length_singleton, f1, f2]
    simp [i64s]
  have hrot : ∀ cc, n + 1 - i ≤ cc → cc ≤ 9223372036854775807 → Calls Try.prog 34 #[.slice (some ⟨b, i, none⟩) (n + 1 - i) cc, .int .i64 1] (w1.setRow b (i64s A ++ i64s (B ++ [v]) ++ Q).toArray) fun e w' => e = .returned (.tuple #[]) ∧ RowIs (w1.setRow b (i64s A ++ i64s (B ++ [v]) ++ Q).toArray) w' b (i64s (A ++ v :: B) ++ Q) t fr := fun cc h1 h2 => by
    refine Calls.mono (rotR_row b i (n + 1 - i) cc B v (i64s A) Q t fr _ (setRow_heap w1 b _ _ t _ hb1) (fun j hj => hfr j (by rw [hXl]; simp at hj; omega)) (by simp [hA]) (by simp; omega) h1 h2) ?_
    rintro e w' ⟨he, hr⟩
    refine ⟨he, ?_⟩
    have e : i64s (A ++ v :: B) = i64s A ++ i64s (v :: B) := i64s_app _ _
    rw [e]
    exact hr
  have done2 : RowIs w ((w1.drew.setRow b RA.toArray).setRow b (i64s (A ++ v :: B) ++ Q).toArray) b (i64s (A ++ v :: B) ++ Q) t fr :=
    ⟨setRow_heap _ b _ _ t _ (setRow_heap w1.drew b _ _ t _ hb1), fun d hd => (setRow_other _ b d _ hd).trans ((setRow_other w1.drew b d _ hd).trans (by show w1.heap[d]? = _; rw [k0.1])), by simp [World.setRow, World.drew, k0.1], k0.2.1, k0.2.2.1, k0.2.2.2⟩
  have done3 : RowIs w (w1.setRow b (i64s A ++ i64s (B ++ [v]) ++ Q).toArray) b (i64s A ++ i64s (B ++ [v]) ++ Q) t fr :=
    ⟨setRow_heap w1 b _ _ t _ hb1, fun d hd => (setRow_other w1 b d _ hd).trans (by rw [k0.1]), by simp [World.setRow, k0.1], k0.2.1, k0.2.2.1, k0.2.2.2⟩
  have hw1' : IntKind.i64.wrap ((i : Int) + 1) = (i : Int) + 1 := by rw [IntKind.wrap_i64]; omega
  have hw2' : IntKind.i64.wrap ((n : Int) + 1) = (n : Int) + 1 := by rw [IntKind.wrap_i64]; omega
  have hbz : (0 : Int) ≤ (i : Int) + 1 := by omega
  have htn : ((i : Int) + 1).toNat = i + 1 := by omega
  have hb2 : ¬ (c = i + 1) := by omega
  have hb3 : (i : Int) ≤ (n : Int) + 1 := by omega
  have hb4 : ¬ (c = i) := by omega
  have hb5 : ¬ (c = n) := by omega
  have hin' : i ≤ n := by omega
  have mixed : Try.prog.follows Departure.mixedOrders = true := by kernel_rfl
  have D2 := Held.mk done2
  have D3 := Held.mk done3
  have HR := Held.mk hrot
  clear done2 done3 hrot hRB e1 hov0 hw1 hb1 hv1 k0 hb hsz hfr hfv hv hx hXl hRAl hRA hn hA
  generalize (i64s (A ++ v :: B) ++ Q) = Y at *
  generalize (i64s A ++ i64s (B ++ [v]) ++ Q) = Z at *
  cases r with
  | false =>
    go_enter Try.func24, Try.ntmps24
    go_wp2
    go_region_law_o (refine step_copy_runI rfl _ _ 23 23 rfl _ _ (by simp [Act.eval, Act.put]) (by simp [Act.eval, Act.put]) (hcp1 _ _ _) ?_)
    go_wp2_with (at_builtin; refine wpList_copy_runI _ rfl _ _ 23 23 rfl _ _ rfl rfl (hcp2 _ _) ?_)
    go_ret
    exact ⟨rfl, D2.out⟩
  | true =>
    go_enter Try.func24, Try.ntmps24
    go_wp2_with (at_builtin; refine wpList_copy_runI _ rfl _ _ 23 23 rfl _ _ rfl rfl (hcp3 _ _) ?_)
    go_call (HR.out _ (by omega) (by omega)) as e w2 ⟨he, r2⟩
    subst he
    have B2 := Held.mk r2
    clear r2
    go_wp2_with fail
    go_ret
    exact ⟨rfl, D3.out.trans B2.out⟩

/-- The new row: as it is made, with the new element, with what stood behind. -/
def in1R (cur : Array Value) (n i G : Nat) : Array Value := (cur.toList.take (i)).toArray ++ Builtin.zeroCells (Value.int .i64 0).cells (n + 1 - i) ++ Builtin.zeroCells (Value.int .i64 0).cells (G - (n + 1))
def in1S (R : Array Value) (i : Nat) (x : Value) : Array Value := (R.toList.take (i) ++ [x] ++ R.toList.drop (i + 1)).toArray
def in1T (S cur : Array Value) (n i : Nat) : Array Value := (S.toList.take ((i + 1)) ++ (cur.toList.take (n)).drop (i) ++ S.toList.drop ((i + 1) + ((cur.toList.take (n)).drop (i)).length)).toArray

theorem in1R_size {cur : Array Value} {n i G : Nat} (h : n ≤ cur.size) (hi : i < n) (hG : n + 1 ≤ G) : (in1R cur n i G).size = G := by
  have := Array.length_toList (xs := cur)
  have hz : (Value.int .i64 0).cells.size = 1 := rfl
  simp only [in1R, Array.size_append, List.size_toArray, List.length_take, size_zeroCells, hz]
  omega

theorem in1S_size {R : Array Value} {i : Nat} {x : Value} (h : (i + 1) ≤ R.size) : (in1S R i x).size = R.size := by
  have := Array.length_toList (xs := R)
  simp only [in1S, List.size_toArray, List.length_append, List.length_take, List.length_drop, List.length_cons, List.length_nil]
  omega

set_option maxHeartbeats 4000000 in
set_option maxRecDepth 100000 in
/-- Within, no room. -/
theorem in1_grow (b n c i vb vc : Nat) (x : Value) (cur vcur : Array Value) (t tv : TypeId) (w : World) (hin : i < n) (hnc : n ≤ c) (hroom : c < n + 1) (hbig : (n + 1) * 8 ≤ 140737488355328)
    (fr : Nat × Nat) (hfr : ∀ j, j < cur.size → ¬ (fr.1 ≤ j ∧ j < fr.2)) (hb : w.heap[b]? = some (.cells cur t fr)) (hsz : c ≤ cur.size) (h1c : ∀ v ∈ cur.toList.take (n), v.oneCell' = true) (frv : Nat × Nat) (hv : w.heap[vb]? = some (.cells vcur tv frv)) (hx : vcur[0]? = some x) (h1x : x.oneCell' = true) :
    Calls Try.prog 24 #[.slice (some ⟨b, 0, none⟩) n c, .int .i64 i, .slice (some ⟨vb, 0, none⟩) 1 vc] w fun e w' =>
      ∃ G, G = grownCap w (n + 1) c 3 ∧ e = .returned (.slice (some ⟨w.heap.size, 0, none⟩) (n + 1) G) ∧
      w' = ((w.alloc (.cells (in1R cur n i G) 3)).drew.setRow w.heap.size (in1S (in1R cur n i G) i x)).drew.setRow w.heap.size (in1T (in1S (in1R cur n i G) i x) cur n i) := by
  obtain ⟨i0, hi, hz0, hz1, hz2⟩ := info_parts in1_i
  have hz3 : ¬ ((i : Int) = (n : Int)) := by omega
  have hz4 : (c : Int) < (n : Int) + 1 := by omega
  have hcl : cur.toList.length = cur.size := Array.length_toList
  have hbw : b < w.heap.size := (Array.getElem?_eq_some_iff.1 hb).1
  have hvw : vb < w.heap.size := (Array.getElem?_eq_some_iff.1 hv).1
  have hkk : (n : Int) + 1 - (i : Int) = ((n + 1 - i : Nat) : Int) := by omega
  have hik : i + (n + 1 - i) = n + 1 := by omega
  have hml : ((cur.toList.take (n)).drop (i)).length = (n - i) := by rw [List.length_drop, List.length_take]; omega
  have hold : (Builtin.firstCells i0.size i (.slice (some ⟨b, 0, none⟩) i c)).run Try.prog w.drew = .ok (cur.toList.take (i)).toArray w.drew := by
    rw [hz1]
    exact run_firstCells_some w.drew 1 i ⟨b, 0, none⟩ i c (cur.toList.take (i)) (by rw [List.length_take]; omega) (fun j v hj => by
      have hb' : w.drew.heap[b]? = some (.cells cur t fr) := hb
      rw [add_at, cell_at hb']
      rw [List.getElem?_take] at hj
      split at hj
      · simpa using hj
      · cases hj)
  have hrz : ∀ ty, (Builtin.append_ #[23, 3] ty #[.slice (some ⟨b, 0, none⟩) i c, .int .i64 ((n : Int) + 1 - (i : Int))]).run Try.prog w =
      .ok (.slice (some ⟨w.heap.size, 0, none⟩) (n + 1) (grownCap w (n + 1) c 3)) (w.alloc (.cells (in1R cur n i (grownCap w (n + 1) c 3)) 3)).drew := fun ty => by
    have h := Lib.run_append_grow_zeros w 23 3 ty 3 i0 _ .i64 .i64 in1_u in1_ui hi hz0 (some ⟨b, 0, none⟩) i c (cur.toList.take (i)) hold (n + 1 - i) (by omega) (by omega) (by omega) (by omega) (by rw [hz2]; omega) (by rw [hz2, hik]; exact growslice_fits hroom hbig)
    rw [hik] at h
    rw [hkk]
    refine h.trans ?_
    rfl
  have hGn : n + 1 ≤ grownCap w (n + 1) c 3 := grownCap_ge w _ _ _
  have hG63 : grownCap w (n + 1) c 3 ≤ maxLen := grownCap_le_maxLen w (n + 1) c 3 (by unfold maxLen; omega)
  generalize hG : grownCap w (n + 1) c 3 = G at hrz hGn hG63
  have hRs := in1R_size (cur := cur) (n := n) (i := i) (G := G) (by omega) hin hGn
  generalize hR : in1R cur n i G = R at hrz hRs
  have hSs : (in1S R i x).size = R.size := in1S_size (by omega)
  generalize hS : in1S R i x = S at hSs
  have hw0 : (w.alloc (.cells R 3)).drew.heap[w.heap.size]? = some (.cells R 3 (0, 0)) := heap_alloc_at w.drew _
  have hwv : (w.alloc (.cells R 3)).drew.heap[vb]? = some (.cells vcur tv frv) := (heap_alloc_lt w.drew _ vb hvw).trans hv
  have hwb : (w.alloc (.cells R 3)).drew.heap[b]? = some (.cells cur t fr) := (heap_alloc_lt w.drew _ b hbw).trans hb
  have hcpA : ∀ ty dc, (Builtin.copy_ #[23, 23] ty #[.slice (some ⟨w.heap.size, i, none⟩) (n + 1 - i) dc, .slice (some ⟨vb, 0, none⟩) 1 vc]).run Try.prog (w.alloc (.cells R 3)).drew = .ok (goInt 1) ((w.alloc (.cells R 3)).drew.setRow w.heap.size S) := fun ty dc => by
    rw [← hS]
    exact run_copy_fr _ _ _ ty 3 i0 w.heap.size (i) (n + 1 - i) dc ⟨vb, 0, none⟩ 1 vc 1 R 3 (0, 0) [x] in1_u hi (by simp only [Nat.min_def]; split <;> omega) hw0 (Frz.none 1 _).1 (by rw [hz1]; rfl)
      (one_cell' (by rw [cell_at hwv]; exact hx)) (by simp; omega) (by simp [h1x])
  have hh1 : (((w.alloc (.cells R 3)).drew.setRow w.heap.size S).drew).heap[w.heap.size]? = some (.cells S 3 (0, 0)) := setRow_heap _ _ R _ 3 _ hw0
  have hwb1 : (((w.alloc (.cells R 3)).drew.setRow w.heap.size S).drew).heap[b]? = some (.cells cur t fr) := (setRow_other _ _ b _ (by omega)).trans hwb
  have hcpB : ∀ ty dc sc, (Builtin.copy_ #[23, 23] ty #[.slice (some ⟨w.heap.size, (i + 1), none⟩) (n - i) dc, .slice (some ⟨b, i, none⟩) (n - i) sc]).run Try.prog ((w.alloc (.cells R 3)).drew.setRow w.heap.size S).drew =
      .ok (goInt ((n - i : Nat) : Int)) (((w.alloc (.cells R 3)).drew.setRow w.heap.size S).drew.setRow w.heap.size (in1T S cur n i)) := fun ty dc sc => by
    exact run_copy_fr _ _ _ ty 3 i0 w.heap.size ((i + 1)) (n - i) dc ⟨b, i, none⟩ (n - i) sc (n - i) S 3 (0, 0) ((cur.toList.take (n)).drop (i)) in1_u hi (by simp [Nat.min_def]) hh1 (Frz.none 1 _).1 (by rw [hz1, hml, Nat.mul_one])
      (fun j v hj => by
        rw [add_at, cell_at hwb1]
        rw [List.getElem?_drop, List.getElem?_take] at hj
        split at hj
        · simpa using hj
        · cases hj) (by rw [hml]; omega) (fun v hv => h1c v (List.mem_of_mem_drop hv))
  generalize hT : in1T S cur n i = T at hcpB
  have hw1 : IntKind.i64.wrap ((i : Int) + 1) = (i : Int) + 1 := by rw [IntKind.wrap_i64]; omega
  have hw2 : IntKind.i64.wrap ((n : Int) + 1) = (n : Int) + 1 := by rw [IntKind.wrap_i64]; omega
  have hw3 : IntKind.i64.wrap ((n : Int) + 1 - (i : Int)) = (n : Int) + 1 - (i : Int) := by rw [IntKind.wrap_i64]; unfold maxLen at hG63; omega
  have hb1 : (0 : Int) ≤ (i : Int) + 1 := by omega
  have htn : ((i : Int) + 1).toNat = i + 1 := by omega
  have hb2 : ¬ (c = i) := by omega
  have hb3 : (i : Int) ≤ (n : Int) := by omega
  have hGi : ¬ (G = i) := by omega
  have hGim : ¬ (G = i + 1) := by omega
  have hb5 : (i : Int) ≤ (n : Int) + 1 := by omega
  have hin' : i ≤ n := by omega
  have hic : i ≤ c := by omega
  have mixed : Try.prog.follows Departure.mixedOrders = true := by kernel_rfl
  clear hkk hik hold hw0 hwv hwb hh1 hwb1
  go_enter Try.func24, Try.ntmps24
  go_wp2_with (first
    | (at_builtin; refine Lib.wpList_append_run _ rfl _ _ _ _ rfl _ _ rfl rfl _ _ (hrz _) ?_)
    | (at_builtin; refine wpList_copy_runI _ rfl _ _ 23 23 rfl _ _ rfl rfl (hcpA _ _) ?_))
  go_region_law_o (refine step_copy_runI rfl _ _ 23 23 rfl _ _ (by simp [Act.eval, Act.put]) (by simp [Act.eval, Act.put]) (hcpB _ _ _) ?_)
  go_wp2
  go_ret
  subst hT hS hR hG
  exact ⟨_, rfl, rfl, rfl⟩

theorem in1_shape_alloc {w : World} {o : Obj} {d : Nat} {x : TypeId × Nat} (h : w.shape? d = some x) : (w.drew.alloc o).shape? d = some x := by
  have hd : d < w.heap.size := by
    unfold World.shape? at h
    cases hh : w.heap[d]? with
    | none => rw [hh] at h; cases h
    | some _ => exact (Array.getElem?_eq_some_iff.1 hh).1
  rw [shape_of_heap (heap_alloc_lt w.drew o d hd)]
  exact h

theorem in1_zc : (Value.int .i64 0).cells.size = 1 := rfl

/-- What an insertion into the row of block b leaves: the row 'L' ahead in block g. -/
structure InsDone1 (w w' : World) (b g k cap : Nat) (L : List Value) : Prop where
  at_ : ∃ cs e fr, w'.heap[g]? = some (.cells cs e fr) ∧ Frz 1 cs.size fr ∧ cap ≤ cs.size ∧ cs.toList.take k = L
  place : g = b ∨ w.heap.size ≤ g
  fits : k ≤ cap
  max : cap ≤ maxLen
  size : w.heap.size ≤ w'.heap.size
  other : ∀ d, d < w.heap.size → d ≠ b → w'.heap[d]? = w.heap[d]?
  shape : ∀ d x, w.shape? d = some x → w'.shape? d = some x
  os : w'.os = w.os
  tape : w'.tape = w.tape
  output : w'.output = w.output

theorem in1_nil (vb vc : Nat) (v : Int) (w : World) (hx : w.cell? ⟨vb, 0, none⟩ = some (.int .i64 v)) :
    Calls Try.prog 24 #[.slice none 0 0, .int .i64 0, .slice (some ⟨vb, 0, none⟩) 1 vc] w fun e w' => ∃ g cap, e = .returned (.slice (some ⟨g, 0, none⟩) 1 cap) ∧ w.heap.size ≤ g ∧ InsDone1 w w' g g 1 cap [.int .i64 v] := by
  refine Calls.mono (in1_end_grow none 0 0 vb vc (.int .i64 v) [] w (Nat.le_refl _) (by omega) (by omega) rfl (fun _ => rfl) (by simp) hx rfl) ?_
  rintro e w' ⟨he, hw⟩
  subst hw
  have hg := grownCap_ge w (0 + 1) 0 3
  have hm := grownCap_le_maxLen w (0 + 1) 0 3 (by unfold maxLen; omega)
  generalize grownCap w (0 + 1) 0 3 = G at he hg hm ⊢
  refine ⟨w.heap.size, G, he, Nat.le_refl _, ⟨_, _, _, heap_alloc_at w.drew _, Frz.none _ _, ?_, ?_⟩, .inl rfl, hg, hm, by simp, fun d hd hne => heap_alloc_lt w.drew _ d hd, fun d x h => in1_shape_alloc h, rfl, rfl, rfl⟩
  · rw [Array.size_append, size_zeroCells, in1_zc]; simp; omega
  · simp

theorem in1_some (b n c i vb vc : Nat) (v : Int) (l : List Int) (cur vcur : Array Value) (t tv : TypeId) (frv : Nat × Nat) (w : World) (hin : i ≤ n) (hnc : n ≤ c) (hcm : c ≤ maxLen) (hbig : (n + 1) * 8 ≤ 140737488355328) (hvb : vb ≠ b) (fr : Nat × Nat) (hfr : Frz 1 cur.size fr) (hb : w.heap[b]? = some (.cells cur t fr)) (hsz : c ≤ cur.size)
    (hl : cur.toList.take n = i64s l) (hn : l.length = n) (hv : w.heap[vb]? = some (.cells vcur tv frv)) (hfv : Frz 1 vcur.size frv) (hx : vcur[0]? = some (.int .i64 v)) :
    Calls Try.prog 24 #[.slice (some ⟨b, 0, none⟩) n c, .int .i64 i, .slice (some ⟨vb, 0, none⟩) 1 vc] w fun e w' => ∃ g cap, e = .returned (.slice (some ⟨g, 0, none⟩) (n + 1) cap) ∧
      InsDone1 w w' b g (n + 1) cap (i64s (l.take i ++ v :: l.drop i)) := by
  have hcl : cur.toList.length = cur.size := Array.length_toList
  have hxc : w.cell? ⟨vb, 0, none⟩ = some (.int .i64 v) := by rw [cell_at hv]; exact hx
  have hbl : b < w.heap.size := (Array.getElem?_eq_some_iff.1 hb).1
  have h1c : ∀ u ∈ cur.toList.take n, u.oneCell' = true := by rw [hl]; exact i64s_one l
  have hcat : l.take i ++ l.drop i = l := List.take_append_drop i l
  rcases Nat.lt_or_ge i n with hlt | hge
  · by_cases hr : n + 1 ≤ c
    · obtain ⟨z, Q, hzQ⟩ : ∃ z Q, cur.toList.drop n = z :: Q := by
        cases h : cur.toList.drop n with
        | nil => have := List.length_drop (i := n) (l := cur.toList); rw [h] at this; simp at this; omega
        | cons z Q => exact ⟨z, Q, rfl⟩
      have hcur : cur = (i64s (l.take i ++ l.drop i) ++ z :: Q).toArray := by
        rw [hcat, ← hl, ← hzQ, List.take_append_drop, Array.toArray_toList]
      have hlen : (i64s (l.take i ++ l.drop i) ++ z :: Q).length = cur.size := by
        have := congrArg Array.size hcur
        simpa using this.symm
      refine Calls.mono (in1_shift b n c i vb vc v (l.take i) (l.drop i) z Q vcur t tv frv w (by rw [List.length_take]; omega) (by rw [hcat]; exact hn) hlt hr (by unfold maxLen at hcm; omega) hvb fr (by rw [hlen]; exact hfr.1) (by rw [← hcur]; exact hb) (by rw [hlen]; exact hsz) hv hfv.1 hx) ?_
      rintro e w' ⟨he, R⟩
      have hYl : (i64s (l.take i ++ v :: l.drop i) ++ Q).length = cur.size := by
        rw [← hlen]; simp; omega
      refine ⟨b, c, he, ⟨_, t, fr, R.at_, ?_, ?_, ?_⟩, .inl rfl, hr, hcm, by rw [R.size]; exact Nat.le_refl _, fun d _ hne => R.other d hne, fun d x h => ?_, R.os, R.tape, R.output⟩
      · rw [List.size_toArray, hYl]; exact hfr
      · rw [List.size_toArray, hYl]; exact hsz
      · exact List.take_left' (by simp; omega)
      · by_cases hdb : d = b
        · subst hdb
          rw [shape_at hb] at h
          cases h
          rw [shape_at R.at_, List.size_toArray, hYl]
        · rw [shape_of_heap (R.other d hdb)]
          exact h
    · refine Calls.mono (in1_grow b n c i vb vc (.int .i64 v) cur vcur t tv w hlt hnc (by omega) hbig fr hfr.1 hb hsz h1c frv hv hx rfl) ?_
      rintro e w' ⟨G, hG, he, hw⟩
      subst hw
      have htl : (cur.toList.take i).length = i := by rw [List.length_take]; omega
      have hml : ((cur.toList.take n).drop i).length = n - i := by rw [List.length_drop, List.length_take]; omega
      have hg := grownCap_ge w (n + 1) c 3
      have hm := grownCap_le_maxLen w (n + 1) c 3 (by unfold maxLen; omega)
      rw [← hG] at hg hm
      have hR := in1R_size (cur := cur) (n := n) (i := i) (G := G) (by omega) hlt hg
      generalize hRR : in1R cur n i G = R at hR ⊢
      have hS := in1S_size (R := R) (i := i) (x := .int .i64 v) (by omega)
      have hRt : R.toList.take i = cur.toList.take i := by
        rw [← hRR]
        simp only [in1R, Array.toList_append]
        rw [List.append_assoc, List.take_append_of_le_length (by rw [htl]; exact Nat.le_refl _), List.take_of_length_le (by rw [htl]; exact Nat.le_refl _)]
      have hSt : (in1S R i (.int .i64 v)).toList.take (i + 1) = cur.toList.take i ++ [.int .i64 v] := by
        simp only [in1S]
        rw [hRt, List.take_append_of_le_length (by simp [htl]), List.take_of_length_le (by simp [htl])]
      generalize in1S R i (.int .i64 v) = S at hS hSt ⊢
      have hSl := Array.length_toList (xs := S)
      have hT : (in1T S cur n i).size = S.size := by
        simp only [in1T, List.size_toArray, List.length_append, List.length_take, List.length_drop]
        omega
      have h0 : ((w.alloc (.cells R 3)).drew).heap[w.heap.size]? = some (.cells R 3 (0, 0)) := heap_alloc_at w _
      have h1 : (((w.alloc (.cells R 3)).drew.setRow w.heap.size S).drew).heap[w.heap.size]? = some (.cells S 3 (0, 0)) := setRow_heap _ _ R _ 3 _ h0
      have old : ∀ d, d < w.heap.size → (((w.alloc (.cells R 3)).drew.setRow w.heap.size S).drew.setRow w.heap.size (in1T S cur n i)).heap[d]? = w.heap[d]? := fun d hd =>
        (setRow_other _ _ d _ (by omega)).trans ((setRow_other _ _ d _ (by omega)).trans (heap_alloc_lt w _ d hd))
      refine ⟨w.heap.size, G, he, ⟨_, 3, _, setRow_heap _ _ S _ 3 _ h1, Frz.none _ _, by rw [hT, hS, hR]; exact Nat.le_refl _, ?_⟩, .inr (Nat.le_refl _), hg, hm, by simp, fun d hd _ => old d hd, fun d x h => ?_, rfl, rfl, rfl⟩
      · simp only [in1T]
        rw [hSt, List.take_append_of_le_length (by simp [htl, hml]; omega), List.take_of_length_le (by simp [htl, hml]; omega), hl]
        have e1 : cur.toList.take i = i64s (l.take i) := by
          have : cur.toList.take i = (cur.toList.take n).take i := by rw [List.take_take]; congr 1; omega
          rw [this, hl]; simp [i64s]
        rw [e1]
        simp [i64s]
      · have hd : d < w.heap.size := by
          unfold World.shape? at h
          cases hh : w.heap[d]? with
          | none => rw [hh] at h; cases h
          | some _ => exact (Array.getElem?_eq_some_iff.1 hh).1
        rw [shape_of_heap (old d hd)]
        exact h
  · obtain rfl : i = n := by omega
    have hfin : i64s (l.take i ++ v :: l.drop i) = cur.toList.take i ++ [.int .i64 v] := by
      rw [hl, ← hn, List.take_length, List.drop_length]
      simp [i64s]
    rw [hfin]
    have htl : (cur.toList.take i).length = i := by rw [hl, i64s_len, hn]
    by_cases hr : i + 1 ≤ c
    · refine Calls.mono (in1_end_room b i c vb vc (.int .i64 v) cur t w hr (by unfold maxLen at hcm; omega) fr hfr.1 hb hsz hxc rfl) ?_
      rintro e w' ⟨he, hw⟩
      subst hw
      obtain ⟨g1, g2, g3⟩ := setCells_row (c := b) (t := t) (fr := fr) [.int .i64 v] i cur w hb (by simp; omega)
      have hsize : (cur.toList.take i ++ [Value.int .i64 v] ++ cur.toList.drop (i + [Value.int .i64 v].length)).toArray.size = cur.size := by simp; omega
      obtain ⟨k1, k2, k3⟩ := setCells_kept b [.int .i64 v] i w
      refine ⟨b, c, he, ⟨_, t, fr, g1, by rw [hsize]; exact hfr, by rw [hsize]; exact hsz, ?_⟩, .inl rfl, hr, hcm, by rw [g2]; exact Nat.le_refl _, fun d hd hne => g3 d hne, fun d z h => ?_, k1, k2, k3⟩
      · rw [List.take_append_of_le_length (by simp [htl]), List.take_of_length_le (by simp [htl])]
      · by_cases hdb : d = b
        · subst hdb
          rw [shape_at hb] at h
          cases h
          rw [shape_at g1, hsize]
        · rw [shape_of_heap (g3 d hdb)]
          exact h
    · refine Calls.mono (in1_end_grow (some ⟨b, 0, none⟩) i c vb vc (.int .i64 v) (cur.toList.take i) w hnc (by omega) hbig htl (by simp) (fun a ha j u hj => ?_) hxc rfl) ?_
      · cases ha
        rw [add_at, Nat.zero_add, cell_at hb]
        rw [List.getElem?_take] at hj
        split at hj
        · simpa using hj
        · cases hj
      · rintro e w' ⟨he, hw⟩
        subst hw
        have hg := grownCap_ge w (i + 1) c 3
        have hm := grownCap_le_maxLen w (i + 1) c 3 (by unfold maxLen; omega)
        generalize grownCap w (i + 1) c 3 = G at he hg hm ⊢
        refine ⟨w.heap.size, G, he, ⟨_, _, _, heap_alloc_at w.drew _, Frz.none _ _, ?_, ?_⟩, .inr (Nat.le_refl _), hg, hm, by simp, fun d hd hne => heap_alloc_lt w.drew _ d hd, fun d x h => in1_shape_alloc h, rfl, rfl, rfl⟩
        · rw [Array.size_append, size_zeroCells, in1_zc, List.size_toArray, List.length_append, htl]; simp; omega
        · rw [Array.toList_append, List.take_append_of_le_length (by simp [htl]), List.take_of_length_le (by simp [htl])]
end Go.Proofs
