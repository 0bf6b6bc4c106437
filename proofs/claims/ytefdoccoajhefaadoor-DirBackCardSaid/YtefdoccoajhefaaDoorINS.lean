/- Proved here: what functions of the program compute, over the evaluator. No condition but those that each theorem states. -/
import Derived.Test.YtefdoccoajhefaaDoorDC
import Derived.Test.YtefdoccoajhefaaDoorA7
import Derived.Shelf.RegionOpenPlain
import Derived.WalkKit
import Derived.Lib.Walk
import Derived.Lib.SliceRun
import Derived.Lib.JoinLaws
import Derived.Lib.AppendZeros
import Derived.Lib.Overlaps
import Derived.Laws.Externs
import Derived.Laws.CopyRow
import Derived.Lib.AppendZerosOnto
import Derived.Deep.AppendSrc
import Derived.Shelf.Spec.SlicesInsert
namespace Go.Proofs
open Go.RowKit Go.Shelf Go.Abs Go.Lib
set_option linter.unusedVariables false
set_option linter.unusedSimpArgs false

/-- copy of elements of any size into a row. -/
theorem run_copy_sz {P : Program} (w : World) (dT sT ty elem : TypeId) (i : TypeInfo) (g o dLen dCap : Nat) (a : Addr) (sLen sCap m : Nat) (cur : Array Value) (t : TypeId) (cs : List Value)
    (hu : P.underlying dT = some (.slice elem)) (hi : P.info? elem = some i) (hm : Nat.min sLen dLen = m)
    (hg : w.heap[g]? = some (.cells cur t (0, 0))) (hn : cs.length = m * i.size)
    (hsrc : ∀ j v, cs[j]? = some v → w.cell? (a.add j) = some v) (hfit : o + cs.length ≤ cur.size) (h1 : ∀ v ∈ cs, v.oneCell' = true) :
    (Builtin.copy_ #[dT, sT] ty #[.slice (some ⟨g, o, none⟩) dLen dCap, .slice (some a) sLen sCap]).run P w =
      .ok (goInt m) (w.setRow g (cur.toList.take o ++ cs ++ cur.toList.drop (o + cs.length)).toArray) := by
  have hl := run_loadCells_list (P := P) w a cs hsrc
  have hst := run_storeCells_at P g o t cs 0 cur w hg (by simpa using hfit) h1
  simp [Builtin.copy_, run_underlying hu, Builtin.lenOf, Builtin.firstCells, sizeOf, typeInfo, hi, hm, ← hn, hl, hst]

theorem i42 : (Tryd.prog.info? 42).map (fun i => (i.zero, i.size, i.bytes)) = some (some (.agg #[.string ⟨#[]⟩, .int .i64 0]), 2, 24) := by kernel_rfl
theorem u28 : Tryd.prog.underlying 28 = some (.slice 42) := by kernel_rfl
theorem u3i : Tryd.prog.underlying 3 = some (.int .i64) := by kernel_rfl

theorem two_cells {w : World} {vb : Nat} {x y : Value} (hx : w.cell? ⟨vb, 0, none⟩ = some x) (hy : w.cell? ⟨vb, 1, none⟩ = some y) (j : Nat) (u : Value) (hj : [x, y][j]? = some u) : w.cell? ((⟨vb, 0, none⟩ : Addr).add j) = some u := by
  match j, hj with
  | 0, hj => simp at hj; subst hj; exact hx
  | 1, hj => simp at hj; subst hj; exact hy
  | j + 2, hj => simp at hj

set_option maxHeartbeats 4000000 in
set_option maxRecDepth 100000 in
/-- At the end, room. -/
theorem ins_end_room (b n c vb vc : Nat) (x y : Value) (cur : Array Value) (t : TypeId) (w : World) (hroom : n + 1 ≤ c) (hc63 : c ≤ 9223372036854775807)
    (hb : w.heap[b]? = some (.cells cur t (0, 0))) (hsz : c * 2 ≤ cur.size) (hx : w.cell? ⟨vb, 0, none⟩ = some x) (hy : w.cell? ⟨vb, 1, none⟩ = some y) (h1x : x.oneCell' = true) (h1y : y.oneCell' = true) :
    Calls Tryd.prog 40 #[.slice (some ⟨b, 0, none⟩) n c, .int .i64 n, .slice (some ⟨vb, 0, none⟩) 1 vc] w fun e w' =>
      e = .returned (.slice (some ⟨b, 0, none⟩) (n + 1) c) ∧ w' = w.setCells b (n * 2) [x, y] := by
  obtain ⟨i0, hi, hz0, hz1, hz2⟩ := info_parts i42
  have hsrc : Src Tryd.prog i0.size 28 (.slice (some ⟨vb, 0, none⟩) 1 vc) 1 [x, y] w := by
    rw [hz1]
    exact Src.ofSlice (e' := 42) w u28 ⟨vb, 0, none⟩ 1 vc [x, y] rfl (two_cells hx hy) (by simp [h1x, h1y])
  have hrun : ∀ ty, (Builtin.append_ #[28, 28] ty #[.slice (some ⟨b, 0, none⟩) n c, .slice (some ⟨vb, 0, none⟩) 1 vc]).run Tryd.prog w = .ok (.slice (some ⟨b, 0, none⟩) (n + 1) c) (w.setCells b (n * 2) [x, y]) := fun ty => by
    have := run_append_room_src (P := Tryd.prog) w 28 28 ty 42 i0 u28 hi b 0 n c _ 1 [x, y] hsrc hroom (fun j hj => by
      rw [hz1, cell_at hb, Array.getElem?_eq_getElem (by simp at hj; omega)]; rfl) (fun j hj => frozen_at hb (Frz.none 2 _).1 (by rw [hz1]; simp at hj; omega))
    simpa [hz1] using this
  go_enter Tryd.func40, Tryd.ntmps40
  go_wp2_with (at_builtin; refine Lib.wpList_append_run _ rfl _ _ _ _ rfl _ _ rfl rfl _ _ (hrun _) ?_)
  all_goals (go_ret; exact ⟨rfl, rfl⟩)

set_option maxHeartbeats 4000000 in
set_option maxRecDepth 100000 in
/-- At the end, no room. -/
theorem ins_end_grow (base : Option Addr) (n c vb vc : Nat) (x y : Value) (cs : List Value) (w : World) (hnc : n ≤ c) (hroom : c < n + 1) (hbig : (n + 1) * 24 ≤ 140737488355328) (hcl : cs.length = n * 2) (hnil : base = none → n = 0)
    (hcs : ∀ a, base = some a → ∀ j v, cs[j]? = some v → w.cell? (a.add j) = some v) (hx : w.cell? ⟨vb, 0, none⟩ = some x) (hy : w.cell? ⟨vb, 1, none⟩ = some y) (h1x : x.oneCell' = true) (h1y : y.oneCell' = true) :
    Calls Tryd.prog 40 #[.slice base n c, .int .i64 n, .slice (some ⟨vb, 0, none⟩) 1 vc] w fun e w' =>
      e = .returned (.slice (some ⟨w.heap.size, 0, none⟩) (n + 1) (grownCap w (n + 1) c 42)) ∧
      w' = w.drew.alloc (.cells ((cs ++ [x, y]).toArray ++ Builtin.zeroCells (Value.agg #[.string ⟨#[]⟩, .int .i64 0]).cells (grownCap w (n + 1) c 42 - (n + 1))) 42) := by
  obtain ⟨i0, hi, hz0, hz1, hz2⟩ := info_parts i42
  have hsrc : Src Tryd.prog i0.size 28 (.slice (some ⟨vb, 0, none⟩) 1 vc) 1 [x, y] w := by
    rw [hz1]
    exact Src.ofSlice (e' := 42) w u28 ⟨vb, 0, none⟩ 1 vc [x, y] rfl (two_cells hx hy) (by simp [h1x, h1y])
  have hold : (Builtin.firstCells i0.size n (.slice base n c)).run Tryd.prog w.drew = .ok cs.toArray w.drew := by
    rw [hz1]
    cases base with
    | none =>
      have h0 := hnil rfl
      subst h0
      obtain rfl : cs = [] := List.length_eq_zero_iff.1 (by simpa using hcl)
      exact run_firstCells_none w.drew 2 0 0 c
    | some a => exact run_firstCells_some w.drew 2 n a n c cs (by omega) (fun j v hj => hcs a rfl j v hj)
  have hrun : ∀ ty, (Builtin.append_ #[28, 28] ty #[.slice base n c, .slice (some ⟨vb, 0, none⟩) 1 vc]).run Tryd.prog w = _ := fun ty =>
    run_append_grow_src w 28 28 ty 42 i0 _ u28 hi hz0 base n c cs hold _ 1 [x, y] hsrc hroom (by omega) (by rw [hz2]; exact growslice_fits hroom hbig)
  go_enter Tryd.func40, Tryd.ntmps40
  cases base with
  | none =>
    have h0 := hnil rfl
    subst h0
    go_wp2_with (at_builtin; refine Lib.wpList_append_run _ rfl _ _ _ _ rfl _ _ rfl rfl _ _ (hrun _) ?_)
    go_ret
    exact ⟨rfl, rfl⟩
  | some a =>
    obtain ⟨ab, ao, asp⟩ := a
    go_wp2_with (at_builtin; refine Lib.wpList_append_run _ rfl _ _ _ _ rfl _ _ rfl rfl _ _ (hrun _) ?_)
    all_goals (go_ret; exact ⟨rfl, rfl⟩)

/-- The row when the elements behind have been moved, and when the new one has been put. -/
def insA (cur : Array Value) (n i : Nat) : Array Value := (cur.toList.take ((i + 1) * 2) ++ (cur.toList.take (n * 2)).drop (i * 2) ++ cur.toList.drop ((i + 1) * 2 + ((cur.toList.take (n * 2)).drop (i * 2)).length)).toArray
def insB (cur : Array Value) (n i : Nat) (x y : Value) : Array Value := ((insA cur n i).toList.take (i * 2) ++ [x, y] ++ (insA cur n i).toList.drop (i * 2 + 2)).toArray

theorem insA_size {cur : Array Value} {n i : Nat} (h : (n + 1) * 2 ≤ cur.size) (hi : i < n) : (insA cur n i).size = cur.size := by
  have := Array.length_toList (xs := cur)
  simp only [insA, List.size_toArray, List.length_append, List.length_take, List.length_drop]
  omega

set_option maxHeartbeats 4000000 in
set_option maxRecDepth 100000 in
/-- Within, room. -/
theorem ins_shift (b n c i vb vc : Nat) (x y : Value) (cur vcur : Array Value) (t tv : TypeId) (w : World) (hin : i < n) (hroom : n + 1 ≤ c) (hc63 : c ≤ 9223372036854775807) (hvb : vb ≠ b)
    (hb : w.heap[b]? = some (.cells cur t (0, 0))) (hsz : c * 2 ≤ cur.size) (h1c : ∀ v ∈ cur.toList.take (n * 2), v.oneCell' = true) (hv : w.heap[vb]? = some (.cells vcur tv (0, 0))) (hx : vcur[0]? = some x) (hy : vcur[1]? = some y) (h1x : x.oneCell' = true) (h1y : y.oneCell' = true) :
    Calls Tryd.prog 40 #[.slice (some ⟨b, 0, none⟩) n c, .int .i64 i, .slice (some ⟨vb, 0, none⟩) 1 vc] w fun e w' =>
      e = .returned (.slice (some ⟨b, 0, none⟩) (n + 1) c) ∧ w' = (w.drew.setRow b (insA cur n i)).setRow b (insB cur n i x y) := by
  obtain ⟨i0, hi, hz0, hz1, hz2⟩ := info_parts i42
  have hz3 : ¬ ((i : Int) = (n : Int)) := by omega
  have hov : ∀ lb cb, (callFunc 58 #[.slice (some ⟨vb, 0, none⟩) 1 vc, .slice (some ⟨b, (i + 1) * 2, none⟩) lb cb]).run Tryd.prog w = .ok (.value (.bool false)) w := fun lb cb => by
    rw [run_callFunc_extern Tryd.func58 (by kernel_rfl) (by kernel_rfl) (by kernel_rfl) (e := Extern.SlicesOverlaps.overlaps #[28, 28] #[4]) (by kernel_rfl),
      Lib.run_overlaps_apart w 28 4 42 u28 2 (fun w => by simp [Go.sizeOf, typeInfo, hi, hz1]) ⟨vb, 0, none⟩ ⟨b, (i + 1) * 2, none⟩ 1 vc lb cb hvb tv t vcur.size cur.size (shape_at hv) (shape_at hb) (by omega) (by simp [World.frozen?, hv]) (by simp [World.frozen?, hv])]
    rfl
  have hcl : cur.toList.length = cur.size := Array.length_toList
  have hml : ((cur.toList.take (n * 2)).drop (i * 2)).length = (n - i) * 2 := by rw [List.length_drop, List.length_take]; omega
  have hcp1 : ∀ ty dc sc, (Builtin.copy_ #[28, 28] ty #[.slice (some ⟨b, (i + 1) * 2, none⟩) (n - i) dc, .slice (some ⟨b, i * 2, none⟩) (n + 1 - i) sc]).run Tryd.prog w.drew = .ok (goInt ((n - i : Nat) : Int)) (w.drew.setRow b (insA cur n i)) := fun ty dc sc => by
    have hb' : w.drew.heap[b]? = some (.cells cur t (0, 0)) := hb
    exact run_copy_sz w.drew _ _ ty 42 i0 b ((i + 1) * 2) (n - i) dc ⟨b, i * 2, none⟩ (n + 1 - i) sc (n - i) cur t ((cur.toList.take (n * 2)).drop (i * 2)) u28 hi (by simp only [Nat.min_def]; split <;> omega) hb' (by rw [hz1]; exact hml)
      (fun j v hj => by
        rw [add_at, cell_at hb']
        rw [List.getElem?_drop, List.getElem?_take] at hj
        split at hj
        · simpa using hj
        · cases hj) (by rw [hml]; omega) (fun v hv => h1c v (List.mem_of_mem_drop hv))
  have hA := insA_size (cur := cur) (n := n) (i := i) (by omega) hin
  have hcp2 : ∀ ty dc, (Builtin.copy_ #[28, 28] ty #[.slice (some ⟨b, i * 2, none⟩) (n + 1 - i) dc, .slice (some ⟨vb, 0, none⟩) 1 vc]).run Tryd.prog (w.drew.setRow b (insA cur n i)) = .ok (goInt 1) ((w.drew.setRow b (insA cur n i)).setRow b (insB cur n i x y)) := fun ty dc => by
    have hb' : (w.drew.setRow b (insA cur n i)).heap[b]? = some (.cells (insA cur n i) t (0, 0)) := setRow_heap w.drew b cur _ t _ hb
    have hv' : (w.drew.setRow b (insA cur n i)).heap[vb]? = some (.cells vcur tv (0, 0)) := (setRow_other w.drew b vb _ hvb).trans hv
    exact run_copy_sz _ _ _ ty 42 i0 b (i * 2) (n + 1 - i) dc ⟨vb, 0, none⟩ 1 vc 1 (insA cur n i) t [x, y] u28 hi (by simp only [Nat.min_def]; split <;> omega) hb' (by rw [hz1]; rfl)
      (two_cells (by rw [cell_at hv']; exact hx) (by rw [cell_at hv']; exact hy)) (by rw [hA]; simp; omega) (by simp [h1x, h1y])
  have hw1 : IntKind.i64.wrap ((i : Int) + 1) = (i : Int) + 1 := by rw [IntKind.wrap_i64]; omega
  have hw2 : IntKind.i64.wrap ((n : Int) + 1) = (n : Int) + 1 := by rw [IntKind.wrap_i64]; omega
  have hb1 : (0 : Int) ≤ (i : Int) + 1 := by omega
  have htn : ((i : Int) + 1).toNat = i + 1 := by omega
  have hb2 : ¬ (c = i + 1) := by omega
  have hb3 : (i : Int) ≤ (n : Int) + 1 := by omega
  have hb4 : ¬ (c = i) := by omega
  have hin' : i ≤ n := by omega
  have mixed : Tryd.prog.follows Departure.mixedOrders = true := by kernel_rfl
  generalize insA cur n i = A at *
  generalize insB cur n i x y = B at *
  go_enter Tryd.func40, Tryd.ntmps40
  go_wp2
  go_region_law_o (refine step_copy_runI rfl _ _ 28 28 rfl _ _ (by simp [Act.eval, Act.put]) (by simp [Act.eval, Act.put]) (hcp1 _ _ _) ?_)
  go_wp2_with (at_builtin; refine wpList_copy_runI _ rfl _ _ 28 28 rfl _ _ rfl rfl (hcp2 _ _) ?_)
  go_ret
  exact ⟨rfl, rfl⟩

/-- The new row: as it is made, with the new element, with what stood behind. -/
def insR (cur : Array Value) (n i G : Nat) : Array Value := (cur.toList.take (i * 2)).toArray ++ Builtin.zeroCells (Value.agg #[.string ⟨#[]⟩, .int .i64 0]).cells (n + 1 - i) ++ Builtin.zeroCells (Value.agg #[.string ⟨#[]⟩, .int .i64 0]).cells (G - (n + 1))
def insS (R : Array Value) (i : Nat) (x y : Value) : Array Value := (R.toList.take (i * 2) ++ [x, y] ++ R.toList.drop (i * 2 + 2)).toArray
def insT (S cur : Array Value) (n i : Nat) : Array Value := (S.toList.take ((i + 1) * 2) ++ (cur.toList.take (n * 2)).drop (i * 2) ++ S.toList.drop ((i + 1) * 2 + ((cur.toList.take (n * 2)).drop (i * 2)).length)).toArray

theorem insR_size {cur : Array Value} {n i G : Nat} (h : n * 2 ≤ cur.size) (hi : i < n) (hG : n + 1 ≤ G) : (insR cur n i G).size = G * 2 := by
  have := Array.length_toList (xs := cur)
  have hz : (Value.agg #[.string ⟨#[]⟩, .int .i64 0]).cells.size = 2 := rfl
  simp only [insR, Array.size_append, List.size_toArray, List.length_take, size_zeroCells, hz]
  omega

theorem insS_size {R : Array Value} {i : Nat} {x y : Value} (h : (i + 1) * 2 ≤ R.size) : (insS R i x y).size = R.size := by
  have := Array.length_toList (xs := R)
  simp only [insS, List.size_toArray, List.length_append, List.length_take, List.length_drop, List.length_cons, List.length_nil]
  omega

set_option maxHeartbeats 4000000 in
set_option maxRecDepth 100000 in
/-- Within, no room. -/
theorem ins_grow (b n c i vb vc : Nat) (x y : Value) (cur vcur : Array Value) (t tv : TypeId) (w : World) (hin : i < n) (hnc : n ≤ c) (hroom : c < n + 1) (hbig : (n + 1) * 24 ≤ 140737488355328)
    (hb : w.heap[b]? = some (.cells cur t (0, 0))) (hsz : c * 2 ≤ cur.size) (h1c : ∀ v ∈ cur.toList.take (n * 2), v.oneCell' = true) (hv : w.heap[vb]? = some (.cells vcur tv (0, 0))) (hx : vcur[0]? = some x) (hy : vcur[1]? = some y) (h1x : x.oneCell' = true) (h1y : y.oneCell' = true) :
    Calls Tryd.prog 40 #[.slice (some ⟨b, 0, none⟩) n c, .int .i64 i, .slice (some ⟨vb, 0, none⟩) 1 vc] w fun e w' =>
      ∃ G, G = grownCap w (n + 1) c 42 ∧ e = .returned (.slice (some ⟨w.heap.size, 0, none⟩) (n + 1) G) ∧
      w' = ((w.alloc (.cells (insR cur n i G) 42)).drew.setRow w.heap.size (insS (insR cur n i G) i x y)).drew.setRow w.heap.size (insT (insS (insR cur n i G) i x y) cur n i) := by
  obtain ⟨i0, hi, hz0, hz1, hz2⟩ := info_parts i42
  have hz3 : ¬ ((i : Int) = (n : Int)) := by omega
  have hz4 : (c : Int) < (n : Int) + 1 := by omega
  have hcl : cur.toList.length = cur.size := Array.length_toList
  have hbw : b < w.heap.size := (Array.getElem?_eq_some_iff.1 hb).1
  have hvw : vb < w.heap.size := (Array.getElem?_eq_some_iff.1 hv).1
  have hkk : (n : Int) + 1 - (i : Int) = ((n + 1 - i : Nat) : Int) := by omega
  have hik : i + (n + 1 - i) = n + 1 := by omega
  have hml : ((cur.toList.take (n * 2)).drop (i * 2)).length = (n - i) * 2 := by rw [List.length_drop, List.length_take]; omega
  have hold : (Builtin.firstCells i0.size i (.slice (some ⟨b, 0, none⟩) i c)).run Tryd.prog w.drew = .ok (cur.toList.take (i * 2)).toArray w.drew := by
    rw [hz1]
    exact run_firstCells_some w.drew 2 i ⟨b, 0, none⟩ i c (cur.toList.take (i * 2)) (by rw [List.length_take]; omega) (fun j v hj => by
      have hb' : w.drew.heap[b]? = some (.cells cur t (0, 0)) := hb
      rw [add_at, cell_at hb']
      rw [List.getElem?_take] at hj
      split at hj
      · simpa using hj
      · cases hj)
  have hrz : ∀ ty, (Builtin.append_ #[28, 3] ty #[.slice (some ⟨b, 0, none⟩) i c, .int .i64 ((n : Int) + 1 - (i : Int))]).run Tryd.prog w =
      .ok (.slice (some ⟨w.heap.size, 0, none⟩) (n + 1) (grownCap w (n + 1) c 42)) (w.alloc (.cells (insR cur n i (grownCap w (n + 1) c 42)) 42)).drew := fun ty => by
    have h := Lib.run_append_grow_zeros w 28 3 ty 42 i0 _ .i64 .i64 u28 u3i hi hz0 (some ⟨b, 0, none⟩) i c (cur.toList.take (i * 2)) hold (n + 1 - i) (by omega) (by omega) (by omega) (by omega) (by rw [hz2]; omega) (by rw [hz2, hik]; exact growslice_fits hroom hbig)
    rw [hik] at h
    rw [hkk]
    refine h.trans ?_
    rfl
  have hGn : n + 1 ≤ grownCap w (n + 1) c 42 := grownCap_ge w _ _ _
  have hG63 : grownCap w (n + 1) c 42 ≤ maxLen := grownCap_le_maxLen w (n + 1) c 42 (by unfold maxLen; omega)
  generalize hG : grownCap w (n + 1) c 42 = G at hrz hGn hG63
  have hRs := insR_size (cur := cur) (n := n) (i := i) (G := G) (by omega) hin hGn
  generalize hR : insR cur n i G = R at hrz hRs
  have hSs : (insS R i x y).size = R.size := insS_size (by omega)
  generalize hS : insS R i x y = S at hSs
  have hw0 : (w.alloc (.cells R 42)).drew.heap[w.heap.size]? = some (.cells R 42 (0, 0)) := heap_alloc_at w.drew _
  have hwv : (w.alloc (.cells R 42)).drew.heap[vb]? = some (.cells vcur tv (0, 0)) := (heap_alloc_lt w.drew _ vb hvw).trans hv
  have hwb : (w.alloc (.cells R 42)).drew.heap[b]? = some (.cells cur t (0, 0)) := (heap_alloc_lt w.drew _ b hbw).trans hb
  have hcpA : ∀ ty dc, (Builtin.copy_ #[28, 28] ty #[.slice (some ⟨w.heap.size, i * 2, none⟩) (n + 1 - i) dc, .slice (some ⟨vb, 0, none⟩) 1 vc]).run Tryd.prog (w.alloc (.cells R 42)).drew = .ok (goInt 1) ((w.alloc (.cells R 42)).drew.setRow w.heap.size S) := fun ty dc => by
    rw [← hS]
    exact run_copy_sz _ _ _ ty 42 i0 w.heap.size (i * 2) (n + 1 - i) dc ⟨vb, 0, none⟩ 1 vc 1 R 42 [x, y] u28 hi (by simp only [Nat.min_def]; split <;> omega) hw0 (by rw [hz1]; rfl)
      (two_cells (by rw [cell_at hwv]; exact hx) (by rw [cell_at hwv]; exact hy)) (by simp; omega) (by simp [h1x, h1y])
  have hh1 : (((w.alloc (.cells R 42)).drew.setRow w.heap.size S).drew).heap[w.heap.size]? = some (.cells S 42 (0, 0)) := setRow_heap _ _ R _ 42 _ hw0
  have hwb1 : (((w.alloc (.cells R 42)).drew.setRow w.heap.size S).drew).heap[b]? = some (.cells cur t (0, 0)) := (setRow_other _ _ b _ (by omega)).trans hwb
  have hcpB : ∀ ty dc sc, (Builtin.copy_ #[28, 28] ty #[.slice (some ⟨w.heap.size, (i + 1) * 2, none⟩) (n - i) dc, .slice (some ⟨b, i * 2, none⟩) (n - i) sc]).run Tryd.prog ((w.alloc (.cells R 42)).drew.setRow w.heap.size S).drew =
      .ok (goInt ((n - i : Nat) : Int)) (((w.alloc (.cells R 42)).drew.setRow w.heap.size S).drew.setRow w.heap.size (insT S cur n i)) := fun ty dc sc => by
    exact run_copy_sz _ _ _ ty 42 i0 w.heap.size ((i + 1) * 2) (n - i) dc ⟨b, i * 2, none⟩ (n - i) sc (n - i) S 42 ((cur.toList.take (n * 2)).drop (i * 2)) u28 hi (by simp [Nat.min_def]) hh1 (by rw [hz1]; exact hml)
      (fun j v hj => by
        rw [add_at, cell_at hwb1]
        rw [List.getElem?_drop, List.getElem?_take] at hj
        split at hj
        · simpa using hj
        · cases hj) (by rw [hml]; omega) (fun v hv => h1c v (List.mem_of_mem_drop hv))
  generalize hT : insT S cur n i = T at hcpB
  have hw1 : IntKind.i64.wrap ((i : Int) + 1) = (i : Int) + 1 := by rw [IntKind.wrap_i64]; omega
  have hw2 : IntKind.i64.wrap ((n : Int) + 1) = (n : Int) + 1 := by rw [IntKind.wrap_i64]; omega
  have hw3 : IntKind.i64.wrap ((n : Int) + 1 - (i : Int)) = (n : Int) + 1 - (i : Int) := by rw [IntKind.wrap_i64]; unfold maxLen at hG63; omega
  have hb1 : (0 : Int) ≤ (i : Int) + 1 := by omega
  have htn : ((i : Int) + 1).toNat = i + 1 := by omega
  have hb2 : ¬ (c = i) := by omega
  have hb3 : (i : Int) ≤ (n : Int) := by omega
  have hGi : ¬ (G = i) := by omega
  have hGim : ¬ (G = i + 1) := by omega
  have hb5 : (i : Int) ≤ (n : Int) + 1 := by omega
  have hin' : i ≤ n := by omega
  have hic : i ≤ c := by omega
  have mixed : Tryd.prog.follows Departure.mixedOrders = true := by kernel_rfl
  clear hkk hik hold hw0 hwv hwb hh1 hwb1
  go_enter Tryd.func40, Tryd.ntmps40
  go_wp2_with (first
    | (at_builtin; refine Lib.wpList_append_run _ rfl _ _ _ _ rfl _ _ rfl rfl _ _ (hrz _) ?_)
    | (at_builtin; refine wpList_copy_runI _ rfl _ _ 28 28 rfl _ _ rfl rfl (hcpA _ _) ?_))
  go_region_law_o (refine step_copy_runI rfl _ _ 28 28 rfl _ _ (by simp [Act.eval, Act.put]) (by simp [Act.eval, Act.put]) (hcpB _ _ _) ?_)
  go_wp2
  go_ret
  subst hT hS hR hG
  exact ⟨_, rfl, rfl, rfl⟩

theorem shape_alloc {w : World} {o : Obj} {d : Nat} {x : TypeId × Nat} (h : w.shape? d = some x) : (w.drew.alloc o).shape? d = some x := by
  have hd : d < w.heap.size := by
    unfold World.shape? at h
    cases hh : w.heap[d]? with
    | none => rw [hh] at h; cases h
    | some _ => exact (Array.getElem?_eq_some_iff.1 hh).1
  rw [shape_of_heap (heap_alloc_lt w.drew o d hd)]
  exact h

theorem zc42 : (Value.agg #[.string ⟨#[]⟩, .int .i64 0]).cells.size = 2 := rfl

theorem ins_nil (vb vc : Nat) (x y : Value) (w : World) (hx : w.cell? ⟨vb, 0, none⟩ = some x) (hy : w.cell? ⟨vb, 1, none⟩ = some y) (h1x : x.oneCell' = true) (h1y : y.oneCell' = true) :
    Calls Tryd.prog 40 #[.slice none 0 0, .int .i64 0, .slice (some ⟨vb, 0, none⟩) 1 vc] w fun e w' => ∃ g cap, e = .returned (.slice (some ⟨g, 0, none⟩) 1 cap) ∧ w.heap.size ≤ g ∧ InsDone w w' g g 1 cap [x, y] := by
  refine Calls.mono (ins_end_grow none 0 0 vb vc x y [] w (Nat.le_refl _) (by omega) (by omega) rfl (fun _ => rfl) (by simp) hx hy h1x h1y) ?_
  rintro e w' ⟨he, hw⟩
  subst hw
  have hg := grownCap_ge w (0 + 1) 0 42
  have hm := grownCap_le_maxLen w (0 + 1) 0 42 (by unfold maxLen; omega)
  generalize grownCap w (0 + 1) 0 42 = G at he hg hm ⊢
  refine ⟨w.heap.size, G, he, Nat.le_refl _, ⟨_, _, heap_alloc_at w.drew _, ?_, ?_⟩, .inl rfl, hg, hm, by simp, fun d hd hne => heap_alloc_lt w.drew _ d hd, fun d x h => shape_alloc h, rfl, rfl, rfl⟩
  · rw [Array.size_append, size_zeroCells, zc42]; simp; omega
  · simp

theorem ins_some (b n c i vb vc : Nat) (x y : Value) (cur vcur : Array Value) (t tv : TypeId) (w : World) (hin : i ≤ n) (hnc : n ≤ c) (hcm : c ≤ maxLen) (hbig : (n + 1) * 24 ≤ 140737488355328) (hvb : vb ≠ b) (hb : w.heap[b]? = some (.cells cur t (0, 0))) (hsz : c * 2 ≤ cur.size)
    (h1c : ∀ v ∈ cur.toList.take (n * 2), v.oneCell' = true) (hv : w.heap[vb]? = some (.cells vcur tv (0, 0))) (hx : vcur[0]? = some x) (hy : vcur[1]? = some y) (h1x : x.oneCell' = true) (h1y : y.oneCell' = true) :
    Calls Tryd.prog 40 #[.slice (some ⟨b, 0, none⟩) n c, .int .i64 i, .slice (some ⟨vb, 0, none⟩) 1 vc] w fun e w' => ∃ g cap, e = .returned (.slice (some ⟨g, 0, none⟩) (n + 1) cap) ∧
      InsDone w w' b g (n + 1) cap (cur.toList.take (i * 2) ++ [x, y] ++ (cur.toList.take (n * 2)).drop (i * 2)) := by
  have hcl : cur.toList.length = cur.size := Array.length_toList
  have hxc : w.cell? ⟨vb, 0, none⟩ = some x := by rw [cell_at hv]; exact hx
  have hyc : w.cell? ⟨vb, 1, none⟩ = some y := by rw [cell_at hv]; exact hy
  have hbl : b < w.heap.size := (Array.getElem?_eq_some_iff.1 hb).1
  have hml : ((cur.toList.take (n * 2)).drop (i * 2)).length = (n - i) * 2 := by rw [List.length_drop, List.length_take]; omega
  have htl : (cur.toList.take (i * 2)).length = i * 2 := by rw [List.length_take]; omega
  rcases Nat.lt_or_ge i n with hlt | hge
  · by_cases hr : n + 1 ≤ c
    · refine Calls.mono (ins_shift b n c i vb vc x y cur vcur t tv w hlt hr (by unfold maxLen at hcm; omega) hvb hb hsz h1c hv hx hy h1x h1y) ?_
      rintro e w' ⟨he, hw⟩
      subst hw
      have hA := insA_size (cur := cur) (n := n) (i := i) (by omega) hlt
      have hB : (insB cur n i x y).size = cur.size := by
        have := Array.length_toList (xs := insA cur n i)
        simp only [insB, List.size_toArray, List.length_append, List.length_take, List.length_drop, List.length_cons, List.length_nil]
        omega
      have h1 : (w.drew.setRow b (insA cur n i)).heap[b]? = some (.cells (insA cur n i) t (0, 0)) := setRow_heap w.drew b cur _ t _ hb
      refine ⟨b, c, he, ⟨_, t, setRow_heap _ b _ _ t _ h1, by rw [hB]; exact hsz, ?_⟩, .inl rfl, hr, hcm, by simp, fun d hd hne => (setRow_other _ b d _ hne).trans (setRow_other _ b d _ hne), fun d x h => ?_, rfl, rfl, rfl⟩
      · -- what the row holds
        have e1 : (insA cur n i).toList.take (i * 2) = cur.toList.take (i * 2) := by
          simp only [insA]
          rw [List.append_assoc, List.take_append_of_le_length (by rw [List.length_take]; omega), List.take_take]
          congr 1
          omega
        have e2 : ((insA cur n i).toList.drop (i * 2 + 2)).take ((n - i) * 2) = (cur.toList.take (n * 2)).drop (i * 2) := by
          simp only [insA]
          rw [List.append_assoc, List.drop_append_of_le_length (by rw [List.length_take]; omega), List.drop_of_length_le (by rw [List.length_take]; omega), List.nil_append, List.take_append_of_le_length (by rw [hml]; exact Nat.le_refl _), List.take_of_length_le (by rw [hml]; exact Nat.le_refl _)]
        simp only [insB]
        rw [e1, List.append_assoc, List.append_assoc, List.take_append, List.take_of_length_le (by rw [htl]; omega), htl]
        congr 1
        have e3 : (n + 1) * 2 - i * 2 = 2 + (n - i) * 2 := by omega
        rw [e3]
        show (x :: y :: (insA cur n i).toList.drop (i * 2 + 2)).take (2 + (n - i) * 2) = _
        rw [Nat.add_comm 2, List.take_succ_cons, List.take_succ_cons, e2]
        rfl
      · by_cases hdb : d = b
        · subst hdb
          rw [shape_at hb] at h
          cases h
          rw [shape_at (setRow_heap _ d _ _ t _ h1), hB]
        · rw [shape_of_heap ((setRow_other _ b d _ hdb).trans (setRow_other _ b d _ hdb))]
          exact h
    · refine Calls.mono (ins_grow b n c i vb vc x y cur vcur t tv w hlt hnc (by omega) hbig hb hsz h1c hv hx hy h1x h1y) ?_
      rintro e w' ⟨G, hG, he, hw⟩
      subst hw
      have hg := grownCap_ge w (n + 1) c 42
      have hm := grownCap_le_maxLen w (n + 1) c 42 (by unfold maxLen; omega)
      rw [← hG] at hg hm
      have hR := insR_size (cur := cur) (n := n) (i := i) (G := G) (by omega) hlt hg
      generalize hRR : insR cur n i G = R at hR ⊢
      have hS := insS_size (R := R) (i := i) (x := x) (y := y) (by omega)
      have hRt : R.toList.take (i * 2) = cur.toList.take (i * 2) := by
        rw [← hRR]
        simp only [insR, Array.toList_append]
        rw [List.append_assoc, List.take_append_of_le_length (by rw [htl]; exact Nat.le_refl _), List.take_of_length_le (by rw [htl]; exact Nat.le_refl _)]
      have hSt : (insS R i x y).toList.take ((i + 1) * 2) = cur.toList.take (i * 2) ++ [x, y] := by
        simp only [insS]
        rw [hRt, List.take_append_of_le_length (by simp [htl]; omega), List.take_of_length_le (by simp [htl]; omega)]
      generalize insS R i x y = S at hS hSt ⊢
      have hSl := Array.length_toList (xs := S)
      have hT : (insT S cur n i).size = S.size := by
        simp only [insT, List.size_toArray, List.length_append, List.length_take, List.length_drop]
        omega
      have h0 : ((w.alloc (.cells R 42)).drew).heap[w.heap.size]? = some (.cells R 42 (0, 0)) := heap_alloc_at w _
      have h1 : (((w.alloc (.cells R 42)).drew.setRow w.heap.size S).drew).heap[w.heap.size]? = some (.cells S 42 (0, 0)) := setRow_heap _ _ R _ 42 _ h0
      have old : ∀ d, d < w.heap.size → (((w.alloc (.cells R 42)).drew.setRow w.heap.size S).drew.setRow w.heap.size (insT S cur n i)).heap[d]? = w.heap[d]? := fun d hd =>
        (setRow_other _ _ d _ (by omega)).trans ((setRow_other _ _ d _ (by omega)).trans (heap_alloc_lt w _ d hd))
      refine ⟨w.heap.size, G, he, ⟨_, 42, setRow_heap _ _ S _ 42 _ h1, by rw [hT, hS, hR]; exact Nat.le_refl _, ?_⟩, .inr (Nat.le_refl _), hg, hm, by simp, fun d hd _ => old d hd, fun d x h => ?_, rfl, rfl, rfl⟩
      · simp only [insT]
        rw [hSt, List.take_append_of_le_length (by simp [htl, hml]; omega), List.take_of_length_le (by simp [htl, hml]; omega)]
      · have hd : d < w.heap.size := by
          unfold World.shape? at h
          cases hh : w.heap[d]? with
          | none => rw [hh] at h; cases h
          | some _ => exact (Array.getElem?_eq_some_iff.1 hh).1
        rw [shape_of_heap (old d hd)]
        exact h
  · obtain rfl : i = n := by omega
    have hd0 : (cur.toList.take (i * 2)).drop (i * 2) = [] := by rw [List.drop_of_length_le (by rw [htl]; exact Nat.le_refl _)]
    rw [hd0, List.append_nil]
    by_cases hr : i + 1 ≤ c
    · refine Calls.mono (ins_end_room b i c vb vc x y cur t w hr (by unfold maxLen at hcm; omega) hb hsz hxc hyc h1x h1y) ?_
      rintro e w' ⟨he, hw⟩
      subst hw
      obtain ⟨g1, g2, g3⟩ := setCells_row (c := b) (t := t) (fr := (0, 0)) [x, y] (i * 2) cur w hb (by simp; omega)
      have hsize : (cur.toList.take (i * 2) ++ [x, y] ++ cur.toList.drop (i * 2 + [x, y].length)).toArray.size = cur.size := by simp; omega
      refine ⟨b, c, he, ⟨_, t, g1, by rw [hsize]; exact hsz, ?_⟩, .inl rfl, hr, hcm, by rw [g2]; exact Nat.le_refl _, fun d hd hne => g3 d hne, fun d z h => ?_, rfl, rfl, rfl⟩
      · rw [List.take_append_of_le_length (by simp [htl]; omega), List.take_of_length_le (by simp [htl]; omega)]
      · by_cases hdb : d = b
        · subst hdb
          rw [shape_at hb] at h
          cases h
          rw [shape_at g1, hsize]
        · rw [shape_of_heap (g3 d hdb)]
          exact h
    · refine Calls.mono (ins_end_grow (some ⟨b, 0, none⟩) i c vb vc x y (cur.toList.take (i * 2)) w hnc (by omega) hbig htl (by simp) (fun a ha j v hj => ?_) hxc hyc h1x h1y) ?_
      · cases ha
        rw [add_at, Nat.zero_add, cell_at hb]
        rw [List.getElem?_take] at hj
        split at hj
        · simpa using hj
        · cases hj
      · rintro e w' ⟨he, hw⟩
        subst hw
        have hg := grownCap_ge w (i + 1) c 42
        have hm := grownCap_le_maxLen w (i + 1) c 42 (by unfold maxLen; omega)
        generalize grownCap w (i + 1) c 42 = G at he hg hm ⊢
        refine ⟨w.heap.size, G, he, ⟨_, _, heap_alloc_at w.drew _, ?_, ?_⟩, .inr (Nat.le_refl _), hg, hm, by simp, fun d hd hne => heap_alloc_lt w.drew _ d hd, fun d x h => shape_alloc h, rfl, rfl, rfl⟩
        · rw [Array.size_append, size_zeroCells, zc42, List.size_toArray, List.length_append, htl]; simp; omega
        · rw [Array.toList_append, List.take_append_of_le_length (by simp [htl]; omega), List.take_of_length_le (by simp [htl]; omega)]

theorem ins_contract (args : List V) (H : Heap) (r : V) (H' : Heap) (hx : insAtX 24 args H = some (r, H')) (base : Nat) (Z : Nat → Prop) (φ : Abs.Place) (w : World) (cargs : Array Value) (I : Inv base Z φ H w) (ha : ArgsRel φ (Wr φ H Z) w args cargs) :
    Calls Tryd.prog 40 cargs w (fun e w' => ∃ v, e = .returned v ∧ Turns base Z φ H w H' r v w') :=
  insAt_contract (by decide) ins_nil ins_some args H r H' hx base Z φ w cargs I ha

end Go.Proofs
