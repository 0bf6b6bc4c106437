/- Proved here: what functions of the program compute, over the evaluator. No condition but those that each theorem states. -/
import Derived.Test.YtefdoccoajhefaaDoorDC
import Derived.Test.YtefdoccoajhefaaDoorTryShelf
import Derived.Shelf.SlicesE.Clone
namespace Go.Proofs
open Go.RowKit Go.Shelf Go.Abs Go.Lib
set_option linter.unusedVariables false
set_option linter.unusedSimpArgs false

def cloE_ren : Go.Shelf.Ren := ⟨fun | 41 => 41 | n => n, fun | 22 => 28 | 23 => 42 | 4 => 4 | n => n, fun | n => n⟩
theorem cloE_lays : Go.Proofs.SlLaysE0.n41 Tryd.prog cloE_ren := {
  mixed := by kernel_rfl
  f41 := ⟨Tryd.f41.name, by decide, Tryd.func41.trans (congrArg some (by kernel_rfl))⟩
  t4 := Tryd.underlying4
  a4 := Tryd.isAgg4
  z4 := Tryd.sizeOf4
  v4 := Tryd.zeroValue4
  t22 := Tryd.underlying28
  a22 := Tryd.isAgg28
  z22 := Tryd.sizeOf28
  v22 := Tryd.zeroValue28 }

theorem iE : (Tryd.prog.info? 42).map (fun i => (i.zero, i.size, i.bytes)) = some (some (.agg #[.string ⟨#[]⟩, .int .i64 0]), 2, 24) := by kernel_rfl
theorem szE (w : World) : (Go.sizeOf 42).run Tryd.prog w = .ok 2 w := by
  obtain ⟨i0, hi, hz0, hz1, hz2⟩ := info_parts iE
  simp [Go.sizeOf, typeInfo, hi, hz1]

theorem clo_some (b off n c : Nat) (news : List Value) (w : World) (hl : news.length = n * 2) (hn : n ≤ maxLen) (hbig : n * 24 ≤ 140737488355328) (hc : ∀ j u, news[j]? = some u → w.cell? ⟨b, off + j, none⟩ = some u) (h1 : ∀ u ∈ news, u.oneCell' = true) :
    Calls Tryd.prog 41 #[.slice (some ⟨b, off, none⟩) n c] w fun e w' => ∃ v', e = .returned v' ∧ w'.ownsRow w.heap.size 42 2 v' n news ∧ v' ≠ .slice none 0 0 ∧ Below w.heap.size w w' := by
  obtain ⟨i0, hi, hz0, hz1, hz2⟩ := info_parts iE
  exact AnyE.slices_Clone cloE_lays i0 _ 2 24 hi hz0 hz1 hz2 rfl (by decide) szE b off n c news w hl hn hbig hc h1

set_option maxHeartbeats 2000000 in
set_option maxRecDepth 100000 in
theorem clo_zero (a : Addr) (c : Nat) (w : World) :
    Calls Tryd.prog 41 #[.slice (some a) 0 c] w fun x w' => ∃ v', x = .returned v' ∧ w'.ownsRow w.heap.size 42 2 v' 0 [] ∧ v' ≠ .slice none 0 0 ∧ Below w.heap.size w w' := by
  obtain ⟨i0, hi, hz0, hz1, hz2⟩ := info_parts iE
  have u28 : Tryd.prog.underlying 28 = some (.slice 42) := by kernel_rfl
  have mixed : Tryd.prog.follows Departure.mixedOrders = true := by kernel_rfl
  have q22 : ∀ (w : World) (a : Option Addr) (n c n' c' : Nat), (binOp .eql 28 (.slice a n c) (.slice none n' c')).run Tryd.prog w = .ok (.bool a.isNone) w := fun w a n c n' c' => Lib.run_eql_slice_nil w _ _ a n c n' c' u28
  go_enter Tryd.func41, Tryd.ntmps41
  go_wp2_with (at_builtin; refine wpList_append_own _ rfl _ _ 28 rfl w.heap.size 42 i0 _ 2 24 u28 hi hz0 hz1 hz2 rfl (by decide) _ _ _ rfl (World.ownsRow_made w #[] 0 (Nat.le_refl _) (Nat.zero_le _) (by simp)) a 0 c [] rfl rfl (by simp) (by simp) (by decide) (by decide) (by simp) ?_)
  intro v' w1 hown hgrow hnil
  go_wp2
  go_ret
  refine ⟨v', rfl, by simpa using hown, ?_, ?_⟩
  · exact hnil
  · exact ((Below.refl _ w).alloc (Nat.le_refl _) _).grown hgrow (by simp) (by intro k hk; simp [Value.ownBlock] at hk; omega)

theorem cloE_contract (xs : List V) (r : V) (H' : Heap) (hx : cloneX 2 24 xs = some (r, H')) : Contract Tryd.prog 41 xs r H' :=
  clone_contract (e := 42) (fun n c w => AnyE.slices_Clone_nil cloE_lays n c w) (fun a c w => clo_zero a c w) (fun b off n c news w h1 h2 h3 h4 h5 => clo_some b off n c news w h1 h2 h3 h4 h5) xs r H' hx

end Go.Proofs
