/- Proved here: the context agrees with the program. No condition but those that each theorem states. -/
import Derived.Test.YtbnnaaadblpgiaaGreatDC
import Derived.Test.YtbnnaaadblpgiaaGreatTryShelf
namespace Go.Abs
open Go.Proofs Go.RowKit
set_option maxRecDepth 100000

theorem DC_clone78 (xs : List V) (r : V) (H' : Heap) (hx : cloneX 1 16 xs = some (r, H')) : Contract Tryz.prog 78 xs r H' :=
  clone_contract (e := 9) (fun n c w => Tryz.slices_Clone_nil_f78 n c w) (fun a c w => Tryz.slices_Clone_string_zero a c w)
    (fun b off n c news w h1 h2 h3 h4 h5 => Tryz.slices_Clone_f78 Tryz.t9 (.string ⟨#[]⟩) 1 16 (by kernel_rfl) (by kernel_rfl) (by kernel_rfl) (by kernel_rfl) (by kernel_rfl) (by decide) Tryz.sizeOf9 b off n c news w h1 h2 h3 h4 h5) xs r H' hx

theorem DC_clone36 (xs : List V) (r : V) (H' : Heap) (hx : cloneX 1 8 xs = some (r, H')) : Contract Tryz.prog 36 xs r H' :=
  clone_contract (e := 3) (fun n c w => Tryz.slices_Clone_nil_f36 n c w) (fun a c w => Tryz.slices_Clone_int_zero a c w)
    (fun b off n c news w h1 h2 h3 h4 h5 => Tryz.slices_Clone_f36 Tryz.t3 (.int .i64 0) 1 8 (by kernel_rfl) (by kernel_rfl) (by kernel_rfl) (by kernel_rfl) (by kernel_rfl) (by decide) Tryz.sizeOf3 b off n c news w h1 h2 h3 h4 h5) xs r H' hx

theorem DC_sort (args : List V) (H : Heap) (r : V) (H' : Heap) (hx : sortX args H = some (r, H')) (base : Nat) (Z : Nat → Prop) (φ : Place) (w : World) (cargs : Array Value) (I : Inv base Z φ H w) (ha : ArgsRel φ (Wr φ H Z) w args cargs) :
    Calls Tryz.prog 50 cargs w (fun e w' => ∃ v, e = .returned v ∧ Turns base Z φ H w H' r v w') :=
  sort_contract (fun b off c zs w h1 h2 h3 => Tryz.slices_Sort_int b off c zs w h1 h2 h3) (fun p c w => Tryz.slices_Sort_int_none p c w) args r H' hx I ha

theorem DC_copy (args : List V) (H : Heap) (r : V) (H' : Heap) (hx : copyX 92 args H = some (r, H')) (base : Nat) (Z : Nat → Prop) (φ : Abs.Place) (w : World) (cargs : Array Value) (I : Inv base Z φ H w) (ha : ArgsRel φ (Wr φ H Z) w args cargs) :
    Calls Tryz.prog 66 cargs w (fun e w' => ∃ v, e = .returned v ∧ Turns base Z φ H w H' r v w') :=
  copy_contract (fun b w h1 h2 h3 => Any.Builder_copyCheck_fresh { Tryz.lays165 with } Tryz.Builder_Extra_165.toX72 b w h1 h2 h3) (fun b w h => Any.Builder_copyCheck_used { Tryz.lays165 with } Tryz.Builder_Extra_165.toX72 b w h) args H r H' hx base Z φ w cargs I ha
theorem DC_str (args : List V) (H : Heap) (r : V) (H' : Heap) (hx : strX 92 5 args H = some (r, H')) (base : Nat) (Z : Nat → Prop) (φ : Abs.Place) (w : World) (cargs : Array Value) (I : Inv base Z φ H w) (ha : ArgsRel φ (Wr φ H Z) w args cargs) :
    Calls Tryz.prog 34 cargs w (fun e w' => ∃ v, e = .returned v ∧ Turns base Z φ H w H' r v w') :=
  str_contract (fun b p w h => Any.Builder_String_nil Tryz.lays169 Tryz.Builder_Extra_169 w.heap.size b p w h) (fun b g cap p cur l w h1 h2 h3 h4 h5 h6 h7 => str_walk Tryz.lays169 Tryz.Builder_Extra_169 b g cap p cur l w h1 h2 h3 h4 h5 h6 h7) args H r H' hx base Z φ w cargs I ha

theorem DC_ext (f : FuncId) (g : List V → Option (V × Heap)) (h : DC.ext f = some g) : FnOk DC.P f ∧ ∀ xs r H', g xs = some (r, H') → Contract DC.P f xs r H' := by
  unfold DC at h
  simp only at h
  split at h
  · cases h; exact ⟨DC_fn36, DC_clone36⟩
  · cases h; exact ⟨DC_fn59, repeat_contract fun s c w h1 h2 => Tryz.strings_Repeat s c w h1 h2⟩
  · cases h; exact ⟨DC_fn78, DC_clone78⟩
  · cases h; exact ⟨DC_fn79, mul_contract fun x y w h1 h2 => Tryz.bits_Mul x y h1 h2 w⟩
  · cases h

theorem DC_extE (f : FuncId) (g : List V → Heap → Option (V × Heap)) (h : DC.extE f = some g) : FnOk DC.P f ∧ ∀ args H r H', g args H = some (r, H') → ∀ base Z φ w cargs, Inv base Z φ H w → ArgsRel φ (Wr φ H Z) w args cargs →
    Calls DC.P f cargs w (fun e w' => ∃ v, e = .returned v ∧ Turns base Z φ H w H' r v w') := by
  unfold DC at h
  simp only at h
  split at h
  · cases h; exact ⟨DC_fn34, fun args H r H' hx base Z φ w cargs I ha => DC_str args H r H' hx base Z φ w cargs I ha⟩
  · cases h; exact ⟨DC_fn50, fun args H r H' hx base Z φ w cargs I ha => DC_sort args H r H' hx base Z φ w cargs I ha⟩
  · cases h; exact ⟨DC_fn66, fun args H r H' hx base Z φ w cargs I ha => DC_copy args H r H' hx base Z φ w cargs I ha⟩
  · cases h

theorem DC_good : Good DC := ⟨by kernel_rfl, DC_body, DC_ext, DC_extE⟩
end Go.Abs
