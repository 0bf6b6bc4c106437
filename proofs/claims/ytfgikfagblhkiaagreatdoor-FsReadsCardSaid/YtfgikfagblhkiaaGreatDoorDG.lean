/- Proved here: the context agrees with the program. No condition but those that each theorem states. -/
import Derived.Test.YtfgikfagblhkiaaGreatDoorDC
import Derived.Test.YtfgikfagblhkiaaGreatDoorTryShelf
import Derived.Test.YtfgikfagblhkiaaGreatDoorM8
namespace Go.Abs
open Go.Proofs Go.RowKit
set_option maxRecDepth 100000

theorem DC_clone213 (xs : List V) (r : V) (H' : Heap) (hx : cloneX 1 16 xs = some (r, H')) : Contract Tryz.prog 213 xs r H' :=
  clone_contract (e := 9) (fun n c w => Tryz.slices_Clone_nil_f213 n c w) (fun a c w => Tryz.slices_Clone_string_zero a c w)
    (fun b off n c news w h1 h2 h3 h4 h5 => Tryz.slices_Clone_f213 Tryz.t9 (.string ⟨#[]⟩) 1 16 (by kernel_rfl) (by kernel_rfl) (by kernel_rfl) (by kernel_rfl) (by kernel_rfl) (by decide) Tryz.sizeOf9 b off n c news w h1 h2 h3 h4 h5) xs r H' hx

theorem DC_clone214 (xs : List V) (r : V) (H' : Heap) (hx : cloneX 1 8 xs = some (r, H')) : Contract Tryz.prog 214 xs r H' :=
  clone_contract (e := 3) (fun n c w => Tryz.slices_Clone_nil_f214 n c w) (fun a c w => Tryz.slices_Clone_int_zero a c w)
    (fun b off n c news w h1 h2 h3 h4 h5 => Tryz.slices_Clone_f214 Tryz.t3 (.int .i64 0) 1 8 (by kernel_rfl) (by kernel_rfl) (by kernel_rfl) (by kernel_rfl) (by kernel_rfl) (by decide) Tryz.sizeOf3 b off n c news w h1 h2 h3 h4 h5) xs r H' hx

theorem DC_copy (args : List V) (H : Heap) (r : V) (H' : Heap) (hx : copyX 185 args H = some (r, H')) (base : Nat) (Z : Nat → Prop) (φ : Abs.Place) (w : World) (cargs : Array Value) (I : Inv base Z φ H w) (ha : ArgsRel φ (Wr φ H Z) w args cargs) :
    Calls Tryz.prog 177 cargs w (fun e w' => ∃ v, e = .returned v ∧ Turns base Z φ H w H' r v w') :=
  copy_contract (fun b w h1 h2 h3 => Any.Builder_copyCheck_fresh { Tryz.lays165 with } Tryz.Builder_Extra_165.toX72 b w h1 h2 h3) (fun b w h => Any.Builder_copyCheck_used { Tryz.lays165 with } Tryz.Builder_Extra_165.toX72 b w h) args H r H' hx base Z φ w cargs I ha
theorem DC_str (args : List V) (H : Heap) (r : V) (H' : Heap) (hx : strX 185 5 args H = some (r, H')) (base : Nat) (Z : Nat → Prop) (φ : Abs.Place) (w : World) (cargs : Array Value) (I : Inv base Z φ H w) (ha : ArgsRel φ (Wr φ H Z) w args cargs) :
    Calls Tryz.prog 149 cargs w (fun e w' => ∃ v, e = .returned v ∧ Turns base Z φ H w H' r v w') :=
  str_contract (fun b p w h => Any.Builder_String_nil Tryz.lays169 Tryz.Builder_Extra_169 w.heap.size b p w h) (fun b g cap p cur l w h1 h2 h3 h4 h5 h6 h7 => str_walk Tryz.lays169 Tryz.Builder_Extra_169 b g cap p cur l w h1 h2 h3 h4 h5 h6 h7) args H r H' hx base Z φ w cargs I ha

theorem DC_ext (f : FuncId) (g : List V → Option (V × Heap)) (h : DC.ext f = some g) : FnOk DC.P f ∧ ∀ xs r H', g xs = some (r, H') → Contract DC.P f xs r H' := by
  unfold DC at h
  simp only at h
  split at h
  · cases h; exact ⟨DC_fn123, split_contract⟩
  · cases h; exact ⟨DC_fn128, cloE_contract⟩
  · cases h; exact ⟨DC_fn148, repeat_contract fun s c w h1 h2 => Tryz.strings_Repeat s c w h1 h2⟩
  · cases h; exact ⟨DC_fn170, compare_contract fun a b w => Tryz.strings_Compare a b w⟩
  · cases h; exact ⟨DC_fn178, mul_contract fun x y w h1 h2 => Tryz.bits_Mul x y h1 h2 w⟩
  · cases h; exact ⟨DC_fn213, DC_clone213⟩
  · cases h; exact ⟨DC_fn214, DC_clone214⟩
  · cases h; exact ⟨DC_fn220, indexByte_contract fun s c w => Tryz.stringslite_IndexByte s c w⟩
  · cases h

theorem DC_extE (f : FuncId) (g : List V → Heap → Option (V × Heap)) (h : DC.extE f = some g) : FnOk DC.P f ∧ ∀ args H r H', g args H = some (r, H') → ∀ base Z φ w cargs, Inv base Z φ H w → ArgsRel φ (Wr φ H Z) w args cargs →
    Calls DC.P f cargs w (fun e w' => ∃ v, e = .returned v ∧ Turns base Z φ H w H' r v w') := by
  unfold DC at h
  simp only at h
  split at h
  · cases h; exact ⟨DC_fn141, fun args H r H' hx base Z φ w cargs I ha => ins_contract args H r H' hx base Z φ w cargs I ha⟩
  · cases h; exact ⟨DC_fn149, fun args H r H' hx base Z φ w cargs I ha => DC_str args H r H' hx base Z φ w cargs I ha⟩
  · cases h; exact ⟨DC_fn177, fun args H r H' hx base Z φ w cargs I ha => DC_copy args H r H' hx base Z φ w cargs I ha⟩
  · cases h

theorem DC_good : Good DC := ⟨by kernel_rfl, DC_body, DC_ext, DC_extE⟩
end Go.Abs
