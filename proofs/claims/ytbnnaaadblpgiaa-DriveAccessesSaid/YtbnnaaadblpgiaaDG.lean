/- Proved here: the context agrees with the program. No condition but those that each theorem states. -/
import Derived.Test.YtbnnaaadblpgiaaDC
import Derived.Test.YtbnnaaadblpgiaaTryShelf
import Derived.Test.YtbnnaaadblpgiaaINS3
namespace Go.Abs
open Go.Proofs Go.RowKit
set_option maxRecDepth 100000

theorem DC_clone29 (xs : List V) (r : V) (H' : Heap) (hx : cloneX 1 16 xs = some (r, H')) : Contract Try.prog 29 xs r H' :=
  clone_contract (e := 9) (fun n c w => Try.slices_Clone_nil_f29 n c w) (fun a c w => Try.slices_Clone_string_zero a c w)
    (fun b off n c news w h1 h2 h3 h4 h5 => Try.slices_Clone_f29 Try.t9 (.string ⟨#[]⟩) 1 16 (by kernel_rfl) (by kernel_rfl) (by kernel_rfl) (by kernel_rfl) (by kernel_rfl) (by decide) Try.sizeOf9 b off n c news w h1 h2 h3 h4 h5) xs r H' hx

theorem DC_clone30 (xs : List V) (r : V) (H' : Heap) (hx : cloneX 1 8 xs = some (r, H')) : Contract Try.prog 30 xs r H' :=
  clone_contract (e := 3) (fun n c w => Try.slices_Clone_nil_f30 n c w) (fun a c w => Try.slices_Clone_int_zero a c w)
    (fun b off n c news w h1 h2 h3 h4 h5 => Try.slices_Clone_f30 Try.t3 (.int .i64 0) 1 8 (by kernel_rfl) (by kernel_rfl) (by kernel_rfl) (by kernel_rfl) (by kernel_rfl) (by decide) Try.sizeOf3 b off n c news w h1 h2 h3 h4 h5) xs r H' hx

theorem DC_copy (args : List V) (H : Heap) (r : V) (H' : Heap) (hx : copyX 67 args H = some (r, H')) (base : Nat) (Z : Nat → Prop) (φ : Abs.Place) (w : World) (cargs : Array Value) (I : Inv base Z φ H w) (ha : ArgsRel φ (Wr φ H Z) w args cargs) :
    Calls Try.prog 46 cargs w (fun e w' => ∃ v, e = .returned v ∧ Turns base Z φ H w H' r v w') :=
  copy_contract (fun b w h1 h2 h3 => Any.Builder_copyCheck_fresh { Try.lays165 with } Try.Builder_Extra_165.toX72 b w h1 h2 h3) (fun b w h => Any.Builder_copyCheck_used { Try.lays165 with } Try.Builder_Extra_165.toX72 b w h) args H r H' hx base Z φ w cargs I ha
theorem DC_str (args : List V) (H : Heap) (r : V) (H' : Heap) (hx : strX 67 5 args H = some (r, H')) (base : Nat) (Z : Nat → Prop) (φ : Abs.Place) (w : World) (cargs : Array Value) (I : Inv base Z φ H w) (ha : ArgsRel φ (Wr φ H Z) w args cargs) :
    Calls Try.prog 40 cargs w (fun e w' => ∃ v, e = .returned v ∧ Turns base Z φ H w H' r v w') :=
  str_contract (fun b p w h => Any.Builder_String_nil Try.lays169 Try.Builder_Extra_169 w.heap.size b p w h) (fun b g cap p cur l w h1 h2 h3 h4 h5 h6 h7 => str_walk Try.lays169 Try.Builder_Extra_169 b g cap p cur l w h1 h2 h3 h4 h5 h6 h7) args H r H' hx base Z φ w cargs I ha

theorem DC_ext (f : FuncId) (g : List V → Option (V × Heap)) (h : DC.ext f = some g) : FnOk DC.P f ∧ ∀ xs r H', g xs = some (r, H') → Contract DC.P f xs r H' := by
  unfold DC at h
  simp only at h
  split at h
  · cases h; exact ⟨DC_fn26, repeat_contract fun s c w h1 h2 => Try.strings_Repeat s c w h1 h2⟩
  · cases h; exact ⟨DC_fn29, DC_clone29⟩
  · cases h; exact ⟨DC_fn30, DC_clone30⟩
  · cases h; exact ⟨DC_fn35, mul_contract fun x y w h1 h2 => Try.bits_Mul x y h1 h2 w⟩
  · cases h

theorem DC_extE (f : FuncId) (g : List V → Heap → Option (V × Heap)) (h : DC.extE f = some g) : FnOk DC.P f ∧ ∀ args H r H', g args H = some (r, H') → ∀ base Z φ w cargs, Inv base Z φ H w → ArgsRel φ (Wr φ H Z) w args cargs →
    Calls DC.P f cargs w (fun e w' => ∃ v, e = .returned v ∧ Turns base Z φ H w H' r v w') := by
  unfold DC at h
  simp only at h
  split at h
  · cases h; exact ⟨DC_fn24, fun args H r H' hx base Z φ w cargs I ha => in1_contract args H r H' hx base Z φ w cargs I ha⟩
  · cases h; exact ⟨DC_fn40, fun args H r H' hx base Z φ w cargs I ha => DC_str args H r H' hx base Z φ w cargs I ha⟩
  · cases h; exact ⟨DC_fn46, fun args H r H' hx base Z φ w cargs I ha => DC_copy args H r H' hx base Z φ w cargs I ha⟩
  · cases h

theorem DC_good : Good DC := ⟨by kernel_rfl, DC_body, DC_ext, DC_extE⟩
end Go.Abs
