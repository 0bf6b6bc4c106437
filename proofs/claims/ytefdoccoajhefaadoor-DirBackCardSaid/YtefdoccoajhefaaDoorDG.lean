/- Proved here: the context agrees with the program. No condition but those that each theorem states. -/
import Derived.Test.YtefdoccoajhefaaDoorDC
import Derived.Test.YtefdoccoajhefaaDoorTryShelf
import Derived.Test.YtefdoccoajhefaaDoorCLO
import Derived.Test.YtefdoccoajhefaaDoorINS
import Derived.Test.YtefdoccoajhefaaDoorSPC
namespace Go.Abs
open Go.Proofs Go.RowKit
set_option maxRecDepth 100000

theorem DC_copy (args : List V) (H : Heap) (r : V) (H' : Heap) (hx : copyX 49 args H = some (r, H')) (base : Nat) (Z : Nat → Prop) (φ : Abs.Place) (w : World) (cargs : Array Value) (I : Inv base Z φ H w) (ha : ArgsRel φ (Wr φ H Z) w args cargs) :
    Calls Tryd.prog 45 cargs w (fun e w' => ∃ v, e = .returned v ∧ Turns base Z φ H w H' r v w') :=
  copy_contract (fun b w h1 h2 h3 => Any.Builder_copyCheck_fresh { Tryd.lays165 with } Tryd.Builder_Extra_165.toX72 b w h1 h2 h3) (fun b w h => Any.Builder_copyCheck_used { Tryd.lays165 with } Tryd.Builder_Extra_165.toX72 b w h) args H r H' hx base Z φ w cargs I ha
theorem DC_str (args : List V) (H : Heap) (r : V) (H' : Heap) (hx : strX 49 5 args H = some (r, H')) (base : Nat) (Z : Nat → Prop) (φ : Abs.Place) (w : World) (cargs : Array Value) (I : Inv base Z φ H w) (ha : ArgsRel φ (Wr φ H Z) w args cargs) :
    Calls Tryd.prog 31 cargs w (fun e w' => ∃ v, e = .returned v ∧ Turns base Z φ H w H' r v w') :=
  str_contract (fun b p w h => Any.Builder_String_nil Tryd.lays169 Tryd.Builder_Extra_169 w.heap.size b p w h) (fun b g cap p cur l w h1 h2 h3 h4 h5 h6 h7 => str_walk Tryd.lays169 Tryd.Builder_Extra_169 b g cap p cur l w h1 h2 h3 h4 h5 h6 h7) args H r H' hx base Z φ w cargs I ha

theorem DC_ext (f : FuncId) (g : List V → Option (V × Heap)) (h : DC.ext f = some g) : FnOk DC.P f ∧ ∀ xs r H', g xs = some (r, H') → Contract DC.P f xs r H' := by
  unfold DC at h
  simp only at h
  split at h
  · cases h; exact ⟨DC_fn9, split_contract⟩
  · cases h; exact ⟨DC_fn30, repeat_contract fun s c w h1 h2 => Tryd.strings_Repeat s c w h1 h2⟩
  · cases h; exact ⟨DC_fn41, cloE_contract⟩
  · cases h; exact ⟨DC_fn46, mul_contract fun x y w h1 h2 => Tryd.bits_Mul x y h1 h2 w⟩
  · cases h; exact ⟨DC_fn57, compare_contract fun a b w => Tryd.strings_Compare a b w⟩
  · cases h; exact ⟨DC_fn78, indexByte_contract fun s c w => Tryd.stringslite_IndexByte s c w⟩
  · cases h

theorem DC_extE (f : FuncId) (g : List V → Heap → Option (V × Heap)) (h : DC.extE f = some g) : FnOk DC.P f ∧ ∀ args H r H', g args H = some (r, H') → ∀ base Z φ w cargs, Inv base Z φ H w → ArgsRel φ (Wr φ H Z) w args cargs →
    Calls DC.P f cargs w (fun e w' => ∃ v, e = .returned v ∧ Turns base Z φ H w H' r v w') := by
  unfold DC at h
  simp only at h
  split at h
  · cases h; exact ⟨DC_fn31, fun args H r H' hx base Z φ w cargs I ha => DC_str args H r H' hx base Z φ w cargs I ha⟩
  · cases h; exact ⟨DC_fn40, fun args H r H' hx base Z φ w cargs I ha => ins_contract args H r H' hx base Z φ w cargs I ha⟩
  · cases h; exact ⟨DC_fn45, fun args H r H' hx base Z φ w cargs I ha => DC_copy args H r H' hx base Z φ w cargs I ha⟩
  · cases h

theorem DC_good : Good DC := ⟨by kernel_rfl, DC_body, DC_ext, DC_extE⟩
end Go.Abs
