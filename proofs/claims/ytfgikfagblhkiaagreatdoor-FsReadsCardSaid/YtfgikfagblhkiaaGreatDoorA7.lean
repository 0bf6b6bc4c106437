/- Proved here: part 7 of a sound evaluator for the model: what it computes of a call, the call does. No condition. -/
import Derived.Test.YtfgikfagblhkiaaGreatDoorA6
import Derived.Shelf.Strings.Builder1
import Derived.Lib.Bytealg
namespace Go.Abs
open Go.RowKit Go.Proofs Go.Shelf
set_option linter.unusedVariables false
set_option linter.unusedSimpArgs false

/-- Is this what a strings.Builder holds ahead: nothing, or its own address? -/
def pSelf (b : Nat) : V → Bool
  | .nilx 0 => true
  | .ptr b' 1 0 0 => b' == b
  | _ => false

/-- strings.Builder's copyCheck, evaluated. -/
def copyX (T : TypeId) : List V → Heap → Option (V × Heap)
  | [.ptr b 1 0 0], H => match H[b]? with
    | some (.arr (some T') 2 [.agg [p, x]]) => if T' = T ∧ pSelf b p = true then some (.tuple [], H.set b (.arr (some T) 2 [.agg [.ptr b 1 0 0, x]])) else none
    | _ => none
  | _, _ => none

def rdU8s : List V → Option (List UInt8)
  | [] => some []
  | .int .u8 n :: r => if 0 ≤ n ∧ n < 256 then (rdU8s r).map (UInt8.ofNat n.toNat :: ·) else none
  | _ => none

theorem rdU8s_eq : ∀ {es : List V} {bs : List UInt8}, rdU8s es = some bs → es = u8s bs
  | [], bs, h => by simp [rdU8s] at h; subst h; rfl
  | c :: r, bs, h => by
    unfold rdU8s at h
    split at h
    · rename_i heq; cases heq
    · rename_i n r' heq
      cases heq
      split at h
      · rename_i hn
        rw [Option.map_eq_some_iff] at h
        obtain ⟨bs', h1, rfl⟩ := h
        rw [rdU8s_eq h1]
        have e : (((UInt8.ofNat n.toNat).toNat : Nat) : Int) = n := by rw [UInt8.toNat_ofNat']; omega
        show V.int .u8 n :: u8s bs' = V.int .u8 ((UInt8.ofNat n.toNat).toNat : Nat) :: u8s bs'
        rw [e]
      · cases h
    · cases h

@[simp] theorem rdU8s_u8s : ∀ (bs : List UInt8), rdU8s (u8s bs) = some bs
  | [] => rfl
  | b :: bs => by
    have h := rdU8s_u8s bs
    have hb := b.toNat_lt
    unfold u8s at h
    simp only [u8s, List.map_cons, rdU8s, h]
    rw [if_pos (by omega)]
    simp
@[simp] theorem rdU8s_nil : rdU8s [] = some [] := rfl

/-- A buffer that has been read. -/
def spent (e : TypeId) : List V → Blk
  | [] => .arr (some e) 1 []
  | _ => .dead

/-- strings.Builder's String, evaluated: the buffer is not to be used any more. -/
def strX (T e : TypeId) : List V → Heap → Option (V × Heap)
  | [.ptr b 1 0 0], H => match H[b]? with
    | some (.arr (some T') 2 [.agg [p, .own g n 0 m]]) => match H[g]? with
      | some (.arr (some e') 1 es) => match rdU8s es with
        | some bs => if T' = T ∧ e' = e ∧ n = m ∧ es.length = n then some (.str bs, H.set g (spent e es)) else none
        | none => none
      | _ => none
    | _ => none
  | _, _ => none

section
variable {P : Program} {base : Nat} {Z : Nat → Prop} {φ : Place} {H : Heap} {w : World}

/-- A builder's block. -/
theorem bld_at {b T : Nat} {p x : V} {cv : Value} (I : Inv base Z φ H w) (hb : H[b]? = some (.arr (some T) 2 [.agg [p, x]])) (h : VRel φ (Wr φ H Z) w (.ptr b 1 0 0) cv) :
    ∃ c pv xv, φ b = .at c 2 1 ∧ cv = .pointer (some ⟨c, 0, none⟩) ∧ w.heap[c]? = some (.cells #[pv, xv] T (0, 0)) ∧ pv.oneCell' = true ∧ xv.oneCell' = true ∧ VRel φ (Wr φ H Z) w p pv ∧ VRel φ (Wr φ H Z) w x xv := by
  obtain ⟨c, s, hl, hcv⟩ := ptr_live I h (by unfold live; rw [hb]; rfl)
  obtain ⟨y, hy, hr⟩ := I.blk b c s 1 hl
  rw [hb] at hy
  cases hy
  obtain ⟨_, rfl, ⟨h0, cs, t, fr, hh, hsz, hfr, hel⟩, hT⟩ := hr
  obtain ⟨⟨cs', hh', hs⟩, _⟩ := hT T rfl
  rw [hh] at hh'
  cases hh'
  have hsize := hs (by decide)
  obtain ⟨pv, p1, p2, p3⟩ := (hel 0 _ rfl).2 0 p rfl
  obtain ⟨xv, x1, x2, x3⟩ := (hel 0 _ rfl).2 1 x rfl
  have hcs : cs = #[pv, xv] := by
    apply Array.ext
    · simpa using hsize
    · intro i h1 h2
      have : i < 2 := by omega
      match i with
      | 0 => simpa using (Array.getElem?_eq_some_iff.1 p1).2
      | 1 => simpa using (Array.getElem?_eq_some_iff.1 x1).2
  subst hcs
  exact ⟨c, pv, xv, hl, by simpa using hcv, hh, p2, x2, p3, x3⟩

theorem ptr_self {b c : Nat} {p : V} {pv : Value} (hl : φ b = .at c 2 1) (h : VRel φ (Wr φ H Z) w p pv) (hp : pSelf b p = true) : pv = .pointer none ∨ pv = .pointer (some ⟨c, 0, none⟩) := by
  unfold pSelf at hp
  split at hp
  · cases h with
    | nilx _ _ h => simp [nilVal] at h; exact .inl h.symm
  · rename_i b'
    have : b' = b := by simpa using hp
    subst this
    cases h with
    | ptr _ _ _ _ _ hv h1 h2 h3 => exact .inr (by simpa using (h3 c 2 1 hl).2 rfl)
  · cases hp

theorem arg_one {W : Nat → Prop} {x : V} {cargs : Array Value} (ha : ArgsRel φ W w [x] cargs) : ∃ c, cargs = #[c] ∧ VRel φ W w x c := by
  obtain ⟨h1, h2⟩ := ha
  have hs : cargs.size = 1 := by simpa using h1.symm
  refine ⟨cargs[0]'(by omega), ?_, h2 0 _ _ rfl (by simp [hs])⟩
  apply Array.ext
  · simpa using hs
  · intro i h1 h2
    have : i = 0 := by omega
    subst this
    rfl

theorem copy_contract {f T : Nat} (hfresh : ∀ (b : Nat) (w : World), w.cell? ⟨b, 0, none⟩ = some (.pointer none) → w.shape? b = some (T, 2) → w.frozen? ⟨b, 0, none⟩ = false →
      Calls P f #[.pointer (some ⟨b, 0, none⟩)] w fun e w' => e = .returned (.tuple #[]) ∧ w' = w.setCell ⟨b, 0, none⟩ (.pointer (some ⟨b, 0, none⟩)))
    (hused : ∀ (b : Nat) (w : World), w.cell? ⟨b, 0, none⟩ = some (.pointer (some ⟨b, 0, none⟩)) → Calls P f #[.pointer (some ⟨b, 0, none⟩)] w fun e w' => e = .returned (.tuple #[]) ∧ w' = w)
    (args : List V) (H : Heap) (r : V) (H' : Heap) (hx : copyX T args H = some (r, H')) (base : Nat) (Z : Nat → Prop) (φ : Place) (w : World) (cargs : Array Value) (I : Inv base Z φ H w) (ha : ArgsRel φ (Wr φ H Z) w args cargs) :
    Calls P f cargs w (fun e w' => ∃ v, e = .returned v ∧ Turns base Z φ H w H' r v w') := by
  unfold copyX at hx
  split at hx
  case h_2 => cases hx
  rename_i b
  split at hx
  case h_2 => cases hx
  rename_i T' p x hb
  split at hx
  case isFalse => cases hx
  rename_i hc
  obtain ⟨rfl, hp⟩ := hc
  cases hx
  obtain ⟨cv, rfl, hcv⟩ := arg_one ha
  obtain ⟨c, pv, xv, hl, rfl, hh, hp1, hx1, hpr, hxr⟩ := bld_at I hb hcv
  have hlt := (List.getElem?_eq_some_iff.1 hb).1
  -- the block turned
  have turned : ∀ w', w' = w.setRow c #[.pointer (some ⟨c, 0, none⟩), xv] → Turns base Z φ H w (H.set b (.arr (some T') 2 [.agg [.ptr b 1 0 0, x]])) (.tuple []) (.tuple #[]) w' := fun w' hw' => by
    subst hw'
    generalize hx' : Blk.arr (some T') 2 [.agg [.ptr b 1 0 0, x]] = x'
    have hW : ∀ c, Wr φ (H.set b x') Z c → Wr φ H Z c := wr_set hb rfl
    have E := Ext.write (h0 := H.length) (φ' := φ) (H' := H.set b x') (cs' := #[.pointer (some ⟨c, 0, none⟩), xv]) (fun _ _ h => .refl h) (.inr ⟨b, 2, 1, _, hl, hb, rfl⟩) hW hh (by simp)
    have hh' := setRow_heap w c _ #[.pointer (some ⟨c, 0, none⟩), xv] T' (0, 0) hh
    have hrow : Row φ (Wr φ (H.set b x') Z) (w.setRow c #[.pointer (some ⟨c, 0, none⟩), xv]) c 2 [.agg [.ptr b 1 0 0, x]] := by
      refine ⟨by decide, _, T', (0, 0), hh', by simp, Frz.none _ _, fun i e he => ?_⟩
      cases i with
      | succ i => simp at he
      | zero =>
        simp at he
        subst he
        refine ⟨rfl, fun j y hy => ?_⟩
        match j, hy with
        | 0, hy =>
          simp [V.cells] at hy
          subst hy
          exact ⟨_, rfl, rfl, .ptr _ _ _ _ _ rfl (by rw [hl]; simp) (by rw [hl]; simp) fun c' s' n' h => by rw [hl] at h; cases h; exact ⟨Nat.le_refl _, fun _ => rfl⟩⟩
        | 1, hy =>
          simp [V.cells] at hy
          subst hy
          exact ⟨_, rfl, hx1, hxr.mono E (fun _ => I.lt)⟩
        | j + 2, hy => simp [V.cells] at hy
    have I' := I.turn (b := b) E (by simp) (fun _ _ => rfl) hl ⟨(I.rng _ _ _ _ hl).1, by simpa using (I.rng _ _ _ _ hl).2⟩ (fun i s' n' hib h1 => hib (I.inj _ _ _ _ _ _ _ h1 hl)) (fun i x0 hib h1 => ⟨x0, by rw [List.getElem?_set_ne (Ne.symm hib)]; exact h1, x0.le_refl⟩) (List.getElem?_set_self hlt)
      (by rw [← hx']; exact ⟨rfl, rfl, by rw [hx']; exact hrow, fun T hT => by cases hT; exact ⟨⟨_, hh', fun _ => rfl⟩, fun _ => Nat.zero_lt_one⟩⟩) (fun i d s' n' hib h1 => setRow_other w c d _ (by rintro rfl; exact hib (I.inj _ _ _ _ _ _ _ h1 hl)))
    exact ⟨φ, I', .tuple _ _ rfl (by simp), ⟨E, below_setRow (I.rng _ _ _ _ hl).1⟩, by simp⟩
  rcases ptr_self hl hpr hp with rfl | rfl
  · refine Calls.mono (hfresh c w (by rw [cell_at hh]; rfl) (by rw [shape_at hh]; rfl) (frozen_at hh (Frz.none 2 2).1 (by simp))) fun e w' ⟨he, hw⟩ => ⟨_, he, turned w' ?_⟩
    rw [hw, setCell_eq_setRow w c 0 _ T' (0, 0) _ hh]
    rfl
  · refine Calls.mono (hused c w (by rw [cell_at hh]; rfl)) fun e w' ⟨he, hw⟩ => ⟨_, he, turned w' ?_⟩
    rw [hw]
    have := setCell_eq_setRow w c 0 _ T' (0, 0) (.pointer (some ⟨c, 0, none⟩)) hh
    have e : (#[.pointer (some ⟨c, 0, none⟩), xv] : Array Value).setIfInBounds 0 (.pointer (some ⟨c, 0, none⟩)) = #[.pointer (some ⟨c, 0, none⟩), xv] := rfl
    rw [e] at this
    rw [← this]
    -- a cell set to what it is
    unfold World.setCell
    cases w with
    | mk heap tape drawn os output =>
      congr 1
      apply Array.ext
      · simp
      · intro q h1 h2
        simp only [Array.getElem_modify]
        split
        · rename_i hk
          subst hk
          have : heap[c]? = some (.cells #[.pointer (some ⟨c, 0, none⟩), xv] T' (0, 0)) := hh
          have hq := (Array.getElem?_eq_some_iff.1 this).2
          simp [hq]
        · rfl

end

end Go.Abs

namespace Go.Abs
open Go.RowKit Go.Proofs Go.Shelf
set_option linter.unusedVariables false
set_option linter.unusedSimpArgs false
variable {P : Program} {ρ : Ren}

set_option maxHeartbeats 2000000 in
set_option maxRecDepth 100000 in
/-- strings.Builder's String at a buffer that holds bytes: they are read, and frozen. -/
theorem str_walk (L : Lays.n169 P ρ) (X : Builder.Extra P ρ) (b g cap : Nat) (p : Value) (cur : Array Value) (l : List UInt8) (w : World) (hbk : w.heap[b]? = some (.cells #[p, .slice (some ⟨g, 0, none⟩) l.length cap] (ρ.t 72) (0, 0)))
    (hg : w.heap[g]? = some (.cells cur (ρ.t 5) (0, 0))) (hc : l.length ≤ cap) (hcs : l.length ≤ cur.size) (hcm : cap ≤ maxLen) (h0 : l ≠ []) (hcell : ∀ (j : Nat) (x : UInt8), l[j]? = some x → cur[j]? = some (Value.int .u8 x.toNat)) :
    Calls P (ρ.f 169) #[.pointer (some ⟨b, 0, none⟩)] w fun e w' => e = .returned (.string ⟨l.toArray⟩) ∧ w' = w.drew.freeze ⟨g, 0, none⟩ l.length := by
  have hl0 : l.length ≠ 0 := by simpa using h0
  have c1 : w.drew.cell? ⟨b, 1, none⟩ = some (.slice (some ⟨g, 0, none⟩) l.length cap) := by
    have : w.drew.heap[b]? = some (.cells #[p, .slice (some ⟨g, 0, none⟩) l.length cap] (ρ.t 72) (0, 0)) := hbk
    rw [Lib.cell_of_heap this]; rfl
  have hSD : (Builtin.unsafeSliceData_ #[(ρ.t 37)] (ρ.t 127) #[.slice (some ⟨g, 0, none⟩) l.length cap]).run P w.drew = .ok (.pointer (some ⟨g, 0, none⟩)) w.drew :=
    Lib.run_unsafeSliceData_row _ _ _ _ _ _ (by omega)
  have hUS : (Builtin.unsafeString_ #[(ρ.t 127), (ρ.t 3)] (ρ.t 9) #[.pointer (some ⟨g, 0, none⟩), .int .i64 l.length]).run P w.drew = .ok (.string ⟨l.toArray⟩) (w.drew.freeze ⟨g, 0, none⟩ l.length) := by
    refine Lib.run_unsafeString_row w.drew (ρ.t 127) (ρ.t 3) (ρ.t 9) (ρ.t 5) L.t127 X.cellsByte g cur.size (by have hg' : w.drew.heap[g]? = some (.cells cur (ρ.t 5) (0, 0)) := hg; simp [World.shape?, hg']) l h0 (by omega) (by unfold maxLen at hcm; omega) ?_
    intro j x hx
    have hg' : w.drew.heap[g]? = some (.cells cur (ρ.t 5) (0, 0)) := hg
    rw [add_at, Nat.zero_add, cell_at hg']
    exact hcell j x hx
  have mixed := L.mixed
  have t72 := L.t72; have a72 := L.a72; have z72 := L.z72; have v72 := L.v72; have u72 := run_underlying L.t72
  have t70 := L.t70; have a70 := L.a70; have z70 := L.z70; have v70 := L.v70; have u70 := run_underlying L.t70
  have t37 := L.t37; have a37 := L.a37; have z37 := L.z37; have v37 := L.v37; have u37 := run_underlying L.t37
  have t127 := L.t127; have a127 := L.a127; have z127 := L.z127; have v127 := L.v127; have u127 := run_underlying L.t127
  have t3 := L.t3; have a3 := L.a3; have z3 := L.z3; have v3 := L.v3; have u3 := run_underlying L.t3
  have t9 := L.t9; have a9 := L.a9; have z9 := L.z9; have v9 := L.v9; have u9 := run_underlying L.t9
  have t5 := X.t5; have a5 := X.a5; have z5 := X.z5; have v5 := X.v5; have u5 := run_underlying X.t5
  go_enter L.f169, Body.n169_ntmps ρ
  go_wp2
  go_region_o
  all_goals (go_wp2; go_ret; exact ⟨rfl, rfl⟩)

theorem freeze_heap (w : World) (g n k : Nat) : (w.freeze ⟨g, 0, none⟩ n).heap.size = w.heap.size ∧ (k ≠ g → (w.freeze ⟨g, 0, none⟩ n).heap[k]? = w.heap[k]?) := by
  unfold World.freeze
  split
  · exact ⟨rfl, fun _ => rfl⟩
  · constructor
    · simp
    · intro hk
      simp only [Array.getElem?_modify]
      rw [if_neg (fun h => hk h.symm)]

theorem freeze_shape (w : World) (g n k : Nat) : (w.freeze ⟨g, 0, none⟩ n).shape? k = w.shape? k := by
  unfold World.freeze
  split
  · rfl
  · simp only [World.shape?, Array.getElem?_modify]
    by_cases hk : g = k
    · subst hk
      simp only [if_true]
      cases h : w.heap[g]? with
      | none => rfl
      | some o => cases o <;> rfl
    · rw [if_neg hk]

section
variable {base : Nat} {Z : Nat → Prop} {φ : Place} {H : Heap} {w : World}

theorem str_contract {f T e : Nat} (hnil : ∀ (b : Nat) (p : Value) (w : World), w.heap[b]? = some (.cells #[p, .slice none 0 0] T (0, 0)) → Calls P f #[.pointer (some ⟨b, 0, none⟩)] w fun e w' => e = .returned (.string ⟨#[]⟩) ∧ Below w.heap.size w w')
    (hsome : ∀ (b g cap : Nat) (p : Value) (cur : Array Value) (l : List UInt8) (w : World), w.heap[b]? = some (.cells #[p, .slice (some ⟨g, 0, none⟩) l.length cap] T (0, 0)) → w.heap[g]? = some (.cells cur e (0, 0)) → l.length ≤ cap → l.length ≤ cur.size → cap ≤ maxLen → l ≠ [] →
      (∀ (j : Nat) (x : UInt8), l[j]? = some x → cur[j]? = some (Value.int .u8 x.toNat)) → Calls P f #[.pointer (some ⟨b, 0, none⟩)] w fun e w' => e = .returned (.string ⟨l.toArray⟩) ∧ w' = w.drew.freeze ⟨g, 0, none⟩ l.length)
    (args : List V) (H : Heap) (r : V) (H' : Heap) (hx : strX T e args H = some (r, H')) (base : Nat) (Z : Nat → Prop) (φ : Place) (w : World) (cargs : Array Value) (I : Inv base Z φ H w) (ha : ArgsRel φ (Wr φ H Z) w args cargs) :
    Calls P f cargs w (fun e w' => ∃ v, e = .returned v ∧ Turns base Z φ H w H' r v w') := by
  unfold strX at hx
  split at hx
  case h_2 => cases hx
  rename_i b
  split at hx
  case h_2 => cases hx
  rename_i T' p g n m hb
  split at hx
  case h_2 => cases hx
  rename_i e' es hg
  split at hx
  case h_2 => cases hx
  rename_i bs hbs
  split at hx
  case isFalse => cases hx
  rename_i hc
  obtain ⟨rfl, rfl, rfl, hn⟩ := hc
  cases hx
  obtain ⟨cv, rfl, hcv⟩ := arg_one ha
  obtain ⟨c, pv, xv, hl, rfl, hh, hp1, hx1, hpr, hxr⟩ := bld_at I hb hcv
  obtain rfl := rdU8s_eq hbs
  have hlt := (List.getElem?_eq_some_iff.1 hg).1
  have hgb : g ≠ b := by rintro rfl; rw [hb] at hg; cases hg
  have hW : ∀ c, Wr φ (H.set g .dead) Z c → Wr φ H Z c := wr_set hg rfl
  obtain ⟨_, hr⟩ := own_readA I hg hn hxr
  rcases hr with ⟨hlg, hes, rfl, _, rfl⟩ | ⟨cg, hlg, hrow, ⟨a, cap, t', z', rfl, hsh, hcap, hac, ha0⟩, hT⟩
  · -- nothing was written
    have : bs = [] := by cases bs with | nil => rfl | cons _ _ => simp [u8s] at hes
    subst this
    have hset : H.set g (spent e' (u8s [])) = H := by
      apply List.ext_getElem?
      intro i
      by_cases hii : g = i
      · subst hii
        rw [List.getElem?_set_self hlt, hg]
        rfl
      · rw [List.getElem?_set_ne hii]
    rw [hset]
    refine Calls.mono (hnil c pv w hh) fun x w' ⟨he, hbl⟩ => ⟨_, he, ?_⟩
    have E : Ext H.length φ (Wr φ H Z) w φ (Wr φ H Z) w' := ⟨fun _ _ h => .refl h, fun _ _ h => h, fun c hc _ => hbl.block c hc, shape_below hbl, hbl.size⟩
    have I' : Inv base Z φ H w' :=
      { hz := I.hz
        hb := Nat.le_trans I.hb hbl.size
        born := I.born
        inj := I.inj
        rng := fun b c s n h => ⟨(I.rng b c s n h).1, Nat.lt_of_lt_of_le (I.rng b c s n h).2 hbl.size⟩
        blk := fun b c s n h => by
          obtain ⟨x, hx, hr⟩ := I.blk b c s n h
          exact ⟨x, hx, hr.mono E (fun _ => I.lt) (hbl.block c (I.rng b c s n h).2)⟩
        nil := I.nil }
    exact ⟨φ, I', .str [], ⟨E, hbl.mono I.hb⟩, Nat.le_refl _⟩
  · have haa := hac (.inr rfl)
    subst haa
    obtain ⟨⟨cs, hcg, _⟩, hpos⟩ := hT e' rfl
    have hn0 := hpos rfl
    obtain ⟨_, cs', tt, fr, hh', hsz, hfr, hel⟩ := hrow
    rw [hcg] at hh'
    cases hh'
    have hlen : (u8s bs).length = bs.length := by simp [u8s]
    have hne : bs ≠ [] := by rintro rfl; simp [u8s] at hn; omega
    have hspent : spent e' (u8s bs) = .dead := by
      cases bs with
      | nil => exact absurd rfl hne
      | cons _ _ => rfl
    rw [hspent]
    refine Calls.mono (hsome c cg cap pv cs bs w (by rw [← hlen, hn, hh]) hcg (by omega) (by omega) (ha0 rfl).2.2 hne (fun j x hj => ?_)) fun x w' ⟨he, hw⟩ => ⟨_, he, ?_⟩
    · obtain ⟨v, p1, p2, p3⟩ := (hel j (.int .u8 x.toNat) (by simp [u8s, hj])).2 0 _ rfl
      cases p3
      simpa using p1
    · subst hw
      have hcl : cg < w.heap.size := (I.rng _ _ _ _ hlg).2
      have hkeep : ∀ d, d ≠ cg → (w.drew.freeze ⟨cg, 0, none⟩ bs.length).heap[d]? = w.heap[d]? := fun d hd => (freeze_heap w.drew cg bs.length d).2 hd
      have hsz' : (w.drew.freeze ⟨cg, 0, none⟩ bs.length).heap.size = w.heap.size := (freeze_heap w.drew cg bs.length 0).1
      have E : Ext H.length φ (Wr φ H Z) w φ (Wr φ (H.set g .dead) Z) (w.drew.freeze ⟨cg, 0, none⟩ bs.length) :=
        ⟨fun _ _ h => .refl h, fun c _ h => hW c h, fun d hd hnw => hkeep d (by rintro rfl; exact hnw (.inr ⟨g, 1, n, _, hlg, hg, rfl⟩)), fun d y hy => by rw [freeze_shape]; exact hy, by rw [hsz']; exact Nat.le_refl _⟩
      have I' := I.turn (b := g) (x' := .dead) E (by simp) (fun _ _ => rfl) hlg ⟨(I.rng _ _ _ _ hlg).1, by rw [hsz']; exact hcl⟩ (fun i s' n' hib h1 => hib (I.inj _ _ _ _ _ _ _ h1 hlg)) (fun i x0 hib h1 => ⟨x0, by rw [List.getElem?_set_ne (Ne.symm hib)]; exact h1, x0.le_refl⟩) (List.getElem?_set_self hlt) trivial
        (fun i d s' n' hib h1 => hkeep d (by rintro rfl; exact hib (I.inj _ _ _ _ _ _ _ h1 hlg)))
      refine ⟨φ, I', .str bs, ⟨E, Lib.below_freeze (Below.drew (.refl ..)) (I.rng _ _ _ _ hlg).1 _⟩, by simp⟩
end

end Go.Abs

namespace Go.Abs
open Go.RowKit
set_option linter.unusedVariables false
set_option linter.unusedSimpArgs false

/-- slices.Insert of one element of two cells, evaluated. -/
def insAtX (bytes : Nat) : List V → Heap → Option (V × Heap)
  | [.own b tot off len, .int .i64 i, .own b2 1 0 1], H => match H[b]?, H[b2]? with
    | some (.dat true s es), some (.dat _ s2 [x]) =>
      if s = 2 ∧ s2 = 2 ∧ off = 0 ∧ len = tot ∧ es.length = tot ∧ 0 ≤ i ∧ i ≤ tot ∧ b ≠ b2 ∧ (tot + 1) * bytes ≤ room ∧ tot + 1 ≤ room then
        some (.own b (tot + 1) 0 (tot + 1), H.set b (.dat true 2 (es.take i.toNat ++ [x] ++ es.drop i.toNat))) else none
    | _, _ => none
  | _, _ => none

/-- What an insertion into the row of block b leaves: the row 'L' ahead in block g. -/
structure InsDone (w w' : World) (b g k cap : Nat) (L : List Value) : Prop where
  at_ : ∃ cs e, w'.heap[g]? = some (.cells cs e (0, 0)) ∧ cap * 2 ≤ cs.size ∧ cs.toList.take (k * 2) = L
  place : g = b ∨ w.heap.size ≤ g
  fits : k ≤ cap
  max : cap ≤ maxLen
  size : w.heap.size ≤ w'.heap.size
  other : ∀ d, d < w.heap.size → d ≠ b → w'.heap[d]? = w.heap[d]?
  shape : ∀ d x, w.shape? d = some x → w'.shape? d = some x
  os : w'.os = w.os
  tape : w'.tape = w.tape
  output : w'.output = w.output

section
variable {P : Program} {base : Nat} {Z : Nat → Prop} {φ : Place} {H : Heap} {w : World}

theorem crel_take {W : Nat → Prop} {cs : List V} {vs : List Value} (h : CRel φ W w cs vs) (n : Nat) : CRel φ W w (cs.take n) (vs.take n) := by
  refine ⟨by rw [List.length_take, List.length_take, h.1], fun v hv => h.2.1 v (List.mem_of_mem_take hv), fun i c v hc hv => ?_⟩
  rw [List.getElem?_take] at hc hv
  split at hc
  · rename_i hi
    rw [if_pos hi] at hv
    exact h.2.2 i c v hc hv
  · cases hc

theorem crel_drop {W : Nat → Prop} {cs : List V} {vs : List Value} (h : CRel φ W w cs vs) (n : Nat) : CRel φ W w (cs.drop n) (vs.drop n) := by
  refine ⟨by rw [List.length_drop, List.length_drop, h.1], fun v hv => h.2.1 v (List.mem_of_mem_drop hv), fun i c v hc hv => ?_⟩
  rw [List.getElem?_drop] at hc hv
  exact h.2.2 _ c v hc hv

theorem insAt_contract {f : FuncId} {bytes : Nat} (hb8 : 1 ≤ bytes)
    (hnil : ∀ (vb vc : Nat) (x y : Value) (w : World), w.cell? ⟨vb, 0, none⟩ = some x → w.cell? ⟨vb, 1, none⟩ = some y → x.oneCell' = true → y.oneCell' = true →
      Calls P f #[.slice none 0 0, .int .i64 0, .slice (some ⟨vb, 0, none⟩) 1 vc] w fun e w' => ∃ g cap, e = .returned (.slice (some ⟨g, 0, none⟩) 1 cap) ∧ w.heap.size ≤ g ∧ InsDone w w' g g 1 cap [x, y])
    (hsome : ∀ (b n c i vb vc : Nat) (x y : Value) (cur vcur : Array Value) (t tv : TypeId) (w : World), i ≤ n → n ≤ c → c ≤ maxLen → (n + 1) * bytes ≤ 140737488355328 → vb ≠ b → w.heap[b]? = some (.cells cur t (0, 0)) → c * 2 ≤ cur.size →
      (∀ v ∈ cur.toList.take (n * 2), v.oneCell' = true) → w.heap[vb]? = some (.cells vcur tv (0, 0)) → vcur[0]? = some x → vcur[1]? = some y → x.oneCell' = true → y.oneCell' = true →
      Calls P f #[.slice (some ⟨b, 0, none⟩) n c, .int .i64 i, .slice (some ⟨vb, 0, none⟩) 1 vc] w fun e w' => ∃ g cap, e = .returned (.slice (some ⟨g, 0, none⟩) (n + 1) cap) ∧
        InsDone w w' b g (n + 1) cap (cur.toList.take (i * 2) ++ [x, y] ++ (cur.toList.take (n * 2)).drop (i * 2)))
    (args : List V) (H : Heap) (r : V) (H' : Heap) (hx : insAtX bytes args H = some (r, H')) (base : Nat) (Z : Nat → Prop) (φ : Place) (w : World) (cargs : Array Value) (I : Inv base Z φ H w) (ha : ArgsRel φ (Wr φ H Z) w args cargs) :
    Calls P f cargs w (fun e w' => ∃ v, e = .returned v ∧ Turns base Z φ H w H' r v w') := by
  unfold insAtX at hx
  split at hx
  case h_2 => cases hx
  rename_i b tot off len i b2
  split at hx
  case h_2 => cases hx
  rename_i s es wr2 s2 nx hH1 hH2
  split at hx
  case isFalse => cases hx
  rename_i hc
  obtain ⟨rfl, rfl, rfl, rfl, ht, hi0, hi1, hne, hby, hrm⟩ := hc
  cases hx
  obtain ⟨c1, c2, c3, rfl, r1, r2, r3⟩ := len_three' ha rfl
  cases r2
  have h2 := own_whole I hH2 rfl r3
  rcases h2 with ⟨_, h0, _⟩ | ⟨vb, vc, vcs, vt, vfr, hvl, rfl, hvc, hvz, _, hvh, _, hnew, hvf, hvr⟩
  · simp at h0
  simp only [List.length_singleton] at hvc
  obtain rfl : vfr = (0, 0) := hvf.2.resolve_left (by decide)
  have hvs : vcs.toList.length = vcs.size := Array.length_toList
  have hnx : nx.cells.length = 2 := hnew 0 nx rfl
  obtain ⟨x, y, hxy⟩ : ∃ x y, vcs.toList.take 2 = [x, y] := by
    have : (vcs.toList.take 2).length = 2 := by rw [List.length_take]; omega
    match h : vcs.toList.take 2, this with
    | [x, y], _ => exact ⟨x, y, rfl⟩
  have hvx : vcs[0]? = some x := by
    have : (vcs.toList.take 2)[0]? = some x := by rw [hxy]; rfl
    rw [List.getElem?_take] at this
    simpa using this
  have hvy : vcs[1]? = some y := by
    have : (vcs.toList.take 2)[1]? = some y := by rw [hxy]; rfl
    rw [List.getElem?_take] at this
    simpa using this
  simp only [List.length_singleton, Nat.one_mul, List.flatMap_cons, List.flatMap_nil, List.append_nil, hxy] at hvr
  have h1x : x.oneCell' = true := hvr.2.1 x (by simp)
  have h1y : y.oneCell' = true := hvr.2.1 y (by simp)
  obtain ⟨k, rfl⟩ : ∃ k : Nat, i = k := ⟨i.toNat, by omega⟩
  simp only [Int.toNat_natCast]
  have hk : k ≤ len := by omega
  have hlt : (es.take k ++ [nx] ++ es.drop k).length = len + 1 := by simp; omega
  have fin : ∀ (g cap : Nat) (L : List Value) (w' : World) (bb : Nat), (φ b = .nil ∧ len = 0 ∧ w.heap.size ≤ bb ∨ φ b = .at bb 2 len) → InsDone w w' bb g (len + 1) cap L → (g = bb → φ b = .nil → w.heap.size ≤ g) → Each 2 (es.take k ++ [nx] ++ es.drop k) → CRel pure0 (Wr φ H Z) w ((es.take k ++ [nx] ++ es.drop k).flatMap V.cells) L →
      Turns base Z φ H w (H.set b (.dat true 2 (es.take k ++ [nx] ++ es.drop k))) (.own b (len + 1) 0 (len + 1)) (.slice (some ⟨g, 0, none⟩) (len + 1) cap) w' := fun g cap L w' bb hp D hnilg hE hL => by
    obtain ⟨cs, e, hh, hcs, htk⟩ := D.at_
    have hbb : ∀ d s' n', φ b = .at d s' n' → d = bb := fun d s' n' h => by
      rcases hp with ⟨hp, _⟩ | hp
      · rw [hp] at h; cases h
      · rw [hp] at h; cases h; rfl
    have hbase : base ≤ bb := by
      rcases hp with ⟨hp, _, hge⟩ | hp
      · exact Nat.le_trans I.hb hge
      · exact (I.rng _ _ _ _ hp).1
    have := e_redo (b := b) (s := 2) (tot := len) (cap := cap) (g := g) (es := es) (es' := es.take k ++ [nx] ++ es.drop k) (w' := w') I
      (by
        rcases hp with ⟨hp, _⟩ | hp
        · exact .inl hp
        · exact .inr ⟨bb, hp⟩) hH1 (by omega) hE (by omega) D.size (fun d hd h => D.other d hd fun hdb => by
        subst hdb
        rcases hp with ⟨hp, _, hge⟩ | hp
        · omega
        · exact h _ _ hp) D.shape ⟨D.os, D.tape, D.output, D.size, fun c hc => by
          have := I.hb
          exact D.other c (by omega) (by omega)⟩
      (by
        rcases D.place with rfl | h
        · rcases hp with ⟨hp, _⟩ | hp
          · exact .inl (hnilg rfl hp)
          · exact .inr hp
        · exact .inl h) hh (Frz.none _ _) (by rw [hlt]; exact D.fits) hcs D.max (by rw [hlt, htk]; exact hL)
    rw [hlt] at this
    exact this
  have hm : 140737488355328 ≥ (len + 1) * bytes := Nat.le_trans hby (by unfold room; decide)
  rcases own_whole I hH1 ht r1 with ⟨hnil', h0, rfl⟩ | ⟨c, cap, cs, t, fr, hl, rfl, hcap, hsz, hmx, hh, h01, hes, hfr, hcr⟩
  · -- the nil slice
    subst h0
    have hes0 : es = [] := List.eq_nil_of_length_eq_zero ht
    subst hes0
    have hk0 : k = 0 := by omega
    subst hk0
    refine Calls.mono (hnil vb vc x y w (by rw [cell_in hvh]; exact hvx) (by rw [cell_in hvh]; exact hvy) h1x h1y) fun z w' ⟨g, cap, he, hg, D⟩ => ⟨_, he, ?_⟩
    exact fin g cap _ w' g (.inl ⟨hnil', rfl, hg⟩) D (fun _ _ => hg) (by simpa using hnew) (by simpa using hvr)
  · obtain rfl : fr = (0, 0) := hfr.2.resolve_left (by decide)
    have hcl : cs.toList.length = cs.size := Array.length_toList
    have hcv : c ≠ vb := by
      rintro rfl
      exact hne (I.inj _ _ _ _ _ _ _ hl hvl)
    refine Calls.mono (hsome c len cap k vb vc x y cs vcs t vt w hk hcap hmx hm (Ne.symm hcv) hh hsz (by rw [← ht]; exact hcr.2.1) hvh hvx hvy h1x h1y) fun z w' ⟨g, cap', he, D⟩ => ⟨_, he, ?_⟩
    refine fin g cap' _ w' c (.inr hl) D (fun h1 h2 => by rw [hl] at h2; cases h2) ((hes.take.append hnew).append hes.drop) ?_
    have e1 : (es.take k ++ [nx] ++ es.drop k).flatMap V.cells = (es.flatMap V.cells).take (k * 2) ++ nx.cells ++ (es.flatMap V.cells).drop (k * 2) := by
      rw [List.flatMap_append, List.flatMap_append, flat_take hes k (by omega), flat_drop hes k (by omega)]
      simp
    have e2 : cs.toList.take (k * 2) = (cs.toList.take (es.length * 2)).take (k * 2) := by rw [List.take_take]; congr 1; omega
    rw [e1, e2, ← ht]
    exact ((crel_take hcr _).append hvr).append (crel_drop hcr _)

end

end Go.Abs

namespace Go.Abs
open Go.RowKit
set_option linter.unusedVariables false
set_option linter.unusedSimpArgs false

/-- strings.Compare, evaluated. -/
def compareX : List V → Option (V × Heap)
  | [.str a, .str b] => some (.int .i64 (Lib.compareBytes a b), [])
  | _ => none

/-- The first place of a byte. -/
def findB (c : UInt8) : List UInt8 → Option Nat
  | [] => none
  | b :: l => if b = c then some 0 else (findB c l).map (· + 1)

/-- stringslite.IndexByte, evaluated. -/
def indexByteX : List V → Option (V × Heap)
  | [.str s, .int .u8 c] => some (.int .i64 (match findB (UInt8.ofNat c.toNat) s with | some n => n | none => -1), [])
  | _ => none

/-- A path cut at its first slash. -/
def cutA (s : List UInt8) : List UInt8 := s.takeWhile (· != 47)
def cutB (s : List UInt8) : List UInt8 := (s.dropWhile (· != 47)).drop 1
/-- The parts of a path that are not empty. -/
def partsF : Nat → List UInt8 → List (List UInt8)
  | 0, _ => []
  | n + 1, s => if s = [] then [] else if cutA s = [] then partsF n (cutB s) else cutA s :: partsF n (cutB s)
/-- Is a text a name? -/
def chOk (c : UInt8) : Bool := decide (33 ≤ c.toNat) && decide (c.toNat ≤ 126) && !(c == 47)
def nameOk (s : List UInt8) : Bool := !(s == []) && !(s == [46]) && !(s == [46, 46]) && decide (s.length ≤ 14) && s.all chOk

/-- dir.Split, evaluated. -/
def splitX : List V → Option (V × Heap)
  | [.str s] => if s = [] then some (.tuple [.bool false, .nils, .int .i64 4], []) else if 256 < s.length then some (.tuple [.bool false, .nils, .int .i64 7], [])
      else if (partsF s.length s).all nameOk then some (.tuple [.bool (s.head? == some 47), .own 0 (partsF s.length s).length 0 (partsF s.length s).length, .int .i64 0], [.dat true 1 ((partsF s.length s).map V.str)])
      else some (.tuple [.bool false, .nils, .int .i64 4], [])
  | _ => none

theorem indexByte_find (c : UInt8) : ∀ s : List UInt8, Lib.indexByte s c = match findB c s with | some n => (n : Int) | none => -1
  | [] => rfl
  | b :: l => by
    have ih := indexByte_find c l
    simp only [Lib.indexByte, findB, ih]
    by_cases h : b = c
    · simp [h]
    · simp only [if_neg h, beq_iff_eq]
      cases findB c l with
      | none => simp
      | some n => simp [show ¬ ((n : Int) = -1) by omega]

section
variable {P : Program}

theorem compare_contract {f : FuncId} (h : ∀ (a b : ByteArray) (w : World), Calls P f #[.string a, .string b] w fun e w' => e = .returned (.int .i64 (Lib.compareBytes a.data.toList b.data.toList)) ∧ w' = w)
    (xs : List V) (r : V) (H' : Heap) (hx : compareX xs = some (r, H')) : Contract P f xs r H' := fun base Z w cargs I ha => by
  unfold compareX at hx
  split at hx
  case h_2 => cases hx
  rename_i a b
  cases hx
  obtain ⟨c1, c2, rfl, h1, h2⟩ := len_two ha rfl
  cases h1
  cases h2
  refine Calls.mono (h _ _ w) fun e w' ⟨he, hw⟩ => ⟨_, he, ?_⟩
  subst hw
  exact turns_below I (.refl _ _) (.int _ _)

theorem indexByte_contract {f : FuncId} (h : ∀ (s : ByteArray) (c : Int) (w : World), Calls P f #[.string s, .int .u8 c] w fun e w' => e = .returned (.int .i64 (Lib.indexByte s.data.toList c.toNat.toUInt8)) ∧ w' = w)
    (xs : List V) (r : V) (H' : Heap) (hx : indexByteX xs = some (r, H')) : Contract P f xs r H' := fun base Z w cargs I ha => by
  unfold indexByteX at hx
  split at hx
  case h_2 => cases hx
  rename_i s c
  cases hx
  obtain ⟨c1, c2, rfl, h1, h2⟩ := len_two ha rfl
  cases h1
  cases h2
  refine Calls.mono (h _ _ w) fun e w' ⟨he, hw⟩ => ⟨_, he, ?_⟩
  subst hw
  refine turns_below I (.refl _ _) ?_
  rw [indexByte_find]
  exact .int _ _

end

end Go.Abs

