/- Proved here: part 5 of a sound evaluator for the model: what it computes of a call, the call does. No condition. -/
import Derived.Test.YtbnnaaadblpgiaaA4
namespace Go.Abs
open Go.RowKit
set_option linter.unusedVariables false
set_option linter.unusedSimpArgs false

variable {P : Program}

theorem indexOf_spec {b : Nat} : ∀ {K : List Nat} {i c : Nat}, indexOf b K i = some c → i ≤ c ∧ K[c - i]? = some b
  | [], i, c, h => by simp [indexOf] at h
  | k :: K, i, c, h => by
    simp only [indexOf] at h
    split at h
    · rename_i hb
      cases h
      simp [hb]
    · obtain ⟨h1, h2⟩ := indexOf_spec h
      refine ⟨by omega, ?_⟩
      have : c - i = (c - (i + 1)) + 1 := by omega
      rw [this]
      simpa using h2

theorem blocksOf_spec {H : Heap} : ∀ {K : List Nat} {r : Heap}, blocksOf H K = some r → r.length = K.length ∧ ∀ (i c : Nat), K[i]? = some c → r[i]? = H[c]?
  | [], r, h => by simp [blocksOf] at h; subst h; simp
  | k :: K, r, h => by
    simp only [blocksOf] at h
    cases hk : H[k]? with
    | none => simp [hk] at h
    | some x =>
      cases hr : blocksOf H K with
      | none => simp [hk, hr] at h
      | some r' =>
        simp [hk, hr] at h
        subst h
        obtain ⟨h1, h2⟩ := blocksOf_spec hr
        refine ⟨by simp [h1], fun i c hc => ?_⟩
        cases i with
        | zero => simp at hc; subst hc; simp [hk]
        | succ i => simpa using h2 i c (by simpa using hc)

theorem nodup_spec : ∀ {K : List Nat}, nodup K = true → ∀ (i j c : Nat), K[i]? = some c → K[j]? = some c → i = j
  | [], _, i, j, c, h, _ => by simp at h
  | k :: K, hn, i, j, c, hi, hj => by
    simp only [nodup, Bool.and_eq_true, Bool.not_eq_true'] at hn
    obtain ⟨h1, h2⟩ := hn
    have hnot : k ∉ K := by simpa using h1
    cases i with
    | zero =>
      cases j with
      | zero => rfl
      | succ j =>
        simp at hi hj
        subst hi
        exact absurd (List.mem_of_getElem? hj) hnot
    | succ i =>
      cases j with
      | zero =>
        simp at hi hj
        subst hj
        exact absurd (List.mem_of_getElem? hi) hnot
      | succ j =>
        have := nodup_spec h2 i j c (by simpa using hi) (by simpa using hj)
        omega

/-- Where a block was, before it was renamed. -/
def orig (h0 : Nat) (K : List Nat) (b : Nat) : Option Nat := if b < h0 then some b else K[b - h0]?

theorem moved_eq (h0 : Nat) (K : List Nat) (φ : Place) (b : Nat) : moved h0 K φ b = match orig h0 K b with | some c => φ c | none => .unborn := by
  unfold moved orig
  split
  · rfl
  · rfl

theorem renB_wr {ρ : Nat → Option Nat} {x : Blk} : (renB ρ x).wr = x.wr := by cases x <;> rfl

theorem BlkRel.ren {φ φ' : Place} {W W' : Nat → Prop} {w : World} {ρ : Nat → Option Nat} (hρ : ∀ b c, ρ b = some c → φ b ≠ .unborn → φ' c = φ b) (hW : ∀ c, W' c → W c) {x : Blk} {c s n : Nat} (h : BlkRel φ W w x c s n) : BlkRel φ' W' w (renB ρ x) c s n := by
  cases x with
  | dat wr sz es => exact ⟨h.1, h.2.1, h.2.2.mono (h0 := 0) (Ext.frz hW) (fun _ h => absurd rfl h) rfl⟩
  | map wr ks vs => exact ⟨h.1, h.2.mono (h0 := 0) (φ := pure0) (φ' := pure0) (Ext.frz hW) rfl⟩
  | dead => exact trivial
  | arr t sz es =>
    refine ⟨by rw [renL_length]; exact h.1, h.2.1, ?_, h.2.2.2⟩
    obtain ⟨h0, cs, t, fr, h1, h2, h3, h4⟩ := h.2.2.1
    refine ⟨h0, cs, t, fr, h1, by rw [renL_length]; exact h2, h3, fun i e' he => ?_⟩
    rw [renL_at, Option.map_eq_some_iff] at he
    obtain ⟨e, he, rfl⟩ := he
    obtain ⟨p1, p2⟩ := h4 i e he
    rw [ren_cells]
    refine ⟨by simpa using p1, fun j x hx => ?_⟩
    rw [List.getElem?_map, Option.map_eq_some_iff] at hx
    obtain ⟨x0, hx0, rfl⟩ := hx
    obtain ⟨v, q1, q2, q3⟩ := p2 j x0 hx0
    exact ⟨v, q1, q2, q3.ren hρ hW⟩
  | box e =>
    refine ⟨h.1, ?_⟩
    obtain ⟨h0, cs, t, fr, h1, h2, h3, h4⟩ := h.2
    refine ⟨h0, cs, t, fr, h1, by simpa using h2, h3, fun i e' he => ?_⟩
    cases i with
    | succ i => simp at he
    | zero =>
      simp at he
      subst he
      obtain ⟨p1, p2⟩ := h4 0 e rfl
      rw [ren_cells]
      refine ⟨by simpa using p1, fun j x hx => ?_⟩
      rw [List.getElem?_map, Option.map_eq_some_iff] at hx
      obtain ⟨x0, hx0, rfl⟩ := hx
      obtain ⟨v, q1, q2, q3⟩ := p2 j x0 hx0
      exact ⟨v, q1, q2, q3.ren hρ hW⟩

section
variable {base h0 : Nat} {Z : Nat → Prop} {φ : Place} {H H' : Heap} {w : World} {K : List Nat}

structure Packed (base h0 : Nat) (Z : Nat → Prop) (φ : Place) (H H' : Heap) (w : World) (K : List Nat) : Prop where
  inv : Inv base Z (moved h0 K φ) H' w
  rel : ∀ x v, VRel φ (Wr φ H Z) w x v → VRel (moved h0 K φ) (Wr (moved h0 K φ) H' Z) w (ren (toK h0 K) x) v
  step : Step base h0 φ (Wr φ H Z) w (moved h0 K φ) (Wr (moved h0 K φ) H' Z) w
  len : h0 ≤ H'.length

theorem pack_ok (I : Inv base Z φ H w) (hh : h0 ≤ H.length) (h : pack h0 K H = some H') : Packed base h0 Z φ H H' w K := by
  unfold pack at h
  split at h
  case isFalse => cases h
  rename_i hc
  simp only [Bool.and_eq_true, List.all_eq_true, decide_eq_true_eq] at hc
  obtain ⟨hn, hall⟩ := hc
  cases hr : blocksOf H K with
  | none => rw [hr] at h; cases h
  | some r =>
    rw [hr] at h
    simp only at h
    cases h
    obtain ⟨r1, r2⟩ := blocksOf_spec hr
    have hlen : ((H.take h0 ++ r).map (renB (toK h0 K))).length = h0 + K.length := by simp [r1]; omega
    have horg : ∀ b, ((H.take h0 ++ r).map (renB (toK h0 K)))[b]? = ((orig h0 K b).bind (H[·]?)).map (renB (toK h0 K)) := fun b => by
      rw [List.getElem?_map]
      congr 1
      unfold orig
      split
      · rename_i hb
        rw [List.getElem?_append_left (by simp; omega), List.getElem?_take, if_pos hb]
        rfl
      · rename_i hb
        rw [List.getElem?_append_right (by simp; omega)]
        have : b - (H.take h0).length = b - h0 := by simp; omega
        rw [this]
        cases hk : K[b - h0]? with
        | none => simp; have := List.getElem?_eq_none_iff.1 hk; omega
        | some c => exact r2 _ c hk
    have hinj : ∀ b b' c, orig h0 K b = some c → orig h0 K b' = some c → b = b' := fun b b' c h1 h2 => by
      unfold orig at h1 h2
      split at h1
      · cases h1
        split at h2
        · cases h2; rfl
        · have := hall _ (List.mem_of_getElem? h2); omega
      · split at h2
        · cases h2
          have := hall _ (List.mem_of_getElem? h1); omega
        · have := nodup_spec hn _ _ _ h1 h2
          omega
    have hρ : ∀ b c, toK h0 K b = some c → φ b ≠ .unborn → moved h0 K φ c = φ b := fun b c hb _ => by
      unfold toK at hb
      split at hb
      · rename_i hlt
        cases hb
        simp [moved, hlt]
      · obtain ⟨h1, h2⟩ := indexOf_spec hb
        unfold moved
        rw [if_neg (by omega), h2]
    have hborn : ∀ b l, moved h0 K φ b = l → l ≠ .unborn → ∃ c, orig h0 K b = some c ∧ φ c = l := fun b l hb hl => by
      rw [moved_eq] at hb
      cases ho : orig h0 K b with
      | none => rw [ho] at hb; exact absurd hb.symm hl
      | some c => rw [ho] at hb; exact ⟨c, rfl, hb⟩
    have hW : ∀ c, Wr (moved h0 K φ) ((H.take h0 ++ r).map (renB (toK h0 K))) Z c → Wr φ H Z c := fun c hc => by
      rcases hc with hc | ⟨b, s, n, x, p1, p2, p3⟩
      · exact .inl hc
      · obtain ⟨o, q1, q2⟩ := hborn b _ p1 (by simp)
        rw [horg, q1] at p2
        simp only [Option.bind_some, Option.map_eq_some_iff] at p2
        obtain ⟨x0, e1, e2⟩ := p2
        exact .inr ⟨o, s, n, x0, q2, e1, by rw [← e2, renB_wr] at p3; exact p3⟩
    have hblk : ∀ b o x, orig h0 K b = some o → H[o]? = some x → ((H.take h0 ++ r).map (renB (toK h0 K)))[b]? = some (renB (toK h0 K) x) := fun b o x h1 h2 => by
      rw [horg, h1]; simp [h2]
    refine ⟨⟨I.hz, I.hb, fun b hb => ?_, fun b b' c s n s' n' h1 h2 => ?_, fun b c s n hb => ?_, fun b c s n hb => ?_, fun b hb => ?_⟩, fun x v hx => hx.ren hρ hW, ⟨⟨fun b hb hu => ?_, fun c _ hc => hW c hc, fun _ _ _ => rfl, fun _ _ h => h, Nat.le_refl _⟩, .refl ..⟩, by rw [hlen]; omega⟩
    · rw [hlen] at hb
      unfold moved
      rw [if_neg (by omega), List.getElem?_eq_none (by omega)]
    · obtain ⟨o, q1, q2⟩ := hborn b _ h1 (by simp)
      obtain ⟨o', q1', q2'⟩ := hborn b' _ h2 (by simp)
      have := I.inj _ _ _ _ _ _ _ q2 q2'
      subst this
      exact hinj _ _ _ q1 q1'
    · obtain ⟨o, q1, q2⟩ := hborn b _ hb (by simp)
      exact I.rng _ _ _ _ q2
    · obtain ⟨o, q1, q2⟩ := hborn b _ hb (by simp)
      obtain ⟨x, hx, hrel⟩ := I.blk _ _ _ _ q2
      exact ⟨_, hblk b o x q1 hx, hrel.ren hρ hW⟩
    · obtain ⟨o, q1, q2⟩ := hborn b _ hb (by simp)
      rcases I.nil _ q2 with ⟨wr, s, hx, hs⟩ | ⟨t, s, hx, hs⟩
      · exact .inl ⟨wr, s, hblk b o _ q1 hx, hs⟩
      · exact .inr ⟨t, s, hblk b o _ q1 hx, hs⟩
    · have : moved h0 K φ b = φ b := by simp [moved, hb]
      rw [this]
      exact .refl hu

/-- A loop's head. -/
theorem atHead_ok {n : Nat} {ks : List Nat} {env env' : Env} {a : Act} (S : St n base Z φ env H a w) (hh : h0 ≤ H.length) (h : atHead h0 ks env H = some (env', H')) :
    ∃ φ', St n base Z φ' env' H' a w ∧ Step base h0 φ (Wr φ H Z) w φ' (Wr φ' H' Z) w ∧ h0 ≤ H'.length := by
  unfold atHead at h
  simp only at h
  split at h
  · rename_i H2 hp
    cases h
    have hk := pack_ok S.inv hh hp
    refine ⟨_, ⟨hk.inv, fun t => ?_, S.size, S.defers⟩, hk.step, hk.len⟩
    have : ∀ (l : List Nat), Env.get (l.map fun i => (i, ren (toK h0 (above h0 (reach H (H.length * (H.length + 1) + 100) (refsH (H.take h0) ++ refsOf env ks) []))) (env.get i))) t = .undef ∨
        Env.get (l.map fun i => (i, ren (toK h0 (above h0 (reach H (H.length * (H.length + 1) + 100) (refsH (H.take h0) ++ refsOf env ks) []))) (env.get i))) t = ren (toK h0 (above h0 (reach H (H.length * (H.length + 1) + 100) (refsH (H.take h0) ++ refsOf env ks) []))) (env.get t) := fun l => by
      induction l with
      | nil => exact .inl rfl
      | cons i l ih =>
        simp only [List.map_cons, Env.get]
        by_cases hi : t = i
        · rw [if_pos hi, hi]; exact .inr rfl
        · rw [if_neg hi]; exact ih
    rcases this ks with h | h
    · rw [h]; exact .undef _
    · rw [h]; exact hk.rel _ _ (S.rel t)
  · cases h

end

end Go.Abs

namespace Go.Abs
open Go.RowKit
set_option linter.unusedVariables false
set_option linter.unusedSimpArgs false

variable {P : Program}

theorem hasRoL_at : ∀ {cs : List V} {i : Nat} {c : V}, hasRoL cs = false → cs[i]? = some c → hasRo c = false
  | [], i, c, _, hc => by simp at hc
  | d :: cs, i, c, h, hc => by
    simp only [hasRoL, Bool.or_eq_false_iff] at h
    cases i with
    | zero => simp at hc; rw [← hc]; exact h.1
    | succ i => exact hasRoL_at h.2 (by simpa using hc)

theorem hasRo_cell {e : V} (h : hasRo e = false) {j : Nat} {c : V} (hc : e.cells[j]? = some c) : hasRo c = false := by
  by_cases ha : ∃ cs, e = .agg cs
  · obtain ⟨cs, rfl⟩ := ha
    exact hasRoL_at (cs := cs) (by simpa only [hasRo] using h) hc
  · rw [single_cell (fun cs he => ha ⟨cs, he⟩) hc]; exact h

/-- What leads to no memory that was there is related whatever may be written. -/
theorem VRel.noRo {φ : Place} {W W' : Nat → Prop} {w : World} {x : V} {v : Value} (h : VRel φ W w x v) (hn : hasRo x = false) : VRel φ W' w x v := by
  induction h with
  | undef v => exact .undef v
  | bool b => exact .bool b
  | int k n => exact .int k n
  | str s => exact .str s
  | nils => exact .nils
  | nilm => exact .nilm
  | nilx k v h => exact .nilx k v h
  | agg cs vs hl h1 _ ih => exact .agg cs vs hl h1 fun i c v hc hv => ih i c v hc hv (hasRoL_at (by simpa only [hasRo] using hn) hc)
  | tuple cs vs hl _ ih => exact .tuple cs vs hl fun i c v hc hv => ih i c v hc hv (hasRoL_at (by simpa only [hasRo] using hn) hc)
  | fn f cs vs hl _ ih => exact .fn f cs vs hl fun i c v hc hv => ih i c v hc hv (hasRoL_at (by simpa only [hasRo] using hn) hc)
  | sl es a cap s vals hcap h0' hp hs hWa hc hv ih =>
    have : es = [] := by
      cases es with
      | nil => rfl
      | cons e es => simp [hasRo] at hn
    subst this
    exact .sl [] a cap s vals hcap h0' hp hs (fun h => absurd rfl h) hc (by simp)
  | slnil => exact .slnil
  | own b tot off len v hv h0' h1 h2 h3 => exact .own b tot off len v hv h0' h1 h2 h3
  | ptr b tot i off v hv h1 h2 h3 => exact .ptr b tot i off v hv h1 h2 h3
  | rop e a vals h0' hWa hc hv ih => simp [hasRo] at hn
  | mapr ks vs r es clock hWr hh h1 h2 hp hq hk hv ihk ihv => simp [hasRo] at hn
  | mapn => simp [hasRo] at hn
  | map b v hv h1 h3 => exact .map b v hv h1 h3

theorem Row.noRo {φ : Place} {W W' : Nat → Prop} {w : World} {c s : Nat} {es : List V} (h : Row φ W w c s es) (hn : hasRoL es = false) : Row φ W' w c s es := by
  obtain ⟨h0, cs, t, fr, h1, h2, h3, h4⟩ := h
  refine ⟨h0, cs, t, fr, h1, h2, h3, fun i e he => ⟨(h4 i e he).1, fun j x hx => ?_⟩⟩
  obtain ⟨v, p1, p2, p3⟩ := (h4 i e he).2 j x hx
  exact ⟨v, p1, p2, p3.noRo (hasRo_cell (hasRoL_at hn he) hx)⟩

theorem BlkRel.noRo {φ : Place} {W W' : Nat → Prop} {w : World} {x : Blk} {c s n : Nat} (h : BlkRel φ W w x c s n) (hn : hasRoB x = false) : BlkRel φ W' w x c s n := by
  cases x with
  | dat wr sz es => exact ⟨h.1, h.2.1, h.2.2.noRo (by simpa only [hasRoB] using hn)⟩
  | box e => exact ⟨h.1, h.2.noRo (by simpa [hasRoB, hasRoL] using hn)⟩
  | arr t sz es => exact ⟨h.1, h.2.1, h.2.2.1.noRo (by simpa only [hasRoB] using hn), h.2.2.2⟩
  | dead => exact trivial
  | map wr ks vs =>
    simp only [hasRoB, Bool.or_eq_false_iff] at hn
    obtain ⟨es, clock, h1, h2, h3, h4, h5⟩ := h.2
    exact ⟨h.1, es, clock, h1, h2, h3, fun i k x a b => (h4 i k x a b).noRo (hasRoL_at hn.1 a), fun i k x a b => (h5 i k x a b).noRo (hasRoL_at hn.2 a)⟩

section
variable {base : Nat} {Z : Nat → Prop} {φ φc : Place} {H HF H' : Heap} {w w' : World} {r : V} {v : Value}

def inPlace (φ φc : Place) (lo n : Nat) : Place := fun b => if lo ≤ b ∧ b < lo + n then φc (b - lo) else φ b

/-- What a call left that knew nothing of the blocks here, set among them. -/
theorem adopt {Hs : Heap} (I : Inv base Z φ HF w) (hlen : Hs.length = H.length) (hle : Le (Hs ++ H'.map (renB (shift H.length))) HF) (hu : ∀ b, H.length ≤ b → b < H.length + H'.length → φ b = .unborn)
    (Ic : ∀ b c s n, φc b = .at c s n → ∃ x, H'[b]? = some x ∧ BlkRel φc (Wr φc H' (Wr φ HF Z)) w' x c s n) (Inil : ∀ b, φc b = .nil → (∃ wr s, H'[b]? = some (.dat wr s []) ∧ 0 < s) ∨ ∃ t s, H'[b]? = some (.arr t s []) ∧ 0 < s)
    (Iinj : ∀ b b' c s n s' n', φc b = .at c s n → φc b' = .at c s' n' → b = b') (Irng : ∀ b c s n, φc b = .at c s n → w.heap.size ≤ c ∧ c < w'.heap.size) (Iborn : ∀ b, H'.length ≤ b → φc b = .unborn)
    (hr : VRel φc (Wr φc H' (Wr φ HF Z)) w' r v) (hb : Below w.heap.size w w') (hs : ∀ c x, w.shape? c = some x → w'.shape? c = some x) :
    POK base Z φ HF w H.length (H.length + H'.length) (ren (shift H.length) r) v (inPlace φ φc H.length H'.length) w' := by
  have old : ∀ b, ¬ (H.length ≤ b ∧ b < H.length + H'.length) → inPlace φ φc H.length H'.length b = φ b := fun b h => by unfold inPlace; rw [if_neg h]
  have new : ∀ i, i < H'.length → inPlace φ φc H.length H'.length (i + H.length) = φc i := fun i hi => by
    unfold inPlace
    rw [if_pos (by omega)]; congr 1; omega
  have hblk : ∀ i x, H'[i]? = some x → ∃ y, HF[i + H.length]? = some y ∧ (renB (shift H.length) x).le y := fun i x hx => hle.2 _ _ (by
    rw [List.getElem?_append_right (by omega), List.getElem?_map]
    have : i + H.length - Hs.length = i := by omega
    rw [this, hx]
    rfl)
  have cases_ : ∀ b l, inPlace φ φc H.length H'.length b = l → l ≠ .unborn → φ b = l ∧ ¬ (H.length ≤ b ∧ b < H.length + H'.length) ∨ ∃ i, b = i + H.length ∧ φc i = l := fun b l h hl => by
    by_cases hc : H.length ≤ b ∧ b < H.length + H'.length
    · right
      refine ⟨b - H.length, by omega, ?_⟩
      unfold inPlace at h
      rw [if_pos hc] at h
      exact h
    · left
      rw [old b hc] at h
      exact ⟨h, hc⟩
  have hW : ∀ c, Wr (inPlace φ φc H.length H'.length) HF Z c → Wr φ HF Z c ∨ ∃ i s n x, φc i = .at c s n ∧ H'[i]? = some x ∧ x.wr = true := fun c hc => by
    rcases hc with hc | ⟨b, s, n, x, p1, p2, p3⟩
    · exact .inl (.inl hc)
    · rcases cases_ b _ p1 (by simp) with ⟨q1, _⟩ | ⟨i, rfl, q1⟩
      · exact .inl (.inr ⟨b, s, n, x, q1, p2, p3⟩)
      · obtain ⟨x0, e1, _⟩ := Ic i _ _ _ q1
        obtain ⟨y, e2, e3⟩ := hblk i x0 e1
        rw [p2] at e2
        cases e2
        have := Blk.le_wr e3 p3
        rw [renB_wr] at this
        exact .inr ⟨i, s, n, x0, q1, e1, this⟩
  have hW' : ∀ c, Wr (inPlace φ φc H.length H'.length) HF Z c → Wr φc H' (Wr φ HF Z) c := fun c hc => (hW c hc).elim .inl fun ⟨i, s, n, x, p1, p2, p3⟩ => .inr ⟨i, s, n, x, p1, p2, p3⟩
  have hρ : ∀ b c, shift H.length b = some c → φc b ≠ .unborn → inPlace φ φc H.length H'.length c = φc b := fun b c h hne => by
    simp only [shift, Option.some.injEq] at h
    rw [← h, new]
    rcases Nat.lt_or_ge b H'.length with h1 | h1
    · exact h1
    · exact absurd (Iborn b h1) hne
  have hsize : w.heap.size ≤ w'.heap.size := hb.size
  have ext : ∀ h0, Ext h0 φ (Wr φ HF Z) w (inPlace φ φc H.length H'.length) (Wr (inPlace φ φc H.length H'.length) HF Z) w' := fun h0 => by
    refine ⟨fun b _ hu' => ?_, fun c hc hw => ?_, fun c hc _ => hb.block c hc, hs, hsize⟩
    · rw [old b (fun h => hu' (hu b h.1 h.2))]
      exact .refl hu'
    · rcases hW c hw with h | ⟨i, s, n, x, p1, p2, p3⟩
      · exact h
      · have := (Irng i _ _ _ p1).1; omega
  refine ⟨⟨I.hz, Nat.le_trans I.hb hsize, fun b hb' => ?_, fun b b' c s n s' n' h1 h2 => ?_, fun b c s n h1 => ?_, fun b c s n h1 => ?_, fun b h1 => ?_⟩, hr.ren hρ hW', fun h0 => ⟨ext h0, hb.mono I.hb⟩, fun b hb' => old b (by omega)⟩
  · rw [old b (by have := hle.1; simp [hlen] at this; omega)]
    exact I.born b hb'
  · rcases cases_ b _ h1 (by simp) with ⟨q1, _⟩ | ⟨i, rfl, q1⟩ <;> rcases cases_ b' _ h2 (by simp) with ⟨q2, _⟩ | ⟨i', rfl, q2⟩
    · exact I.inj _ _ _ _ _ _ _ q1 q2
    · have := (I.rng _ _ _ _ q1).2
      have := (Irng _ _ _ _ q2).1
      omega
    · have := (I.rng _ _ _ _ q2).2
      have := (Irng _ _ _ _ q1).1
      omega
    · rw [Iinj _ _ _ _ _ _ _ q1 q2]
  · rcases cases_ b _ h1 (by simp) with ⟨q1, _⟩ | ⟨i, rfl, q1⟩
    · have := I.rng _ _ _ _ q1
      exact ⟨this.1, by omega⟩
    · have := Irng _ _ _ _ q1
      exact ⟨Nat.le_trans I.hb this.1, this.2⟩
  · rcases cases_ b _ h1 (by simp) with ⟨q1, _⟩ | ⟨i, rfl, q1⟩
    · obtain ⟨x, hx, hrel⟩ := I.blk _ _ _ _ q1
      exact ⟨x, hx, hrel.mono (ext HF.length) (fun _ => I.lt) (hb.block c (I.rng _ _ _ _ q1).2)⟩
    · obtain ⟨x, hx, hrel⟩ := Ic _ _ _ _ q1
      obtain ⟨y, hy, hly⟩ := hblk i x hx
      exact ⟨y, hy, (hrel.ren hρ hW').le hly⟩
  · rcases cases_ b _ h1 (by simp) with ⟨q1, _⟩ | ⟨i, rfl, q1⟩
    · exact I.nil b q1
    · rcases Inil _ q1 with ⟨wr, s, hx, hs0⟩ | ⟨wr, s, hx, hs0⟩
      · obtain ⟨y, hy, hly⟩ := hblk i _ hx
        cases y <;> simp only [renB, Blk.le] at hly
        obtain ⟨rfl, rfl, _⟩ := hly
        exact .inl ⟨_, _, hy, hs0⟩
      · obtain ⟨y, hy, hly⟩ := hblk i _ hx
        cases y <;> simp only [renB, renL, Blk.le] at hly
        obtain ⟨rfl, rfl, rfl⟩ := hly
        exact .inr ⟨_, _, hy, hs0⟩

end

end Go.Abs

namespace Go.Abs
open Go.RowKit
set_option linter.unusedVariables false
set_option linter.unusedSimpArgs false

variable {P : Program}

def FnOk (P : Program) (f : FuncId) : Prop := ∃ fn, P.funcs[f]? = some fn ∧ fn.name ≠ "runtime.NumGoroutine" ∧ fn.body ≠ none

/-- What a call over nothing of the caller's own must leave. -/
def Contract (P : Program) (f : FuncId) (asx : List V) (r : V) (H' : Heap) : Prop :=
  ∀ base Z w cargs, Inv base Z pure0 [] w → ArgsRel pure0 (Wr pure0 [] Z) w asx cargs → Calls P f cargs w (fun e w' => ∃ v, e = .returned v ∧ Turns base Z pure0 [] w H' r v w')

theorem inv_empty {Z : Nat → Prop} {w : World} (hz : ∀ c, Z c → c < w.heap.size) : Inv w.heap.size Z pure0 [] w :=
  { hz := hz
    hb := Nat.le_refl _
    born := fun _ _ => rfl
    inj := fun b b' c s n s' n' h _ => Loc.noConfusion h
    rng := fun b c s n h => Loc.noConfusion h
    blk := fun b c s n h => Loc.noConfusion h
    nil := fun b h => Loc.noConfusion h }

theorem ArgsRel.append {φ : Place} {W : Nat → Prop} {w : World} {xs ys : List V} {cx cy : Array Value} (h : ArgsRel φ W w xs cx) (k : ArgsRel φ W w ys cy) : ArgsRel φ W w (xs ++ ys) (cx ++ cy) := by
  refine ⟨by simp [h.1, k.1], fun i x c hx hc => ?_⟩
  rcases Nat.lt_or_ge i xs.length with hi | hi
  · rw [List.getElem?_append_left hi] at hx
    rw [Array.getElem?_append_left (by rw [← h.1]; exact hi)] at hc
    exact h.2 i x c hx hc
  · rw [List.getElem?_append_right hi] at hx
    rw [Array.getElem?_append_right (by rw [← h.1]; exact hi), ← h.1] at hc
    exact k.2 _ x c hx hc

theorem fn_rel {φ : Place} {W : Nat → Prop} {w : World} {f : Nat} {cs : List V} {cf : Value} (h : VRel φ W w (.fn f cs) cf) : ∃ vs, cf = .func (.func f) #[] vs ∧ ArgsRel φ W w cs vs := by
  cases h
  exact ⟨_, rfl, ‹_›, ‹_›⟩

section
variable {base : Nat} {Z : Nat → Prop} {φ : Place} {H HF H' : Heap} {w : World}

theorem pure_call {f : FuncId} {xs cs asx : List V} {bs : List Nat} {r : V} (hf : FnOk P f) (hs : sealL H (xs ++ cs) = some (asx, bs)) (hc : Contract P f asx r H') :
    Le H ((if hasRo r || H'.any hasRoB then freeze H bs else H) ++ H'.map (renB (shift H.length))) ∧
    ∀ base Z φ HF w cf cxs, Inv base Z φ HF w → VRel φ (Wr φ HF Z) w (.fn f cs) cf → ArgsRel φ (Wr φ HF Z) w xs cxs → Le ((if hasRo r || H'.any hasRoB then freeze H bs else H) ++ H'.map (renB (shift H.length))) HF →
      (∀ b, H.length ≤ b → b < ((if hasRo r || H'.any hasRoB then freeze H bs else H) ++ H'.map (renB (shift H.length))).length → φ b = .unborn) →
      Enters P cf cxs w (Leaves base Z φ HF w H.length ((if hasRo r || H'.any hasRoB then freeze H bs else H) ++ H'.map (renB (shift H.length))).length (ren (shift H.length) r)) := by
  have hlen : (if hasRo r || H'.any hasRoB then freeze H bs else H).length = H.length := by split <;> simp [freeze_length]
  have hle0 : Le H (if hasRo r || H'.any hasRoB then freeze H bs else H) := by split; exact freeze_le .. ; exact .refl _
  refine ⟨hle0.trans (.append ..), fun base Z φ HF w cf cxs I hcf hxs hle hu => ?_⟩
  obtain ⟨fn, hf1, hf2, hf3⟩ := hf
  obtain ⟨vs, rfl, hvs⟩ := fn_rel hcf
  have hall := hxs.append hvs
  obtain ⟨hsl, hsa⟩ := sealL_at hs
  have hlenO : ((if hasRo r || H'.any hasRoB then freeze H bs else H) ++ H'.map (renB (shift H.length))).length = H.length + H'.length := by rw [List.length_append, hlen, List.length_map]
  refine ⟨f, vs, fn, rfl, hf1, hf2, hf3, ?_⟩
  have hcell : ∀ b c s n, φ b = .at c s n → c < w.heap.size := fun b c s n h => (I.rng b c s n h).2
  have hwr : ∀ c, Wr φ HF Z c → c < w.heap.size := fun c h => by
    rcases h with h | ⟨b, s, n, x, h1, _, _⟩
    · exact Nat.lt_of_lt_of_le (I.hz c h) I.hb
    · exact hcell _ _ _ _ h1
  have fin : ∀ (Z' : Nat → Prop), (Z' = Wr φ HF Z ∨ ((hasRo r || H'.any hasRoB) = false ∧ Z' = fun _ => False)) → ArgsRel pure0 Z' w asx (cxs ++ vs) →
      Calls P f (cxs ++ vs) w (fun e w' => ∃ v, e = .returned v ∧ Leaves base Z φ HF w H.length ((if hasRo r || H'.any hasRoB then freeze H bs else H) ++ H'.map (renB (shift H.length))).length (ren (shift H.length) r) v w') := fun Z' hZ hargs => by
    have I' : Inv w.heap.size Z' pure0 [] w := inv_empty fun c h => by
      rcases hZ with rfl | ⟨_, rfl⟩
      · exact hwr c h
      · exact h.elim
    have hfz : ∀ c, Wr pure0 [] Z' c → Z' c := fun c h => by
      rcases h with h | ⟨b, s, n, x, h1, _⟩
      · exact h
      · cases h1
    refine Calls.mono (hc w.heap.size Z' w _ I' ⟨hargs.1, fun i x c a b => (hargs.2 i x c a b).mono (h0 := 0) (Ext.frz (w := w) fun c h => hfz c h) (fun _ h => absurd rfl h)⟩) fun e w' hR => ?_
    · obtain ⟨v, he, φc, ht⟩ := hR
      refine ⟨v, he, inPlace φ φc H.length H'.length, ?_⟩
      rw [hlenO]
      refine adopt (Hs := if hasRo r || H'.any hasRoB then freeze H bs else H) (φc := φc) I hlen hle (fun b h1 h2 => hu b h1 (by rw [hlenO]; exact h2)) (fun b c s n hb => ?_) ht.inv.nil ht.inv.inj ht.inv.rng ht.inv.born ?_ ht.step.below ht.step.ext.shape
      · obtain ⟨x, hx, hrel⟩ := ht.inv.blk b c s n hb
        refine ⟨x, hx, ?_⟩
        rcases hZ with rfl | ⟨hro, rfl⟩
        · exact hrel
        · simp only [Bool.or_eq_false_iff, List.any_eq_false] at hro
          exact hrel.noRo (by simpa using hro.2 x (List.mem_of_getElem? hx))
      · rcases hZ with rfl | ⟨hro, rfl⟩
        · exact ht.rel
        · simp only [Bool.or_eq_false_iff] at hro
          exact ht.rel.noRo hro.1
  have argsOf : ∀ (Z' : Nat → Prop), (∀ x c x' b', x ∈ xs ++ cs → VRel φ (Wr φ HF Z) w x c → sealV H x = some (x', b') → (∀ b ∈ b', b ∈ bs) → VRel pure0 Z' w x' c) → ArgsRel pure0 Z' w asx (cxs ++ vs) := fun Z' hz => by
    refine ⟨by rw [hsl]; exact hall.1, fun i x c hx hcx => ?_⟩
    have hil : i < (xs ++ cs).length := by rw [← hsl]; exact (List.getElem?_eq_some_iff.1 hx).1
    have hxi := List.getElem?_eq_getElem hil
    obtain ⟨x', b', h1, h2, h3⟩ := hsa i _ hxi
    rw [hx] at h2
    cases h2
    exact hz _ c x b' (List.mem_of_getElem? hxi) (hall.2 i _ c hxi hcx) h1 h3
  by_cases hro : (hasRo r || H'.any hasRoB) = true
  · rw [if_pos hro] at hle
    exact fin _ (.inl rfl) (argsOf _ fun x c x' b' _ hx h1 h3 => seal_in I ((Le.append _ _).trans hle) h3 (sealL_notBox hs) hx h1)
  · have hro' : (hasRo r || H'.any hasRoB) = false := by simpa using hro
    rw [if_neg hro] at hle
    exact fin _ (.inr ⟨hro', rfl⟩) (argsOf _ fun x c x' b' _ hx h1 h3 => seal_ok I ((Le.append _ _).trans hle) (W' := fun _ => False) (fun _ h => h.elim) hx x' b' h1 fun _ _ _ _ _ _ h => h)

end

end Go.Abs

namespace Go.Abs
open Go.RowKit
set_option linter.unusedVariables false
set_option linter.unusedSimpArgs false

section loop
variable {P : Program} {Q : Exit → Act → World → Prop} {a : Act} {w : World}

/-- A loop whose rounds are counted down by something that the state need not show. -/
theorem wp_loopJ {c : Code} (J : Nat → Act → World → Prop) (round : ∀ n a w, J n a w → c.wp P (Exit.then (fun a' w' => ∃ m, m < n ∧ J m a' w') Q) a w) {n : Nat} (h₀ : J n a w) : (Code.loop c).wp P Q a w := by
  intro b k cs
  have key : ∀ n a w, J n a w →
      ∃ e a' w', Q e a' w' ∧ Arrives P (lone (b.at a (.code c :: .inLoop c :: k)) cs w) b k cs e a' w' := by
    intro n
    induction n using Nat.strongRecOn with
    | _ n ih =>
      intro a w hJ
      obtain ⟨e, a₁, w₁, hq, harr⟩ := round n a w hJ b (.inLoop c :: k) cs
      cases e with
      | normal =>
        obtain ⟨m, hlt, hJ₁⟩ := hq
        obtain ⟨e₂, a₂, w₂, hq₂, harr₂⟩ := ih m hlt a₁ w₁ hJ₁
        exact ⟨e₂, a₂, w₂, hq₂, .of_steps (Steps.trans harr (.one step_inLoop)) harr₂⟩
      | exit id => exact ⟨_, a₁, w₁, hq, .pass (x := .inLoop c) rfl (fun _ _ => .inl (by simp)) harr⟩
      | goto l => exact ⟨_, a₁, w₁, hq, .pass (x := .inLoop c) rfl (fun _ _ => .inl (by simp)) harr⟩
      | ret => exact ⟨_, a₁, w₁, hq, .pass (x := .inLoop c) rfl (fun _ _ => .inl (by simp)) harr⟩
      | panic ch => exact ⟨_, a₁, w₁, hq, .pass (x := .inLoop c) rfl (fun _ _ => .inl (by simp)) harr⟩
      | outgrown => exact ⟨_, a₁, w₁, hq, .pass (x := .inLoop c) rfl (fun _ _ => .inl (by simp)) harr⟩
  obtain ⟨e, a', w', hq, harr⟩ := key n a w h₀
  exact ⟨e, a', w', hq, .of_steps (.one step_loop) harr⟩

end loop

/-- What a context must keep. -/
structure Good (C : Ctx) : Prop where
  mixed : C.P.follows .mixedOrders = true
  body : ∀ f b, C.body f = some b → ∃ fn, C.P.funcs[f]? = some fn ∧ fn.name ≠ "runtime.NumGoroutine" ∧ fn.body = some b.code ∧ fn.results.toList = b.results ∧ fn.ntmps = b.ntmps ∧ codeOk C.P C.loud (C.free f) b.ntmps b.code = true
  ext : ∀ f g, C.ext f = some g → FnOk C.P f ∧ ∀ asx r H', g asx = some (r, H') → Contract C.P f asx r H'
  extE : ∀ f g, C.extE f = some g → FnOk C.P f ∧ ∀ args H r H', g args H = some (r, H') → ∀ base Z φ w cargs, Inv base Z φ H w → ArgsRel φ (Wr φ H Z) w args cargs →
    Calls C.P f cargs w (fun e w' => ∃ v, e = .returned v ∧ Turns base Z φ H w H' r v w')

def X.toExit : X → Exit
  | .normal => .normal
  | .exit id => .exit id
  | .ret => .ret

section
variable {P : Program} {base : Nat} {Z : Nat → Prop} {φ : Place} {H HF : Heap} {w : World}

theorem loadAt_as {t : TypeId} {cv v : Value} (h : (Instr.loadAt t cv).run P w = .ok v w) : (do loadVar t (← asAddr cv) : Sem Value).run P w = .ok v w := by
  cases cv with
  | pointer p =>
    cases p with
    | some a => simpa [Instr.loadAt, Instr.sureAddr, asAddr] using h
    | none => simp [Instr.loadAt, Instr.sureAddr, stuck] at h
  | _ => simp [Instr.loadAt, Instr.sureAddr, stuck] at h

theorem results_list {env : Env} {tmps : Array Value} (I : Inv base Z φ H w) (hr : EnvRel φ (Wr φ H Z) w env tmps) : ∀ (rs : List ResultVar) (vs : List V), resultsV P env H rs = some vs →
    ∃ cvs : List Value, (rs.mapM fun (r : ResultVar) => (match r with | .tmp t => pure (tmps.getD t undef) | .cell a t => do loadVar t (← asAddr (tmps.getD a undef)) : Sem Value)).run P w = .ok cvs w ∧ vs.length = cvs.length ∧
      ∀ (i : Nat) (x : V) (c : Value), vs[i]? = some x → cvs[i]? = some c → VRel φ (Wr φ H Z) w x c
  | [], vs, h => by simp only [resultsV] at h; cases h; exact ⟨[], by simp, rfl, by simp⟩
  | .tmp t :: r, vs, h => by
    simp only [resultsV, Option.map_eq_some_iff] at h
    obtain ⟨vs', h1, rfl⟩ := h
    obtain ⟨cvs, p1, p2, p3⟩ := results_list I hr r vs' h1
    refine ⟨tmps.getD t undef :: cvs, by rw [List.mapM_cons, Sem.run_bind]; show Result.andThen (.ok _ w) _ = _; simp only [Result.andThen]; rw [Sem.run_bind, p1]; rfl, by simp [p2], fun i x c hx hc => ?_⟩
    cases i with
    | zero => simp only [List.getElem?_cons_zero, Option.some.injEq] at hx hc; rw [← hx, ← hc]; exact hr t
    | succ i => exact p3 i x c (by simpa using hx) (by simpa using hc)
  | .cell a t :: r, vs, h => by
    simp only [resultsV] at h
    split at h
    · rename_i v vs' h0 h1
      cases h
      obtain ⟨cvs, p1, p2, p3⟩ := results_list I hr r vs' h1
      obtain ⟨cv, q1, q2⟩ := r_load (P := P) I (.refl _) (hr a) h0
      have q3 := loadAt_as q1
      refine ⟨cv :: cvs, by rw [List.mapM_cons, Sem.run_bind]; simp only; rw [q3]; simp only [Result.andThen]; rw [Sem.run_bind, p1]; rfl, by simp [p2], fun i x c hx hc => ?_⟩
      cases i with
      | zero => simp only [List.getElem?_cons_zero, Option.some.injEq] at hx hc; rw [← hx, ← hc]; exact q2
      | succ i => exact p3 i x c (by simpa using hx) (by simpa using hc)
    · cases h

theorem results_ok {env : Env} {tmps : Array Value} {fn : Func} {vs : List V} (I : Inv base Z φ H w) (hr : EnvRel φ (Wr φ H Z) w env tmps) (h : resultsV P env H fn.results.toList = some vs) :
    ∃ v, (results fn tmps).run P w = .ok v w ∧ VRel φ (Wr φ H Z) w (resV vs) v := by
  obtain ⟨cvs, h1, h2, h3⟩ := results_list I hr _ _ h
  have hrun : ∀ k : Array Value → Sem Value, ((fn.results.mapM fun (r : ResultVar) => (match r with | .tmp t => pure (tmps.getD t undef) | .cell a t => do loadVar t (← asAddr (tmps.getD a undef)) : Sem Value)) >>= k).run P w = (k cvs.toArray).run P w := fun k => by
    rw [Array.mapM_eq_mapM_toList, Sem.run_bind, Sem.run_map, h1]
    rfl
  unfold results
  refine ⟨if h : cvs.toArray.size = 1 then cvs.toArray[0] else .tuple cvs.toArray, (hrun _).trans rfl, ?_⟩
  by_cases h1 : cvs.length = 1
  · rw [dif_pos (by simpa using h1)]
    obtain ⟨x, rfl⟩ := List.length_eq_one_iff.1 (h2.trans h1)
    obtain ⟨c, rfl⟩ := List.length_eq_one_iff.1 h1
    exact h3 0 x c rfl rfl
  · rw [dif_neg (by simpa using h1)]
    have : resV vs = .tuple vs := by
      match vs, h2 with
      | [], _ => rfl
      | [x], h2 => exact absurd h2.symm h1
      | x :: y :: r, _ => rfl
    rw [this]
    exact .tuple _ _ (by simp [h2]) fun i c v hc hv => h3 i c v hc (by simpa using hv)

theorem argEnv_get : ∀ (args : List V) (i t : Nat), (argEnv args i).get t = if i ≤ t then (args[t - i]?).getD .undef else .undef
  | [], i, t => by simp [argEnv, Env.get]
  | v :: vs, i, t => by
    simp only [argEnv, Env.get]
    by_cases h : t = i
    · subst h; simp
    · rw [if_neg h, argEnv_get vs (i + 1) t]
      by_cases hle : i ≤ t
      · rw [if_pos hle, if_pos (by omega)]
        have : t - i = (t - (i + 1)) + 1 := by omega
        rw [this]
        simp
      · rw [if_neg hle, if_neg (by omega)]

theorem args_env {W : Nat → Prop} {args : List V} {cargs : Array Value} {m : Nat} (h : ArgsRel φ W w args cargs) : EnvRel φ W w (argEnv args 0) (cargs ++ Array.replicate m undef) := fun t => by
  rw [argEnv_get, if_pos (Nat.zero_le _), Nat.sub_zero]
  cases hx : args[t]? with
  | none => exact .undef _
  | some x =>
    have hl := (List.getElem?_eq_some_iff.1 hx).1
    rw [h.1] at hl
    have hc : cargs[t]? = some cargs[t] := Array.getElem?_eq_getElem hl
    have : (cargs ++ Array.replicate m undef).getD t undef = cargs[t] := by
      simp [Array.getElem?_append_left hl, hl]
    rw [this]
    exact h.2 t x _ hx hc

theorem expo_ok {base0 : Nat} {φ0 : Place} {H0 : Heap} {w0 : World} {r r' : V} {H' : Heap} {v : Value} (I : Inv base Z φ H w) (hst : Step base H0.length φ0 (Wr φ0 H0 Z) w0 φ (Wr φ H Z) w) (hh : H0.length ≤ H.length) (hr : VRel φ (Wr φ H Z) w r v) (h : expo H0.length r H = some (r', H')) :
    Turns base Z φ0 H0 w0 H' r' v w := by
  unfold expo at h
  simp only at h
  split at h
  · rename_i H2 hp
    cases h
    have hk := pack_ok I hh hp
    exact ⟨_, hk.inv, hk.rel _ _ hr, hst.trans hk.step, hk.len⟩
  · cases h

end

end Go.Abs

namespace Go.Abs
open Go.RowKit
set_option linter.unusedVariables false
set_option linter.unusedSimpArgs false

variable {C : Ctx}

/-- What is shown of each fuel. -/
structure AllOk (C : Ctx) (n : Nat) : Prop where
  b : ∀ f args H r H', evB C n f args H = some (r, H') → FnOk C.P f ∧ ∀ base Z φ w cargs, Inv base Z φ H w → ArgsRel φ (Wr φ H Z) w args cargs →
    Calls C.P f cargs w (fun e w' => ∃ v, e = .returned v ∧ Turns base Z φ H w H' r v w')
  q : QCall C.P (evF C n true)
  e : ECall C.P (evF C n false)
  c : ∀ m f h0 c env H x env' H', evC C n f h0 c env H = some (x, env', H') → codeOk C.P C.loud (C.free f) m c = true → ∀ base Z φ a w, St m base Z φ env H a w → h0 ≤ H.length →
    c.wp C.P (fun e a' w' => e = x.toExit ∧ Moves m base Z h0 φ H w env' H' a' w') a w

theorem lenF_some {c : CallV} {x : V} {xs : List V} {H : Heap} {r : V} {H' : Heap} (h : lenF c x xs H = some (r, H')) : c x xs H = some (r, H') ∧ H.length ≤ H'.length := by
  unfold lenF at h
  split at h
  · rename_i r1 H1 h1
    split at h
    · rename_i hl; cases h; exact ⟨h1, hl⟩
    · cases h
  · cases h

theorem head_ok {P : Program} {ko : Option (List Nat)} {m base h0 : Nat} {Z : Nat → Prop} {φ : Place} {env env1 : Env} {H H1 : Heap} {a : Act} {w : World} (S : St m base Z φ env H a w) (hh : h0 ≤ H.length)
    (h : (match ko with | some ks => atHead h0 ks env H | none => some (env, H)) = some (env1, H1)) : ∃ φ1, St m base Z φ1 env1 H1 a w ∧ Step base h0 φ (Wr φ H Z) w φ1 (Wr φ1 H1 Z) w ∧ h0 ≤ H1.length := by
  cases ko with
  | none => cases h; exact ⟨φ, S, .refl .., hh⟩
  | some ks => exact atHead_ok S hh h

theorem all_ok (G : Good C) : ∀ n, AllOk C n := by
  intro n
  induction n using Nat.strongRecOn with
  | _ n ih =>
    cases n with
    | zero =>
      refine ⟨fun f args H r H' h => ?_, fun H xf xs r H' h => ?_, fun H xf xs r H' h => ?_, fun m f h0 c env H x env' H' h => ?_⟩
      · simp [evB] at h
      · simp [evF] at h
      · simp [evF] at h
      · simp [evC] at h
    | succ n =>
      have hn := ih n (Nat.lt_succ_self n)
      have callq : ∀ d H xf xs r H', evF C (n + 1) d xf xs H = some (r, H') → ∃ f cs, xf = .fn f cs ∧ ((∃ asx bs r0 H0, sealL H (xs ++ cs) = some (asx, bs) ∧ FnOk C.P f ∧ Contract C.P f asx r0 H0 ∧ r = ren (shift H.length) r0 ∧ H' = (if hasRo r0 || H0.any hasRoB then freeze H bs else H) ++ H0.map (renB (shift H.length))) ∨
          (d = false ∧ (evB C n f (xs ++ cs) H = some (r, H') ∨ ∃ g, C.extE f = some g ∧ g (xs ++ cs) H = some (r, H')))) := fun d H xf xs r H' h => by
        cases xf <;> simp only [evF] at h <;> try (cases h; done)
        rename_i f cs
        refine ⟨f, cs, rfl, ?_⟩
        split at h
        · rename_i g hg
          right
          cases d with
          | true => simp at hg
          | false => exact ⟨rfl, .inr ⟨g, by simpa using hg, h⟩⟩
        split at h
        · rename_i asx bs hs
          left
          split at h
          · rename_i r0 H0 hr
            cases h
            refine ⟨asx, bs, r0, H0, sealD_some hs, ?_⟩
            split at hr
            · rename_i g hg
              obtain ⟨h1, h2⟩ := G.ext f g hg
              exact ⟨h1, h2 _ _ _ hr, rfl, rfl⟩
            · obtain ⟨h1, h2⟩ := hn.b _ _ _ _ _ hr
              exact ⟨h1, fun base Z w cargs I hx => h2 base Z pure0 w cargs I hx, rfl, rfl⟩
          · cases h
        · right
          cases d with
          | true => simp at h
          | false => exact ⟨rfl, .inl (by simpa using h)⟩
      refine ⟨fun f args H r H' h => ?_, fun H xf xs r H' h => ?_, fun H xf xs r H' h => ?_, fun m f h0 c env H x env' H' h hc base Z φ a w S hh => ?_⟩
      · -- a function's body
        simp only [evB] at h
        split at h
        · cases h
        rename_i bd hbd
        obtain ⟨fn, g1, g2, g3, g4, g5, g6⟩ := G.body f bd hbd
        refine ⟨⟨fn, g1, g2, by rw [g3]; simp⟩, fun base Z φ w cargs I hx => ?_⟩
        split at h
        case isFalse => cases h
        rename_i hnt
        have S : St bd.ntmps base Z φ (argEnv args 0) H { tmps := cargs ++ Array.replicate (fn.ntmps - cargs.size) undef, defers := [] } w :=
          ⟨I, args_env hx, by simp [g5]; have := hx.1; omega, rfl⟩
        have fin : ∀ (x : X) (env1 : Env) (H1 : Heap), evC C n f H.length bd.code (argEnv args 0) H = some (x, env1, H1) → x.toExit = .normal ∨ x.toExit = .ret →
            (match resultsV C.P env1 H1 bd.results with | some vs => expo H.length (resV vs) H1 | none => none) = some (r, H') →
            Calls C.P f cargs w (fun e w' => ∃ v, e = .returned v ∧ Turns base Z φ H w H' r v w') := fun x env1 H1 hev hxe hres => by
          refine calls_of_wp g1 g3 (wp_mono (hn.c _ _ _ _ _ _ _ _ _ hev g6 base Z φ _ w S (Nat.le_refl _)) fun e a' w' he => ?_)
          obtain ⟨he, φ1, S1, hst, hlen⟩ := he
          split at hres
          case h_2 => cases hres
          rename_i vs hvs
          rw [← g4] at hvs
          obtain ⟨v, p1, p2⟩ := results_ok S1.inv S1.rel hvs
          have ht := expo_ok (base0 := base) S1.inv hst hlen p2 hres
          have hp : a'.defers = [] ∧ ∃ v, (results fn a'.tmps).run C.P w' = .ok v w' ∧ (∃ u, Ending.returned v = .returned u ∧ Turns base Z φ H w H' r u w') := ⟨S1.defers, v, p1, v, rfl, ht⟩
          rw [he]
          rcases hxe with hxe | hxe
          · rw [hxe]; exact hp
          · rw [hxe]; exact hp
        split at h
        · rename_i env1 H1 hev; exact fin _ _ _ hev (.inl rfl) h
        · rename_i env1 H1 hev; exact fin _ _ _ hev (.inr rfl) h
        · cases h
      · -- a call that must not write
        obtain ⟨f, cs, rfl, ⟨asx, bs, r0, H0, h1, h2, h3, rfl, rfl⟩ | ⟨hd, _⟩⟩ := callq _ _ _ _ _ _ h
        · exact pure_call h2 h1 h3
        · cases hd
      · -- any call
        obtain ⟨f, cs, rfl, ⟨asx, bs, r0, H0, h1, h2, h3, rfl, rfl⟩ | ⟨_, hb⟩⟩ := callq _ _ _ _ _ _ h
        · intro base Z φ w cf cxs I hf hx
          obtain ⟨hle, hp⟩ := pure_call h2 h1 h3
          obtain ⟨f', caps, fn, p1, p2, p3, p4, p5⟩ := hp base Z φ _ w cf cxs (I.le hle) (frz_rel I hle hf) ⟨hx.1, fun i x c a b => frz_rel I hle (hx.2 i x c a b)⟩ (.refl _) (unborn_new I)
          exact ⟨f', caps, fn, p1, p2, p3, p4, Calls.mono p5 fun e w' ⟨v, he, hl⟩ => ⟨v, he, leaves_turns I hle hl⟩⟩
        · intro base Z φ w cf cxs I hf hx
          have hb : FnOk C.P f ∧ ∀ base Z φ w cargs, Inv base Z φ H w → ArgsRel φ (Wr φ H Z) w (xs ++ cs) cargs → Calls C.P f cargs w (fun e w' => ∃ v, e = .returned v ∧ Turns base Z φ H w H' r v w') := by
            rcases hb with hb | ⟨g, hg, hb⟩
            · exact hn.b _ _ _ _ _ hb
            · obtain ⟨h1, h2⟩ := G.extE f g hg
              exact ⟨h1, h2 _ _ _ _ hb⟩
          obtain ⟨⟨fn, p2, p3, p4⟩, hb⟩ := hb
          obtain ⟨vs, rfl, hvs⟩ := fn_rel hf
          exact ⟨f, vs, fn, rfl, p2, p3, p4, hb base Z φ w _ I (hx.append hvs)⟩
      · -- code
        cases c <;> simp only [evC] at h <;> try (cases h; done)
        case skip => cases h; exact wp_skip ⟨rfl, .still S hh⟩
        case region id ops draw =>
          split at h
          case isFalse => cases h
          rename_i hfr
          simp only [Option.map_eq_some_iff] at h
          obtain ⟨⟨env1, H1⟩, h1, h⟩ := h
          cases h
          simp only [codeOk, Bool.and_eq_true, Bool.or_eq_true, Bool.not_eq_true'] at hc
          refine region_ok (ld := C.loud) G.mixed (fun hd o => ?_) (fun hd => ?_) hc.1 (fun hd => ?_) hfr S hh h1
          · unfold pickC; rw [hd]; exact hn.e
          · rw [hd]
            refine ⟨fun o ho => ?_, fun o => ?_, fun o x xs H r H' h => ?_⟩
            · unfold pickC; rw [ho]; exact hn.q
            · unfold pickC
              cases loudOp C.loud o with
              | true => exact fun H xf xs r H' h => hn.e _ _ _ _ _ (lenF_some h).1
              | false => exact hn.q.toE
            · unfold pickC at h
              cases hl : loudOp C.loud o with
              | true => rw [hl] at h; exact (lenF_some h).2
              | false => rw [hl] at h; exact (hn.q _ _ _ _ _ h).1.1
          · rcases hc.2 with h | h
            · rw [hd] at h; cases h
            · exact h
        case seq c1 c2 =>
          simp only [codeOk, Bool.and_eq_true] at hc
          apply wp_seq
          have go : ∀ x1 env1 H1, evC C n f h0 c1 env H = some (x1, env1, H1) → (x1.toExit = .normal → evC C n f h0 c2 env1 H1 = some (x, env', H')) → (x1.toExit ≠ .normal → (x1, env1, H1) = (x, env', H')) →
              c1.wp C.P (Exit.then (c2.wp C.P fun e a' w' => e = x.toExit ∧ Moves m base Z h0 φ H w env' H' a' w') fun e a' w' => e = x.toExit ∧ Moves m base Z h0 φ H w env' H' a' w') a w := fun x1 env1 H1 h1 hnorm hother => by
            refine wp_mono (hn.c m _ _ _ _ _ _ _ _ h1 hc.1 base Z φ a w S hh) fun e a1 w1 he => ?_
            obtain ⟨he, φ1, S1, hst, hlen⟩ := he
            by_cases hx1 : x1.toExit = .normal
            · rw [he, hx1]
              exact wp_mono (hn.c m _ _ _ _ _ _ _ _ (hnorm hx1) hc.2 base Z φ1 a1 w1 S1 hlen) fun e a2 w2 he2 => ⟨he2.1, he2.2.trans hst⟩
            · have := hother hx1
              cases this
              rw [he]
              cases x with
              | normal => exact absurd rfl hx1
              | exit id => exact ⟨rfl, φ1, S1, hst, hlen⟩
              | ret => exact ⟨rfl, φ1, S1, hst, hlen⟩
          split at h
          · rename_i env1 H1 h1
            exact go _ _ _ h1 (fun _ => h) (fun hne => absurd rfl hne)
          · rename_i hne
            refine go _ _ _ h (fun hx => ?_) (fun _ => rfl)
            cases x with
            | normal => exact absurd h (hne _ _)
            | exit id => cases hx
            | ret => cases hx
        case cond cnd c1 c2 =>
          simp only [codeOk, Bool.and_eq_true] at hc
          split at h
          · rename_i t ht
            have hr := S.rel.eval cnd
            rw [ht] at hr
            refine wp_cond (isBool_of hr) (hn.c m _ _ _ _ _ _ _ _ h (by cases t; exact hc.2; exact hc.1) base Z φ a w S hh)
          · cases h
        case block id c1 =>
          simp only [codeOk] at hc
          apply wp_block
          split at h
          · rename_i j env1 H1 h1
            cases h
            refine wp_mono (hn.c m _ _ _ _ _ _ _ _ h1 hc base Z φ a w S hh) fun e a1 w1 he => ?_
            rw [he.1]
            show if j = id then _ else _
            by_cases hj : j = id
            · rw [if_pos hj]; exact ⟨by rw [if_pos hj]; rfl, he.2⟩
            · rw [if_neg hj]; exact ⟨by rw [if_neg hj]; rfl, he.2⟩
          · rename_i hne
            refine wp_mono (hn.c m _ _ _ _ _ _ _ _ h hc base Z φ a w S hh) fun e a1 w1 he => ?_
            rw [he.1]
            cases x with
            | normal => exact ⟨rfl, he.2⟩
            | exit id => exact absurd h (hne _ _ _)
            | ret => exact ⟨rfl, he.2⟩
        case loop c1 =>
          simp only [codeOk] at hc
          have h' : evC C (n + 1) f h0 (.loop c1) env H = some (x, env', H') := by simp only [evC]; exact h
          refine wp_loopJ (fun k a1 w1 => k ≤ n + 1 ∧ ∃ φ1 env1 H1, St m base Z φ1 env1 H1 a1 w1 ∧ Step base h0 φ (Wr φ H Z) w φ1 (Wr φ1 H1 Z) w1 ∧ h0 ≤ H1.length ∧ evC C k f h0 (.loop c1) env1 H1 = some (x, env', H')) (fun k a1 w1 hJ => ?_) (n := n + 1) ⟨Nat.le_refl _, φ, env, H, S, .refl .., hh, h'⟩
          obtain ⟨hk, φ1, env1, H1, S1, hst1, hl1, hev⟩ := hJ
          cases k with
          | zero => simp [evC] at hev
          | succ k =>
            simp only [evC] at hev
            split at hev
            · rename_i env2 H2 hhead
              obtain ⟨φ2, S2, hst2, hl2⟩ := head_ok (P := C.P) S1 hl1 hhead
              have hik := ih k (by omega)
              split at hev
              · rename_i env3 H3 hb
                refine wp_mono (hik.c m _ _ _ _ _ _ _ _ hb hc base Z φ2 a1 w1 S2 hl2) fun e a3 w3 he => ?_
                obtain ⟨he, φ3, S3, hst3, hl3⟩ := he
                rw [he]
                exact ⟨k, Nat.lt_succ_self k, by omega, φ3, env3, H3, S3, (hst1.trans hst2).trans hst3, hl3, hev⟩
              · rename_i hne
                refine wp_mono (hik.c m _ _ _ _ _ _ _ _ hev hc base Z φ2 a1 w1 S2 hl2) fun e a3 w3 he => ?_
                obtain ⟨he, φ3, S3, hst3, hl3⟩ := he
                rw [he]
                cases x with
                | normal => exact absurd hev (hne _ _)
                | exit id => exact ⟨rfl, φ3, S3, (hst1.trans hst2).trans hst3, hl3⟩
                | ret => exact ⟨rfl, φ3, S3, (hst1.trans hst2).trans hst3, hl3⟩
            · cases hev
        case exit id => cases h; exact wp_exit ⟨rfl, .still S hh⟩
        case ret => cases h; exact wp_ret ⟨rfl, .still S hh⟩

end Go.Abs

namespace Go.Abs
open Go.RowKit
set_option linter.unusedVariables false
set_option linter.unusedSimpArgs false

theorem evOp_call {P : Program} {c1 c2 : CallV} {env : Env} {H : Heap} {o : Oper} {r : V × Heap} (h : evOp P c1 env H o = some r) (hc : ∀ f xs, c1 f xs H = some r → c2 f xs H = some r) : evOp P c2 env H o = some r := by
  obtain ⟨dst, op, type, pos, after, guard⟩ := o
  cases op
  case call c =>
    obtain ⟨callee, args, ats⟩ := c
    cases callee
    · simp only [evOp] at h ⊢; exact hc _ _ h
    · exact h
    · exact h
  case makeFunc fn _ _ => cases fn <;> exact h
  case makeMap t r => cases r <;> exact h
  case slice t x lo hi mx => cases mx <;> exact h
  all_goals exact h

theorem evOps_call {P : Program} {c1 c2 : Op → CallV} {ops : Array Oper} (hc : ∀ o f xs H r, c1 o f xs H = some r → c2 o f xs H = some r) : ∀ (l : List Oper) (env : Env) (H : Heap) (r : Env × Heap), evOps P c1 ops l env H = some r → evOps P c2 ops l env H = some r
  | [], env, H, r, h => h
  | o :: l, env, H, r, h => by
    simp only [evOps] at h ⊢
    cases hw : wantedV ops env o with
    | stuck => rw [hw] at h; cases h
    | no => rw [hw] at h; exact evOps_call hc l _ _ _ h
    | yes =>
      rw [hw] at h
      simp only at h ⊢
      cases he : evOp P (c1 o.op) env H o with
      | none => rw [he] at h; cases h
      | some vh =>
        rw [he] at h
        rw [evOp_call he fun f xs => hc _ f xs H vh]
        exact evOps_call hc l _ _ _ h

theorem pickC_mono {ld : FuncId → Bool} {draw : Bool} {c1 c2 : Bool → CallV} (hc : ∀ d f xs H r, c1 d f xs H = some r → c2 d f xs H = some r) {o : Op} {f : V} {xs : List V} {H : Heap} {r : V × Heap} (h : pickC ld draw c1 o f xs H = some r) : pickC ld draw c2 o f xs H = some r := by
  unfold pickC at h ⊢
  split at h
  · rename_i hb
    rw [if_pos hb]
    unfold lenF at h ⊢
    cases hx : c1 false f xs H with
    | none => rw [hx] at h; cases h
    | some x => rw [hx] at h; rw [hc _ _ _ _ _ hx]; exact h
  · rename_i hb
    rw [if_neg hb]
    exact hc _ _ _ _ _ h

theorem evOp_read {P : Program} {c1 c2 : CallV} {env : Env} {H : Heap} {o : Oper} (h : readOp o.op = true) : evOp P c1 env H o = evOp P c2 env H o := by
  obtain ⟨dst, op, type, pos, after, guard⟩ := o
  cases op <;> first | rfl | (simp [readOp] at h; done)
theorem states_call {P : Program} {c1 c2 : Op → CallV} {ops : Array Oper} (hc : ∀ o f xs H r, c1 o f xs H = some r → c2 o f xs H = some r) : ∀ (l : List Oper) (env : Env) (H : Heap) (r : Env × Heap), evOps P c1 ops l env H = some r → states P c1 ops l env H = states P c2 ops l env H
  | [], env, H, r, h => rfl
  | o :: l, env, H, r, h => by
    simp only [evOps, states] at h ⊢
    cases hw : wantedV ops env o with
    | stuck =>
      rw [hw] at h
      all_goals cases h
    | no =>
      rw [hw] at h
      all_goals exact congrArg _ (states_call hc l _ _ _ h)
    | yes =>
      rw [hw] at h
      simp only at h ⊢
      cases he : evOp P (c1 o.op) env H o with
      | none => rw [he] at h; cases h
      | some vh =>
        rw [he] at h
        rw [evOp_call he fun f xs => hc _ f xs H vh]
        exact congrArg _ (states_call hc l _ _ _ h)
theorem freeOk_call {P : Program} {c1 c2 : Op → CallV} {fl : List Nat} {ops : Array Oper} {S : List (Env × Heap)} : freeOk P c1 fl ops S = freeOk P c2 fl ops S := by
  unfold freeOk
  congr 1
  funext x
  by_cases hf : isFree fl x.1 = true
  · have hr : readOp x.1.op = true := by unfold isFree at hf; rw [Bool.and_eq_true] at hf; exact hf.1
    have e : ∀ (E : Env) (H : Heap), evOp P (c1 x.1.op) E H x.1 = evOp P (c2 x.1.op) E H x.1 := fun E H => evOp_read hr
    simp only [e]
  · simp [show isFree fl x.1 = false by simpa using hf]
theorem freeAll_call {P : Program} {c1 c2 : Op → CallV} {fl : List Nat} {ops : Array Oper} {env : Env} {H : Heap} {r : Env × Heap} (hc : ∀ o f xs H r, c1 o f xs H = some r → c2 o f xs H = some r) (h : evOps P c1 ops ops.toList env H = some r) :
    freeAll P c1 fl ops env H = freeAll P c2 fl ops env H := by
  unfold freeAll
  cases fl with
  | nil => rfl
  | cons => simp only; rw [states_call hc _ _ _ _ h, freeOk_call]

structure Mono (C : Ctx) (n : Nat) : Prop where
  b : ∀ f args H r, evB C n f args H = some r → evB C (n + 1) f args H = some r
  f : ∀ d x xs H r, evF C n d x xs H = some r → evF C (n + 1) d x xs H = some r
  c : ∀ f h0 c env H r, evC C n f h0 c env H = some r → evC C (n + 1) f h0 c env H = some r

theorem mono (C : Ctx) : ∀ n, Mono C n
  | 0 => ⟨fun f args H r h => by simp [evB] at h, fun d x xs H r h => by simp [evF] at h, fun f h0 c env H r h => by simp [evC] at h⟩
  | n + 1 => by
    have ih := mono C n
    refine ⟨fun f args H r h => ?_, fun d x xs H r h => ?_, fun f h0 c env H r h => ?_⟩
    · rw [evB] at h ⊢
      split at h
      · cases h
      rename_i bd hb
      try rw [hb]
      try simp only
      split at h
      case isFalse => cases h
      rename_i hl
      rw [if_pos hl]
      cases he : evC C n f H.length bd.code (argEnv args 0) H with
      | none => rw [he] at h; cases h
      | some x => rw [he] at h; rw [ih.c _ _ _ _ _ _ he]; exact h
    · cases x with
      | fn f cs =>
        rw [evF] at h ⊢
        cases hE : (if d = true then none else C.extE f) with
        | some g => rw [hE] at h; exact h
        | none =>
        rw [hE] at h
        simp only at h ⊢
        split at h
        · rename_i asx bs hs
          try simp only
          cases he : C.ext f with
          | some g => rw [he] at h; exact h
          | none =>
            rw [he] at h
            simp only at h ⊢
            cases hb : evB C n f asx [] with
            | none => rw [hb] at h; cases h
            | some x => rw [hb] at h; rw [ih.b _ _ _ _ hb]; exact h
        · rename_i hs
          try simp only
          split at h
          · cases h
          · rename_i hd; rw [if_neg hd]; exact ih.b _ _ _ _ h
      | _ => simp [evF] at h
    · rw [evC.eq_def] at h ⊢
      cases c <;> simp only at h ⊢ <;> try exact h
      case region id ops draw =>
        split at h
        case isFalse => cases h
        rename_i hfr
        rw [Option.map_eq_some_iff] at h
        obtain ⟨x, h1, h2⟩ := h
        rw [if_pos (by rw [← freeAll_call (fun o f xs H r => pickC_mono fun d f xs H r => ih.f d f xs H r) h1]; exact hfr), Option.map_eq_some_iff]
        exact ⟨x, evOps_call (fun o f xs H r => pickC_mono fun d f xs H r => ih.f d f xs H r) _ _ _ _ h1, h2⟩
      case seq a b =>
        cases ha : evC C n f h0 a env H with
        | none => rw [ha] at h; cases h
        | some x =>
          rw [ha] at h
          rw [ih.c _ _ _ _ _ _ ha]
          obtain ⟨x, e, H1⟩ := x
          cases x with
          | normal => exact ih.c _ _ _ _ _ _ h
          | exit id => exact h
          | ret => exact h
      case cond cnd a b =>
        cases hv : evO env cnd <;> rw [hv] at h <;> try (cases h; done)
        exact ih.c _ _ _ _ _ _ h
      case block id b =>
        cases ha : evC C n f h0 b env H with
        | none => rw [ha] at h; cases h
        | some x => rw [ha] at h; rw [ih.c _ _ _ _ _ _ ha]; exact h
      case loop b =>
        split at h
        · rename_i e1 H1 hh
          try simp only
          cases ha : evC C n f h0 b e1 H1 with
          | none => rw [ha] at h; cases h
          | some x =>
            rw [ha] at h
            rw [ih.c _ _ _ _ _ _ ha]
            obtain ⟨x, e, H2⟩ := x
            cases x with
            | normal => exact ih.c _ _ _ _ _ _ h
            | exit id => exact h
            | ret => exact h
        · cases h

theorem mono_le {α : Type} {s : Nat → Option α} (hm : ∀ n a, s n = some a → s (n + 1) = some a) {n m : Nat} (h : n ≤ m) {a : α} (ha : s n = some a) : s m = some a := by
  induction h with
  | refl => exact ha
  | step _ ih => exact hm _ _ ih

open Classical in
/-- What a rising run ends in. -/
noncomputable def lim {α : Type} (s : Nat → Option α) : Option α := if h : ∃ a n, s n = some a then some h.choose else none

theorem lim_eq {α : Type} {s : Nat → Option α} (hm : ∀ n a, s n = some a → s (n + 1) = some a) {a : α} : lim s = some a ↔ ∃ n, s n = some a := by
  unfold lim
  constructor
  · intro h
    split at h
    · rename_i hx
      obtain ⟨n, hn⟩ := hx.choose_spec
      cases h
      exact ⟨n, hn⟩
    · cases h
  · rintro ⟨n, hn⟩
    have hx : ∃ a n, s n = some a := ⟨a, n, hn⟩
    rw [dif_pos hx]
    obtain ⟨m, hm'⟩ := hx.choose_spec
    have h1 := mono_le hm (Nat.le_max_left n m) hn
    have h2 := mono_le hm (Nat.le_max_right n m) hm'
    rw [h1] at h2
    exact h2.symm

noncomputable def bodyW (C : Ctx) (f : FuncId) (args : List V) (H : Heap) : Option (V × Heap) := lim fun n => evB C n f args H
noncomputable def callW (C : Ctx) (d : Bool) (x : V) (xs : List V) (H : Heap) : Option (V × Heap) := lim fun n => evF C n d x xs H
noncomputable def codeW (C : Ctx) (f : FuncId) (h0 : Nat) (c : Code) (env : Env) (H : Heap) : Option (X × Env × Heap) := lim fun n => evC C n f h0 c env H

section
variable {C : Ctx}

theorem bodyW_iff {f : FuncId} {args : List V} {H : Heap} {r : V × Heap} : bodyW C f args H = some r ↔ ∃ n, evB C n f args H = some r := lim_eq fun n a h => (mono C n).b _ _ _ _ h
theorem callW_iff {d : Bool} {x : V} {xs : List V} {H : Heap} {r : V × Heap} : callW C d x xs H = some r ↔ ∃ n, evF C n d x xs H = some r := lim_eq fun n a h => (mono C n).f _ _ _ _ _ h
theorem codeW_iff {f : FuncId} {h0 : Nat} {c : Code} {env : Env} {H : Heap} {r : X × Env × Heap} : codeW C f h0 c env H = some r ↔ ∃ n, evC C n f h0 c env H = some r := lim_eq fun n a h => (mono C n).c _ _ _ _ _ _ h

theorem up_b {n m : Nat} (h : n ≤ m) {f : FuncId} {args : List V} {H : Heap} {r : V × Heap} (hr : evB C n f args H = some r) : evB C m f args H = some r := mono_le (s := fun n => evB C n f args H) (fun n a h => (mono C n).b _ _ _ _ h) h hr
theorem up_f {n m : Nat} (h : n ≤ m) {d : Bool} {x : V} {xs : List V} {H : Heap} {r : V × Heap} (hr : evF C n d x xs H = some r) : evF C m d x xs H = some r := mono_le (s := fun n => evF C n d x xs H) (fun n a h => (mono C n).f _ _ _ _ _ h) h hr
theorem up_c {n m : Nat} (h : n ≤ m) {f : FuncId} {h0 : Nat} {c : Code} {env : Env} {H : Heap} {r : X × Env × Heap} (hr : evC C n f h0 c env H = some r) : evC C m f h0 c env H = some r := mono_le (s := fun n => evC C n f h0 c env H) (fun n a h => (mono C n).c _ _ _ _ _ _ h) h hr

theorem pickC_W {ld : FuncId → Bool} {draw : Bool} {o : Op} {f : V} {xs : List V} {H : Heap} {r : V × Heap} (h : pickC ld draw (callW C) o f xs H = some r) : ∃ n, pickC ld draw (evF C n) o f xs H = some r := by
  unfold pickC at h ⊢
  split at h
  · rename_i hb
    unfold lenF at h
    cases hx : callW C false f xs H with
    | none => rw [hx] at h; cases h
    | some x =>
      rw [hx] at h
      obtain ⟨n, hn⟩ := callW_iff.1 hx
      exact ⟨n, by rw [if_pos hb]; unfold lenF; rw [hn]; exact h⟩
  · rename_i hb
    obtain ⟨n, hn⟩ := callW_iff.1 h
    exact ⟨n, by rw [if_neg hb]; exact hn⟩

theorem evOp_W {ld : FuncId → Bool} {d : Bool} {env : Env} {H : Heap} {o : Oper} {r : V × Heap} (h : evOp C.P (pickC ld d (callW C) o.op) env H o = some r) : ∃ n, evOp C.P (pickC ld d (evF C n) o.op) env H o = some r := by
  by_cases hv : ∃ f args ats, o.op = .call ⟨.value f, args, ats⟩
  · obtain ⟨f, args, ats, ho⟩ := hv
    obtain ⟨dst, op, type, pos, after, guard⟩ := o
    simp only at ho
    subst ho
    simp only [evOp] at h ⊢
    exact pickC_W h
  · refine ⟨0, ?_⟩
    obtain ⟨dst, op, type, pos, after, guard⟩ := o
    cases op
    case call c =>
      obtain ⟨callee, args, ats⟩ := c
      cases callee
      · exact absurd ⟨_, _, _, rfl⟩ hv
      · exact h
      · exact h
    case makeFunc fn _ _ => cases fn <;> exact h
    case makeMap t r => cases r <;> exact h
    case slice t x lo hi mx => cases mx <;> exact h
    all_goals exact h

theorem evOps_W {ld : FuncId → Bool} {d : Bool} {ops : Array Oper} : ∀ (l : List Oper) (env : Env) (H : Heap) (r : Env × Heap), evOps C.P (pickC ld d (callW C)) ops l env H = some r → ∃ n, evOps C.P (pickC ld d (evF C n)) ops l env H = some r
  | [], env, H, r, h => ⟨0, h⟩
  | o :: l, env, H, r, h => by
    simp only [evOps] at h ⊢
    cases hw : wantedV ops env o with
    | stuck => rw [hw] at h; cases h
    | no => rw [hw] at h; exact evOps_W l _ _ _ h
    | yes =>
      rw [hw] at h
      simp only at h ⊢
      cases he : evOp C.P (pickC ld d (callW C) o.op) env H o with
      | none => rw [he] at h; cases h
      | some vh =>
        rw [he] at h
        obtain ⟨n1, h1⟩ := evOp_W he
        obtain ⟨n2, h2⟩ := evOps_W l _ _ _ h
        refine ⟨max n1 n2, ?_⟩
        rw [evOp_call h1 fun f xs hf => pickC_mono (fun d f xs H r hf => up_f (Nat.le_max_left n1 n2) hf) hf]
        exact evOps_call (fun o f xs H r hf => pickC_mono (fun d f xs H r hf => up_f (Nat.le_max_right n1 n2) hf) hf) l _ _ _ h2

theorem evOps_W_iff {ld : FuncId → Bool} {d : Bool} {ops : Array Oper} {l : List Oper} {env : Env} {H : Heap} {r : Env × Heap} : evOps C.P (pickC ld d (callW C)) ops l env H = some r ↔ ∃ n, evOps C.P (pickC ld d (evF C n)) ops l env H = some r :=
  ⟨evOps_W l env H r, fun ⟨n, h⟩ => evOps_call (fun o f xs H r hf => pickC_mono (fun d f xs H r hf => callW_iff.2 ⟨n, hf⟩) hf) l _ _ _ h⟩

theorem bodyW_def {f : FuncId} {args : List V} {H : Heap} : bodyW C f args H = match C.body f with
    | none => none
    | some fn => if args.length ≤ fn.ntmps then match codeW C f H.length fn.code (argEnv args 0) H with
        | some (.normal, env, H') | some (.ret, env, H') => match resultsV C.P env H' fn.results with
          | some vs => expo H.length (resV vs) H'
          | none => none
        | _ => none
      else none := by
  apply Option.ext
  intro r
  rw [bodyW_iff]
  constructor
  · rintro ⟨n, h⟩
    cases n with
    | zero => simp [evB] at h
    | succ n =>
      rw [evB] at h
      split at h
      · cases h
      rename_i bd hb
      try rw [hb]
      try simp only
      split at h
      case isFalse => cases h
      rename_i hl
      rw [if_pos hl]
      cases he : evC C n f H.length bd.code (argEnv args 0) H with
      | none => rw [he] at h; cases h
      | some x => rw [he] at h; rw [codeW_iff.2 ⟨n, he⟩]; exact h
  · intro h
    split at h
    · cases h
    rename_i bd hb
    split at h
    case isFalse => cases h
    rename_i hl
    cases he : codeW C f H.length bd.code (argEnv args 0) H with
    | none => rw [he] at h; cases h
    | some x =>
      rw [he] at h
      obtain ⟨n, hn⟩ := codeW_iff.1 he
      exact ⟨n + 1, by rw [evB, hb]; simp only; rw [if_pos hl, hn]; exact h⟩

theorem callW_def {d : Bool} {f : FuncId} {cs xs : List V} {H : Heap} : callW C d (.fn f cs) xs H = match (if d then none else C.extE f) with
  | some g => g (xs ++ cs) H
  | none => match sealD C d f H (xs ++ cs) with
    | some (asx, bs) =>
      match (match C.ext f with | some g => g asx | none => bodyW C f asx []) with
      | some (r, H') => some (ren (shift H.length) r, (if hasRo r || H'.any hasRoB then freeze H bs else H) ++ H'.map (renB (shift H.length)))
      | none => none
    | none => if d then none else bodyW C f (xs ++ cs) H := by
  apply Option.ext
  intro r
  rw [callW_iff]
  cases hE : (if d = true then none else C.extE f) with
  | some g =>
    constructor
    · rintro ⟨n, h⟩
      cases n with
      | zero => simp [evF] at h
      | succ n => rw [evF, hE] at h; exact h
    · intro h
      exact ⟨1, by rw [evF, hE]; exact h⟩
  | none =>
  simp only
  constructor
  · rintro ⟨n, h⟩
    cases n with
    | zero => simp [evF] at h
    | succ n =>
      rw [evF, hE] at h
      simp only at h
      split at h
      · rename_i asx bs hs
        try rw [hs]
        try simp only
        cases he : C.ext f with
        | some g => rw [he] at h; exact h
        | none =>
          rw [he] at h
          simp only at h ⊢
          cases hb : evB C n f asx [] with
          | none => rw [hb] at h; cases h
          | some x => rw [hb] at h; rw [bodyW_iff.2 ⟨n, hb⟩]; exact h
      · rename_i hs
        try rw [hs]
        try simp only
        split at h
        · cases h
        · rename_i hd; rw [if_neg hd]; exact bodyW_iff.2 ⟨n, h⟩
  · intro h
    split at h
    · rename_i asx bs hs
      cases he : C.ext f with
      | some g => rw [he] at h; exact ⟨1, by rw [evF, hE]; simp only; rw [hs]; simp only; rw [he]; exact h⟩
      | none =>
        rw [he] at h
        simp only at h
        cases hb : bodyW C f asx [] with
        | none => rw [hb] at h; cases h
        | some x =>
          rw [hb] at h
          obtain ⟨n, hn⟩ := bodyW_iff.1 hb
          exact ⟨n + 1, by rw [evF, hE]; simp only; rw [hs]; simp only; rw [he]; simp only; rw [hn]; exact h⟩
    · rename_i hs
      split at h
      · cases h
      · rename_i hd
        obtain ⟨n, hn⟩ := bodyW_iff.1 h
        exact ⟨n + 1, by rw [evF, hE]; simp only; rw [hs]; simp only; rw [if_neg hd]; exact hn⟩

/-- A loop's head. -/
def headE (C : Ctx) (f : FuncId) (h0 : Nat) (b : Code) (env : Env) (H : Heap) : Option (Env × Heap) := match C.keep f (loopKey b) with
  | some ks => atHead h0 ks env H
  | none => some (env, H)

theorem evC_loop {n : Nat} {f : FuncId} {h0 : Nat} {b : Code} {env : Env} {H : Heap} : evC C (n + 1) f h0 (.loop b) env H = match headE C f h0 b env H with
    | some (env, H) => match evC C n f h0 b env H with
      | some (.normal, env', H') => evC C n f h0 (.loop b) env' H'
      | r => r
    | none => none := by
  rw [evC]
  unfold headE
  cases C.keep f (loopKey b) <;> rfl

/-- The state behind a loop's head. -/
noncomputable def loopW (C : Ctx) (f : FuncId) (h0 : Nat) (b : Code) (env : Env) (H : Heap) : Option (X × Env × Heap) := match codeW C f h0 b env H with
  | some (.normal, env', H') => codeW C f h0 (.loop b) env' H'
  | r => r

theorem codeW_skip {f : FuncId} {h0 : Nat} {env : Env} {H : Heap} : codeW C f h0 .skip env H = some (.normal, env, H) := codeW_iff.2 ⟨1, by rw [evC]⟩
theorem codeW_exit {f : FuncId} {h0 id : Nat} {env : Env} {H : Heap} : codeW C f h0 (.exit id) env H = some (.exit id, env, H) := codeW_iff.2 ⟨1, by rw [evC]⟩
theorem codeW_ret {f : FuncId} {h0 : Nat} {env : Env} {H : Heap} : codeW C f h0 .ret env H = some (.ret, env, H) := codeW_iff.2 ⟨1, by rw [evC]⟩

theorem codeW_region {f : FuncId} {h0 id : Nat} {ops : Array Oper} {draw : Bool} {env : Env} {H : Heap} : codeW C f h0 (.region id ops draw) env H = if freeAll C.P (pickC C.loud draw (callW C)) (C.free f id) ops env H then (evOps C.P (pickC C.loud draw (callW C)) ops ops.toList env H).map fun (env', H') => (.normal, env', H') else none := by
  apply Option.ext
  intro r
  rw [codeW_iff]
  have up : ∀ n, ∀ o f xs H r, pickC C.loud draw (evF C n) o f xs H = some r → pickC C.loud draw (callW C) o f xs H = some r := fun n o f xs H r hf => pickC_mono (fun d f xs H r hf => callW_iff.2 ⟨n, hf⟩) hf
  constructor
  · rintro ⟨n, h⟩
    cases n with
    | zero => simp [evC] at h
    | succ n =>
      rw [evC] at h
      split at h
      case isFalse => cases h
      rename_i hfr
      rw [Option.map_eq_some_iff] at h
      obtain ⟨x, h1, h2⟩ := h
      rw [if_pos (by rw [← freeAll_call (up n) h1]; exact hfr), Option.map_eq_some_iff]
      exact ⟨x, evOps_W_iff.2 ⟨n, h1⟩, h2⟩
  · intro h
    split at h
    case isFalse => cases h
    rename_i hfr
    rw [Option.map_eq_some_iff] at h
    obtain ⟨x, h1, h2⟩ := h
    obtain ⟨n, hn⟩ := evOps_W_iff.1 h1
    exact ⟨n + 1, by rw [evC, if_pos (by rw [freeAll_call (up n) hn]; exact hfr), Option.map_eq_some_iff]; exact ⟨x, hn, h2⟩⟩

theorem codeW_seq {f : FuncId} {h0 : Nat} {a b : Code} {env : Env} {H : Heap} : codeW C f h0 (.seq a b) env H = match codeW C f h0 a env H with
    | some (.normal, env', H') => codeW C f h0 b env' H'
    | r => r := by
  apply Option.ext
  intro r
  rw [codeW_iff]
  constructor
  · rintro ⟨n, h⟩
    cases n with
    | zero => simp [evC] at h
    | succ n =>
      rw [evC] at h
      cases ha : evC C n f h0 a env H with
      | none => rw [ha] at h; cases h
      | some x =>
        rw [ha] at h
        rw [codeW_iff.2 ⟨n, ha⟩]
        obtain ⟨x, e, H1⟩ := x
        cases x with
        | normal => exact codeW_iff.2 ⟨n, h⟩
        | exit id => exact h
        | ret => exact h
  · intro h
    cases ha : codeW C f h0 a env H with
    | none => rw [ha] at h; cases h
    | some x =>
      rw [ha] at h
      obtain ⟨n, hn⟩ := codeW_iff.1 ha
      obtain ⟨x, e, H1⟩ := x
      cases x with
      | normal =>
        obtain ⟨m, hm⟩ := codeW_iff.1 h
        exact ⟨max n m + 1, by rw [evC, up_c (Nat.le_max_left n m) hn]; exact up_c (Nat.le_max_right n m) hm⟩
      | exit id => exact ⟨n + 1, by rw [evC, hn]; exact h⟩
      | ret => exact ⟨n + 1, by rw [evC, hn]; exact h⟩

theorem codeW_cond {f : FuncId} {h0 : Nat} {c : Operand} {a b : Code} {env : Env} {H : Heap} : codeW C f h0 (.cond c a b) env H = match evO env c with
    | .bool t => codeW C f h0 (if t then a else b) env H
    | _ => none := by
  apply Option.ext
  intro r
  rw [codeW_iff]
  constructor
  · rintro ⟨n, h⟩
    cases n with
    | zero => simp [evC] at h
    | succ n =>
      rw [evC] at h
      cases hv : evO env c <;> rw [hv] at h <;> try (cases h; done)
      exact codeW_iff.2 ⟨n, h⟩
  · intro h
    cases hv : evO env c <;> rw [hv] at h <;> try (cases h; done)
    obtain ⟨n, hn⟩ := codeW_iff.1 h
    exact ⟨n + 1, by rw [evC, hv]; exact hn⟩

theorem codeW_block {f : FuncId} {h0 id : Nat} {b : Code} {env : Env} {H : Heap} : codeW C f h0 (.block id b) env H = match codeW C f h0 b env H with
    | some (.exit j, env', H') => some (if j = id then .normal else .exit j, env', H')
    | r => r := by
  apply Option.ext
  intro r
  rw [codeW_iff]
  constructor
  · rintro ⟨n, h⟩
    cases n with
    | zero => simp [evC] at h
    | succ n =>
      rw [evC] at h
      cases ha : evC C n f h0 b env H with
      | none => rw [ha] at h; cases h
      | some x => rw [ha] at h; rw [codeW_iff.2 ⟨n, ha⟩]; exact h
  · intro h
    cases ha : codeW C f h0 b env H with
    | none => rw [ha] at h; cases h
    | some x =>
      rw [ha] at h
      obtain ⟨n, hn⟩ := codeW_iff.1 ha
      exact ⟨n + 1, by rw [evC, hn]; exact h⟩

theorem codeW_loop {f : FuncId} {h0 : Nat} {b : Code} {env : Env} {H : Heap} : codeW C f h0 (.loop b) env H = match headE C f h0 b env H with
    | some (env, H) => loopW C f h0 b env H
    | none => none := by
  apply Option.ext
  intro r
  rw [codeW_iff]
  constructor
  · rintro ⟨n, h⟩
    cases n with
    | zero => simp [evC] at h
    | succ n =>
      rw [evC_loop] at h
      split at h
      · rename_i e1 H1 hh
        try simp only
        unfold loopW
        cases ha : evC C n f h0 b e1 H1 with
        | none => rw [ha] at h; cases h
        | some x =>
          rw [ha] at h
          rw [codeW_iff.2 ⟨n, ha⟩]
          obtain ⟨x, e, H2⟩ := x
          cases x with
          | normal => exact codeW_iff.2 ⟨n, h⟩
          | exit id => exact h
          | ret => exact h
      · cases h
  · intro h
    split at h
    · rename_i e1 H1 hh
      unfold loopW at h
      cases ha : codeW C f h0 b e1 H1 with
      | none => rw [ha] at h; cases h
      | some x =>
        rw [ha] at h
        obtain ⟨n, hn⟩ := codeW_iff.1 ha
        obtain ⟨x, e, H2⟩ := x
        cases x with
        | normal =>
          obtain ⟨m, hm⟩ := codeW_iff.1 h
          exact ⟨max n m + 1, by rw [evC_loop, hh]; simp only; rw [up_c (Nat.le_max_left n m) hn]; exact up_c (Nat.le_max_right n m) hm⟩
        | exit id => exact ⟨n + 1, by rw [evC_loop, hh]; simp only; rw [hn]; exact h⟩
        | ret => exact ⟨n + 1, by rw [evC_loop, hh]; simp only; rw [hn]; exact h⟩
    · cases h

end

end Go.Abs

namespace Go.Abs
open Go.RowKit
set_option linter.unusedVariables false
set_option linter.unusedSimpArgs false

/-- Code runs, and in the end Q holds. -/
def Runs (C : Ctx) (f : FuncId) (h0 : Nat) (c : Code) (env : Env) (H : Heap) (Q : X → Env → Heap → Prop) : Prop :=
  ∃ x env' H', codeW C f h0 c env H = some (x, env', H') ∧ Q x env' H'

def Ops (C : Ctx) (d : Bool) (ops : Array Oper) (l : List Oper) (env : Env) (H : Heap) (N : Env → Heap → Prop) : Prop :=
  ∃ env' H', evOps C.P (pickC C.loud d (callW C)) ops l env H = some (env', H') ∧ N env' H'

def Next (N : Env → Heap → Prop) (Q : X → Env → Heap → Prop) : X → Env → Heap → Prop
  | .normal, e, h => N e h
  | x, e, h => Q x e h

def InBlock (id : Nat) (Q : X → Env → Heap → Prop) : X → Env → Heap → Prop
  | .exit j, e, h => Q (if j = id then .normal else .exit j) e h
  | x, e, h => Q x e h

section
variable {C : Ctx} {f : FuncId} {h0 : Nat} {env : Env} {H : Heap} {Q : X → Env → Heap → Prop} {N : Env → Heap → Prop} {d : Bool} {ops : Array Oper}

theorem runs_skip (h : Q .normal env H) : Runs C f h0 .skip env H Q := ⟨_, _, _, codeW_skip, h⟩
theorem runs_ret (h : Q .ret env H) : Runs C f h0 .ret env H Q := ⟨_, _, _, codeW_ret, h⟩
theorem runs_exit {id : Nat} (h : Q (.exit id) env H) : Runs C f h0 (.exit id) env H Q := ⟨_, _, _, codeW_exit, h⟩

theorem runs_seq {a b : Code} (h : Runs C f h0 a env H (Next (fun e h => Runs C f h0 b e h Q) Q)) : Runs C f h0 (.seq a b) env H Q := by
  obtain ⟨x, e, h1, h2, h3⟩ := h
  cases x with
  | normal =>
    obtain ⟨x', e', h', p1, p2⟩ := h3
    exact ⟨x', e', h', by rw [codeW_seq, h2]; exact p1, p2⟩
  | exit id => exact ⟨_, _, _, by rw [codeW_seq, h2], h3⟩
  | ret => exact ⟨_, _, _, by rw [codeW_seq, h2], h3⟩

theorem runs_block {id : Nat} {b : Code} (h : Runs C f h0 b env H (InBlock id Q)) : Runs C f h0 (.block id b) env H Q := by
  obtain ⟨x, e, h1, h2, h3⟩ := h
  cases x with
  | normal => exact ⟨_, _, _, by rw [codeW_block, h2], h3⟩
  | exit id => exact ⟨_, _, _, by rw [codeW_block, h2], h3⟩
  | ret => exact ⟨_, _, _, by rw [codeW_block, h2], h3⟩

theorem runs_cond {c : Operand} {a b : Code} {t : Bool} (hc : evO env c = .bool t) (ht : t = true → Runs C f h0 a env H Q) (hf : t = false → Runs C f h0 b env H Q) : Runs C f h0 (.cond c a b) env H Q := by
  have key : Runs C f h0 (if t then a else b) env H Q := by cases t; exact hf rfl; exact ht rfl
  obtain ⟨x, e, h1, h2, h3⟩ := key
  exact ⟨x, e, h1, by rw [codeW_cond, hc]; exact h2, h3⟩

theorem runs_region {id : Nat} (hf : C.free f id = []) (h : Ops C d ops ops.toList env H (Q .normal)) : Runs C f h0 (.region id ops d) env H Q := by
  obtain ⟨e, h1, h2, h3⟩ := h
  exact ⟨_, _, _, by rw [codeW_region, hf, h2]; rfl, h3⟩

theorem ops_nil (h : N env H) : Ops C d ops [] env H N := ⟨_, _, rfl, h⟩

theorem ops_yes {o : Oper} {r : List Oper} {v : V} {H' : Heap} (hw : wantedV ops env o = .yes) (he : evOp C.P (pickC C.loud d (callW C) o.op) env H o = some (v, H')) (h : Ops C d ops r (env.put o.dst v) H' N) : Ops C d ops (o :: r) env H N := by
  obtain ⟨e, h1, h2, h3⟩ := h
  exact ⟨e, h1, by simp only [evOps, hw, he]; exact h2, h3⟩

theorem ops_no {o : Oper} {r : List Oper} (hw : wantedV ops env o = .no) (h : Ops C d ops r (env.put o.dst (.tuple [])) H N) : Ops C d ops (o :: r) env H N := by
  obtain ⟨e, h1, h2, h3⟩ := h
  exact ⟨e, h1, by simp only [evOps, hw]; exact h2, h3⟩

theorem runs_loop {b : Code} (J : Nat → Env → Heap → Prop) {e0 : Env} {H0 : Heap} {n : Nat} (hh : headE C f h0 b env H = some (e0, H0)) (hJ : J n e0 H0)
    (round : ∀ n e h, J n e h → Runs C f h0 b e h (Next (fun e' h' => ∃ m e1 h1, headE C f h0 b e' h' = some (e1, h1) ∧ m < n ∧ J m e1 h1) Q)) : Runs C f h0 (.loop b) env H Q := by
  have key : ∀ n e h, J n e h → ∃ x e' h', loopW C f h0 b e h = some (x, e', h') ∧ Q x e' h' := by
    intro n
    induction n using Nat.strongRecOn with
    | _ n ih =>
      intro e h hJ
      obtain ⟨x, e1, h1, p1, p2⟩ := round n e h hJ
      cases x with
      | normal =>
        obtain ⟨m, e2, h2, q1, q2, q3⟩ := p2
        obtain ⟨x', e', h', r1, r2⟩ := ih m q2 e2 h2 q3
        refine ⟨x', e', h', ?_, r2⟩
        unfold loopW
        rw [p1]
        simp only
        rw [codeW_loop, q1]
        exact r1
      | exit id => exact ⟨_, _, _, by unfold loopW; rw [p1], p2⟩
      | ret => exact ⟨_, _, _, by unfold loopW; rw [p1], p2⟩
  obtain ⟨x, e', h', r1, r2⟩ := key n e0 H0 hJ
  exact ⟨x, e', h', by rw [codeW_loop, hh]; exact r1, r2⟩

theorem Runs.mono {c : Code} {Q' : X → Env → Heap → Prop} (h : Runs C f h0 c env H Q) (hq : ∀ x e h, Q x e h → Q' x e h) : Runs C f h0 c env H Q' := by
  obtain ⟨x, e, h1, p1, p2⟩ := h
  exact ⟨x, e, h1, p1, hq _ _ _ p2⟩

/-- How a body ends. -/
def Ends (C : Ctx) (rs : List ResultVar) (h0 : Nat) (R : V → Heap → Prop) : X → Env → Heap → Prop
  | .exit _, _, _ => False
  | _, env, H => ∃ vs r H', resultsV C.P env H rs = some vs ∧ expo h0 (resV vs) H = some (r, H') ∧ R r H'

/-- A function's body runs. -/
def Body.Gives (C : Ctx) (f : FuncId) (args : List V) (H : Heap) (R : V → Heap → Prop) : Prop := ∃ r H', bodyW C f args H = some (r, H') ∧ R r H'

theorem gives_body {fn : Body} {args : List V} {R : V → Heap → Prop} (hb : C.body f = some fn) (hl : args.length ≤ fn.ntmps) (h : Runs C f H.length fn.code (argEnv args 0) H (Ends C fn.results H.length R)) : Body.Gives C f args H R := by
  obtain ⟨x, e, h1, p1, p2⟩ := h
  unfold Body.Gives
  rw [bodyW_def, hb]
  simp only
  rw [if_pos hl, p1]
  cases x with
  | exit id => exact p2.elim
  | normal =>
    obtain ⟨vs, r, H', q1, q2, q3⟩ := p2
    simp only
    rw [q1]
    exact ⟨r, H', q2, q3⟩
  | ret =>
    obtain ⟨vs, r, H', q1, q2, q3⟩ := p2
    simp only
    rw [q1]
    exact ⟨r, H', q2, q3⟩

end

end Go.Abs

namespace Go.Abs
open Go.RowKit
set_option linter.unusedVariables false
set_option linter.unusedSimpArgs false

/-- An operation without its place in the text. -/
structure Sop where
  dst : Option Nat
  op : Op
  type : Nat
  guard : Option (Option Nat × Bool)

inductive SC where
  | skip | ret | bad
  | exit (id : Nat)
  | region (draw : Bool) (ops : List Sop)
  | regionF (draw : Bool) (fl : List Nat) (ops : List Sop)
  | seq (a b : SC)
  | cond (c : Operand) (a b : SC)
  | block (id : Nat) (b : SC)
  | loop (key : Nat) (b : SC)

def sopOf (ops : Array Oper) (o : Oper) : Sop := ⟨o.dst, o.op, o.type, o.guard.map fun g => ((ops[g.1]?).bind (·.dst), g.2)⟩

/-- The code in short; 'fr': what each region reads in no order. -/
def scOfF (fr : Nat → List Nat) : Code → SC
  | .skip => .skip
  | .ret => .ret
  | .exit id => .exit id
  | .region id ops draw => match fr id with
    | [] => .region draw (ops.toList.map (sopOf ops))
    | fl => .regionF draw fl (ops.toList.map (sopOf ops))
  | .seq a b => .seq (scOfF fr a) (scOfF fr b)
  | .cond c a b => .cond c (scOfF fr a) (scOfF fr b)
  | .block id b => .block id (scOfF fr b)
  | .loop b => .loop (loopKey b) (scOfF fr b)
  | _ => .bad
abbrev scOf (c : Code) : SC := scOfF (fun _ => []) c
theorem scOfF_region {fr : Nat → List Nat} {id : Nat} {ops : Array Oper} {draw d : Bool} {l : List Sop} (h : scOfF fr (.region id ops draw) = .region d l) : fr id = [] ∧ draw = d ∧ ops.toList.map (sopOf ops) = l := by
  simp only [scOfF] at h
  cases hf : fr id with
  | nil => rw [hf] at h; cases h; exact ⟨rfl, rfl, rfl⟩
  | cons a b => rw [hf] at h; cases h
theorem scOfF_regionF {fr : Nat → List Nat} {id : Nat} {ops : Array Oper} {draw d : Bool} {fl : List Nat} {l : List Sop} (h : scOfF fr (.region id ops draw) = .regionF d fl l) : fr id = fl ∧ fl ≠ [] ∧ draw = d ∧ ops.toList.map (sopOf ops) = l := by
  simp only [scOfF] at h
  cases hf : fr id with
  | nil => rw [hf] at h; cases h
  | cons a b => rw [hf] at h; cases h; exact ⟨rfl, by simp, rfl, rfl⟩
theorem scOfF_region_ne {fr : Nat → List Nat} {id : Nat} {ops : Array Oper} {draw : Bool} {s : SC} (h : scOfF fr (.region id ops draw) = s) : (∃ d l, s = .region d l) ∨ ∃ d fl l, s = .regionF d fl l := by
  simp only [scOfF] at h
  cases hf : fr id with
  | nil => rw [hf] at h; exact .inl ⟨_, _, h.symm⟩
  | cons a b => rw [hf] at h; exact .inr ⟨_, _, _, h.symm⟩

/-- One operation. -/
def ev1 (P : Program) (call : CallV) (env : Env) (H : Heap) (op : Op) (t : Nat) : Option (V × Heap) := evOp P call env H ⟨none, op, t, "", #[], none⟩

theorem ev1_eq {P : Program} {call : CallV} {env : Env} {H : Heap} {o : Oper} : evOp P call env H o = ev1 P call env H o.op o.type := by
  obtain ⟨dst, op, type, pos, after, guard⟩ := o
  cases op
  case call c => obtain ⟨callee, args, ats⟩ := c; cases callee <;> rfl
  case makeFunc fn _ _ => cases fn <;> rfl
  case makeMap t r => cases r <;> rfl
  case slice t x lo hi mx => cases mx <;> rfl
  all_goals rfl

/-- Is an operation to run? -/
def want1 (env : Env) : Option (Option Nat × Bool) → Wanted
  | none => .yes
  | some (none, _) => .no
  | some (some d, want) => match env.get d with
    | .bool b => if b = want then .yes else .no
    | .tuple [] => .no
    | _ => .stuck

theorem want1_eq {ops : Array Oper} {env : Env} {o : Oper} : wantedV ops env o = want1 env (sopOf ops o).guard := by
  unfold wantedV sopOf
  cases o.guard with
  | none => rfl
  | some g =>
    obtain ⟨j, w⟩ := g
    simp only [Option.map_some]
    cases (ops[j]?).bind (·.dst) <;> rfl

def evS (P : Program) (call : Op → CallV) : List Sop → Env → Heap → Option (Env × Heap)
  | [], env, H => some (env, H)
  | o :: r, env, H => match want1 env o.guard with
    | .yes => match ev1 P (call o.op) env H o.op o.type with
      | some (v, H') => evS P call r (env.put o.dst v) H'
      | none => none
    | .no => evS P call r (env.put o.dst (.tuple [])) H
    | .stuck => none

theorem evS_eq {P : Program} {call : Op → CallV} {ops : Array Oper} : ∀ {l : List Oper} {env : Env} {H : Heap}, evOps P call ops l env H = evS P call (l.map (sopOf ops)) env H
  | [], env, H => rfl
  | o :: r, env, H => by
    simp only [evOps, evS, List.map_cons, want1_eq, ev1_eq]
    simp only [show (sopOf ops o).op = o.op from rfl, show (sopOf ops o).type = o.type from rfl, show (sopOf ops o).dst = o.dst from rfl]
    cases want1 env (sopOf ops o).guard with
    | yes =>
      simp only
      cases ev1 P (call o.op) env H o.op o.type with
      | none => rfl
      | some vh => exact evS_eq
    | no => exact evS_eq
    | stuck => rfl

section
variable {C : Ctx} {f : FuncId} {h0 : Nat} {env : Env} {H : Heap} {Q : X → Env → Heap → Prop} {N : Env → Heap → Prop} {d : Bool}

/-- Code of this form runs, and in the end Q holds. -/
def Go1 (C : Ctx) (f : FuncId) (h0 : Nat) (s : SC) (env : Env) (H : Heap) (Q : X → Env → Heap → Prop) : Prop := ∀ c, scOfF (C.free f) c = s → True → Runs C f h0 c env H Q

def Op1 (C : Ctx) (d : Bool) (l : List Sop) (env : Env) (H : Heap) (N : Env → Heap → Prop) : Prop :=
  ∃ env' H', evS C.P (pickC C.loud d (callW C)) l env H = some (env', H') ∧ N env' H'

theorem go_skip (h : Q .normal env H) : Go1 C f h0 .skip env H Q := fun c hc hnf => by
  cases c
  case region => rcases scOfF_region_ne hc with ⟨_, _, h⟩ | ⟨_, _, _, h⟩ <;> cases h
  all_goals (simp only [scOfF] at hc <;> first | exact runs_skip h | cases hc)
theorem go_ret (h : Q .ret env H) : Go1 C f h0 .ret env H Q := fun c hc hnf => by
  cases c
  case region => rcases scOfF_region_ne hc with ⟨_, _, h⟩ | ⟨_, _, _, h⟩ <;> cases h
  all_goals (simp only [scOfF] at hc <;> first | exact runs_ret h | cases hc)
theorem go_exit {id : Nat} (h : Q (.exit id) env H) : Go1 C f h0 (.exit id) env H Q := fun c hc hnf => by
  cases c
  case region => rcases scOfF_region_ne hc with ⟨_, _, h⟩ | ⟨_, _, _, h⟩ <;> cases h
  all_goals (simp only [scOfF] at hc <;> first | (cases hc; exact runs_exit h) | cases hc)
theorem go_seq {a b : SC} (h : Go1 C f h0 a env H (Next (fun e h => Go1 C f h0 b e h Q) Q)) : Go1 C f h0 (.seq a b) env H Q := fun c hc hnf => by
  cases c
  case region => rcases scOfF_region_ne hc with ⟨_, _, h⟩ | ⟨_, _, _, h⟩ <;> cases h
  all_goals (simp only [scOfF] at hc)
  all_goals try (cases hc; done)
  rename_i c1 c2
  cases hc
  exact runs_seq ((h c1 rfl hnf).mono fun x e h hx => by
    cases x with
    | normal => exact hx c2 rfl hnf
    | exit id => exact hx
    | ret => exact hx)
theorem go_block {id : Nat} {b : SC} (h : Go1 C f h0 b env H (InBlock id Q)) : Go1 C f h0 (.block id b) env H Q := fun c hc hnf => by
  cases c
  case region => rcases scOfF_region_ne hc with ⟨_, _, h⟩ | ⟨_, _, _, h⟩ <;> cases h
  all_goals (simp only [scOfF] at hc)
  all_goals try (cases hc; done)
  rename_i id' c1
  cases hc
  exact runs_block (h c1 rfl hnf)
theorem go_cond {cd : Operand} {a b : SC} (t : Bool) (hc : evO env cd = .bool t) (ht : t = true → Go1 C f h0 a env H Q) (hf : t = false → Go1 C f h0 b env H Q) : Go1 C f h0 (.cond cd a b) env H Q := fun c hcc hnf => by
  cases c
  case region => rcases scOfF_region_ne hcc with ⟨_, _, h⟩ | ⟨_, _, _, h⟩ <;> cases h
  all_goals (simp only [scOfF] at hcc)
  all_goals try (cases hcc; done)
  rename_i cd' c1 c2
  cases hcc
  exact runs_cond hc (fun h => ht h c1 rfl hnf) (fun h => hf h c2 rfl hnf)
theorem go_region {l : List Sop} (h : Op1 C d l env H (Q .normal)) : Go1 C f h0 (.region d l) env H Q := fun c hc hnf => by
  cases c
  case region id ops d' =>
    obtain ⟨hf, rfl, rfl⟩ := scOfF_region hc
    obtain ⟨e, h1, h2, h3⟩ := h
    exact runs_region hf ⟨e, h1, by rw [evS_eq]; exact h2, h3⟩
  all_goals (simp only [scOfF] at hc; cases hc)

theorem op_nil (h : N env H) : Op1 C d [] env H N := ⟨_, _, rfl, h⟩
theorem op_yes {dst : Option Nat} {op : Op} {t : Nat} {g : Option (Option Nat × Bool)} {r : List Sop} {v : V} {H' : Heap} (hw : want1 env g = .yes) (he : ev1 C.P (pickC C.loud d (callW C) op) env H op t = some (v, H')) (h : Op1 C d r (env.put dst v) H' N) : Op1 C d (⟨dst, op, t, g⟩ :: r) env H N := by
  obtain ⟨e, h1, h2, h3⟩ := h
  exact ⟨e, h1, by simp only [evS, hw, he]; exact h2, h3⟩
theorem op_no {dst : Option Nat} {op : Op} {t : Nat} {g : Option (Option Nat × Bool)} {r : List Sop} (hw : want1 env g = .no) (h : Op1 C d r (env.put dst (.tuple [])) H N) : Op1 C d (⟨dst, op, t, g⟩ :: r) env H N := by
  obtain ⟨e, h1, h2, h3⟩ := h
  exact ⟨e, h1, by simp only [evS, hw]; exact h2, h3⟩

def headK (C : Ctx) (f : FuncId) (h0 key : Nat) (env : Env) (H : Heap) : Option (Env × Heap) := match C.keep f key with
  | some ks => atHead h0 ks env H
  | none => some (env, H)

theorem go_loop {b : SC} {key : Nat} (J : Nat → Env → Heap → Prop) {e0 : Env} {H0 : Heap} {n : Nat} (hh : headK C f h0 key env H = some (e0, H0)) (hJ : J n e0 H0)
    (round : ∀ n e h, J n e h → Go1 C f h0 b e h (Next (fun e' h' => ∃ m e1 h1, headK C f h0 key e' h' = some (e1, h1) ∧ m < n ∧ J m e1 h1) Q)) : Go1 C f h0 (.loop key b) env H Q := fun c hc hnf => by
  cases c
  case region => rcases scOfF_region_ne hc with ⟨_, _, h⟩ | ⟨_, _, _, h⟩ <;> cases h
  all_goals (simp only [scOfF] at hc)
  all_goals try (cases hc; done)
  rename_i c1
  cases hc
  exact runs_loop J hh hJ fun n e h hJ => round n e h hJ c1 rfl hnf

theorem go_body {fn : Body} {args : List V} {R : V → Heap → Prop} {s : SC} (hb : C.body f = some fn) (hs : scOfF (C.free f) fn.code = s) (hl : args.length ≤ fn.ntmps) (h : Go1 C f H.length s (argEnv args 0) H (Ends C fn.results H.length R)) : Body.Gives C f args H R :=
  gives_body hb hl (h fn.code hs trivial)


/-- Is this a read that may be done in another order? -/
def freeS (fl : List Nat) (dst : Option Nat) (op : Op) : Bool := readOp op && (match dst with | some d => fl.contains d | none => false)

def okAt (C : Ctx) (d : Bool) (e : Env) (op : Op) (t : Nat) (v : V) (H : Heap) : Prop := ∃ v' H', ev1 C.P (pickC C.loud d (callW C) op) e H op t = some (v', H') ∧ beqV v' v = true

structure Ob where
  e : Env
  op : Op
  t : Nat
  v : V
def allAt (C : Ctx) (d : Bool) (obl : List Ob) (H : Heap) : Prop := ∀ o ∈ obl, okAt C d o.e o.op o.t o.v H

/-- The heaps of a region's states. -/
def heapsS (P : Program) (call : Op → CallV) : List Sop → Env → Heap → List Heap
  | [], env, H => [H]
  | o :: r, env, H => H :: match want1 env o.guard with
    | .yes => match ev1 P (call o.op) env H o.op o.type with
      | some (v, H') => heapsS P call r (env.put o.dst v) H'
      | none => []
    | .no => heapsS P call r (env.put o.dst (.tuple [])) H
    | .stuck => []

/-- What each free read must read at all times. -/
def freeR (C : Ctx) (d : Bool) (fl : List Nat) (hs : List Heap) : List Sop → Env → Heap → Prop
  | [], _, _ => True
  | o :: r, env, H => match want1 env o.guard with
    | .yes => match ev1 C.P (pickC C.loud d (callW C) o.op) env H o.op o.type with
      | some (v, H') => (freeS fl o.dst o.op = true → ∀ h ∈ hs, okAt C d env o.op o.type v h) ∧ freeR C d fl hs r (env.put o.dst v) H'
      | none => False
    | .no => freeR C d fl hs r (env.put o.dst (.tuple [])) H
    | .stuck => False

theorem states_heaps {P : Program} {call : Op → CallV} {ops : Array Oper} : ∀ (l : List Oper) (env : Env) (H : Heap), (states P call ops l env H).map (·.2) = heapsS P call (l.map (sopOf ops)) env H
  | [], env, H => rfl
  | o :: l, env, H => by
    simp only [states, heapsS, List.map_cons]
    congr 1
    rw [want1_eq]
    cases want1 env (sopOf ops o).guard with
    | stuck => rfl
    | no => exact states_heaps l _ _
    | yes =>
      simp only
      rw [show ev1 P (call (sopOf ops o).op) env H (sopOf ops o).op (sopOf ops o).type = evOp P (call o.op) env H o from ev1_eq.symm]
      cases evOp P (call o.op) env H o with
      | none => rfl
      | some vh => exact states_heaps l _ _

theorem free_all {fl : List Nat} {ops : Array Oper} {S : List (Env × Heap)} : ∀ (l : List Oper) (env : Env) (H : Heap), freeR C d fl (S.map (·.2)) (l.map (sopOf ops)) env H →
    ((l.zip (states C.P (pickC C.loud d (callW C)) ops l env H)).all fun x => !isFree fl x.1 || (match wantedV ops x.2.1 x.1 with | .yes => false | _ => true) || S.all fun st => sameR (evOp C.P (pickC C.loud d (callW C) x.1.op) x.2.1 st.2 x.1) (evOp C.P (pickC C.loud d (callW C) x.1.op) x.2.1 x.2.2 x.1)) = true
  | [], _, _, _ => rfl
  | o :: l, env, H, h => by
    simp only [List.map_cons, freeR] at h
    simp only [states, List.zip_cons_cons, List.all_cons, Bool.and_eq_true]
    rw [want1_eq]
    cases hw : want1 env (sopOf ops o).guard with
    | stuck => rw [hw] at h; exact h.elim
    | no =>
      rw [hw] at h
      exact ⟨by simp, free_all l _ _ h⟩
    | yes =>
      rw [hw] at h
      simp only at h ⊢
      rw [show ev1 C.P (pickC C.loud d (callW C) (sopOf ops o).op) env H (sopOf ops o).op (sopOf ops o).type = evOp C.P (pickC C.loud d (callW C) o.op) env H o from ev1_eq.symm] at h
      cases he : evOp C.P (pickC C.loud d (callW C) o.op) env H o with
      | none => rw [he] at h; exact h.elim
      | some vh =>
        obtain ⟨v, H'⟩ := vh
        rw [he] at h
        simp only at h ⊢
        refine ⟨?_, free_all l _ _ h.2⟩
        by_cases hf : isFree fl o = true
        · have h1 := h.1 hf
          simp only [Bool.or_eq_true]
          right
          rw [List.all_eq_true]
          intro st hst
          obtain ⟨v', H2, h2, h3⟩ := h1 st.2 (List.mem_map_of_mem hst)
          have h4 : evOp C.P (pickC C.loud d (callW C) o.op) env st.2 o = some (v', H2) := ev1_eq.trans h2
          rw [h4]
          exact h3
        · simp [show isFree fl o = false by simpa using hf]

/-- A region with reads in no order; 'past': the heaps before, 'obl': what was read. -/
structure OpF (C : Ctx) (d : Bool) (fl : List Nat) (past : List Heap) (obl : List Ob) (l : List Sop) (env : Env) (H : Heap) (N : Env → Heap → Prop) : Prop where
  ex : ∃ env' H', evS C.P (pickC C.loud d (callW C)) l env H = some (env', H') ∧ N env' H' ∧ (∀ h ∈ heapsS C.P (pickC C.loud d (callW C)) l env H, allAt C d obl h) ∧ (∀ hs, (∀ h ∈ hs, h ∈ past ∨ h ∈ heapsS C.P (pickC C.loud d (callW C)) l env H) → freeR C d fl hs l env H)

theorem go_regionF {fl : List Nat} {l : List Sop} (h : OpF C d fl [] [] l env H (Q .normal)) : Go1 C f h0 (.regionF d fl l) env H Q := fun c hc hnf => by
  cases c
  case region id ops d' =>
    obtain ⟨hf, hne, rfl, rfl⟩ := scOfF_regionF hc
    obtain ⟨⟨e, h1, h2, h3, h4, h5⟩⟩ := h
    have hfr : freeAll C.P (pickC C.loud d' (callW C)) fl ops env H = true := by
      unfold freeAll
      cases fl with
      | nil => exact absurd rfl hne
      | cons a b =>
        simp only
        unfold freeOk
        refine free_all ops.toList env H (h5 _ fun h hh => .inr ?_)
        rw [← states_heaps]
        exact hh
    rw [← evS_eq] at h2
    exact ⟨_, _, _, by rw [codeW_region, hf, if_pos hfr, h2]; rfl, h3⟩
  all_goals (simp only [scOfF] at hc; cases hc)

section
variable {fl : List Nat} {past : List Heap} {obl : List Ob} {dst : Option Nat} {op : Op} {t : Nat} {g : Option (Option Nat × Bool)} {r : List Sop} {v : V} {H' : Heap}
theorem opF_nil (ho : allAt C d obl H) (h : N env H) : OpF C d fl past obl [] env H N := ⟨⟨_, _, rfl, h, fun h' hh => by rw [List.mem_singleton.1 hh]; exact ho, fun _ _ => trivial⟩⟩
theorem opF_no (hw : want1 env g = .no) (h : OpF C d fl past obl r (env.put dst (.tuple [])) H N) : OpF C d fl past obl (⟨dst, op, t, g⟩ :: r) env H N := by
  obtain ⟨⟨e, h1, h2, h3, h4, h5⟩⟩ := h
  have hH : H ∈ heapsS C.P (pickC C.loud d (callW C)) r (env.put dst (.tuple [])) H := by cases r <;> simp [heapsS]
  refine ⟨⟨e, h1, by simp only [evS, hw]; exact h2, h3, fun h' hh => ?_, fun hs hh => ?_⟩⟩
  · simp only [heapsS, hw, List.mem_cons] at hh
    rcases hh with rfl | hh
    · exact h4 _ hH
    · exact h4 _ hh
  · simp only [freeR, hw]
    refine h5 hs fun h' hm => ?_
    rcases hh h' hm with h6 | h6
    · exact .inl h6
    · simp only [heapsS, hw, List.mem_cons] at h6
      rcases h6 with rfl | h6
      · exact .inr hH
      · exact .inr h6
/-- An operation that leaves memory as it is. -/
theorem opF_same (hn : freeS fl dst op = false) (hw : want1 env g = .yes) (he : ev1 C.P (pickC C.loud d (callW C) op) env H op t = some (v, H)) (h : OpF C d fl past obl r (env.put dst v) H N) : OpF C d fl past obl (⟨dst, op, t, g⟩ :: r) env H N := by
  obtain ⟨⟨e, h1, h2, h3, h4, h5⟩⟩ := h
  have hH : H ∈ heapsS C.P (pickC C.loud d (callW C)) r (env.put dst v) H := by cases r <;> simp [heapsS]
  refine ⟨⟨e, h1, by simp only [evS, hw, he]; exact h2, h3, fun h' hh => ?_, fun hs hh => ?_⟩⟩
  · simp only [heapsS, hw, he, List.mem_cons] at hh
    rcases hh with rfl | hh
    · exact h4 _ hH
    · exact h4 _ hh
  · simp only [freeR, hw, he, hn, Bool.false_eq_true, false_implies, true_and]
    refine h5 hs fun h' hm => ?_
    rcases hh h' hm with h6 | h6
    · exact .inl h6
    · simp only [heapsS, hw, he, List.mem_cons] at h6
      rcases h6 with rfl | h6
      · exact .inr hH
      · exact .inr h6
/-- An operation that changes memory. -/
theorem opF_step (hn : freeS fl dst op = false) (hw : want1 env g = .yes) (he : ev1 C.P (pickC C.loud d (callW C) op) env H op t = some (v, H')) (ho : allAt C d obl H) (h : OpF C d fl (H :: past) obl r (env.put dst v) H' N) : OpF C d fl past obl (⟨dst, op, t, g⟩ :: r) env H N := by
  obtain ⟨⟨e, h1, h2, h3, h4, h5⟩⟩ := h
  refine ⟨⟨e, h1, by simp only [evS, hw, he]; exact h2, h3, fun h' hh => ?_, fun hs hh => ?_⟩⟩
  · simp only [heapsS, hw, he, List.mem_cons] at hh
    rcases hh with rfl | hh
    · exact ho
    · exact h4 _ hh
  · simp only [freeR, hw, he, hn, Bool.false_eq_true, false_implies, true_and]
    refine h5 hs fun h' hm => ?_
    rcases hh h' hm with h6 | h6
    · exact .inl (List.mem_cons_of_mem _ h6)
    · simp only [heapsS, hw, he, List.mem_cons] at h6
      rcases h6 with rfl | h6
      · exact .inl (List.mem_cons_self ..)
      · exact .inr h6
/-- A read in no order. -/
theorem opF_free (hw : want1 env g = .yes) (he : ev1 C.P (pickC C.loud d (callW C) op) env H op t = some (v, H)) (hp : ∀ h ∈ past, okAt C d env op t v h) (h : OpF C d fl past (⟨env, op, t, v⟩ :: obl) r (env.put dst v) H N) : OpF C d fl past obl (⟨dst, op, t, g⟩ :: r) env H N := by
  obtain ⟨⟨e, h1, h2, h3, h4, h5⟩⟩ := h
  have hH : H ∈ heapsS C.P (pickC C.loud d (callW C)) r (env.put dst v) H := by cases r <;> simp [heapsS]
  refine ⟨⟨e, h1, by simp only [evS, hw, he]; exact h2, h3, fun h' hh => ?_, fun hs hh => ?_⟩⟩
  · simp only [heapsS, hw, he, List.mem_cons] at hh
    intro o ho
    rcases hh with rfl | hh
    · exact h4 _ hH o (List.mem_cons_of_mem _ ho)
    · exact h4 _ hh o (List.mem_cons_of_mem _ ho)
  · simp only [freeR, hw, he]
    refine ⟨fun _ h' hm => ?_, h5 hs fun h' hm => ?_⟩
    · rcases hh h' hm with h6 | h6
      · exact hp _ h6
      · simp only [heapsS, hw, he, List.mem_cons] at h6
        rcases h6 with rfl | h6
        · exact h4 _ hH _ (List.mem_cons_self ..)
        · exact h4 _ h6 _ (List.mem_cons_self ..)
    · rcases hh h' hm with h6 | h6
      · exact .inl h6
      · simp only [heapsS, hw, he, List.mem_cons] at h6
        rcases h6 with rfl | h6
        · exact .inr hH
        · exact .inr h6
end

end

end Go.Abs

namespace Go.Abs
open Go.RowKit
set_option linter.unusedVariables false

/-- An evaluation's outcome. -/
def Is {α : Type} (a : Option α) (b : α) : Prop := a = some b
theorem is_rfl {α : Type} {b : α} : Is (some b) b := rfl
theorem is_ok {C : Ctx} {d : Bool} {env : Env} {H H' : Heap} {N : Env → Heap → Prop} {dst : Option Nat} {op : Op} {t : Nat} {g : Option (Option Nat × Bool)} {r : List Sop} {v : V} (hw : want1 env g = .yes) (he : Is (ev1 C.P (pickC C.loud d (callW C) op) env H op t) (v, H')) (h : Op1 C d r (env.put dst v) H' N) : Op1 C d (⟨dst, op, t, g⟩ :: r) env H N := op_yes hw he h

section
variable {P : Program} {call : CallV} {env : Env} {H : Heap} {ty : Nat}

@[simp] theorem Env.get_put_lit (e : Env) (d t : Nat) (v : V) : (e.put (some d) v).get t = if t = d then v else e.get t := rfl
@[simp] theorem Env.put_none (e : Env) (v : V) : e.put none v = e := rfl
@[simp] theorem Env.get_nil (t : Nat) : Env.get [] t = .undef := rfl
@[simp] theorem Env.get_cons (d t : Nat) (v : V) (e : List (Nat × V)) : Env.get ((d, v) :: e) t = if t = d then v else Env.get e t := rfl
@[simp] theorem argEnv_nil (i : Nat) : argEnv [] i = [] := rfl
@[simp] theorem argEnv_cons (v : V) (vs : List V) (i : Nat) : argEnv (v :: vs) i = (i, v) :: argEnv vs (i + 1) := rfl
@[simp] theorem evO_tmp (t : Nat) : evO env (.tmp t) = env.get t := rfl
@[simp] theorem evO_func (f : Nat) : evO env (.func f) = .fn f [] := rfl
@[simp] theorem evO_bool (b : Bool) : evO env (.const (.bool b)) = .bool b := rfl
@[simp] theorem evO_int (k : IntKind) (n : Int) : evO env (.const (.int k n)) = .int k n := rfl
@[simp] theorem evO_str (s : ByteArray) : evO env (.const (.string s)) = .str s.data.toList := rfl
@[simp] theorem evO_nil : evO env (.const (.slice none 0 0)) = .nils := rfl
@[simp] theorem evO_nilm : evO env (.const (.map none)) = .nilm := rfl
@[simp] theorem evO_nilx0 : evO env (.const (.pointer none)) = .nilx 0 := rfl
@[simp] theorem evO_nilx1 : evO env (.const .nilFunc) = .nilx 1 := rfl
@[simp] theorem evO_nilx2 : evO env (.const .nilIface) = .nilx 2 := rfl
@[simp] theorem evO_agg (cs : List Value) : evO env (.const (.agg ⟨cs⟩)) = ofVal (.agg ⟨cs⟩) := rfl
@[simp] theorem want1_none : want1 env none = .yes := rfl
@[simp] theorem cells_agg (cs : List V) : (V.agg cs).cells = cs := rfl
@[simp] theorem cells_bool (b : Bool) : (V.bool b).cells = [.bool b] := rfl
@[simp] theorem cells_int (k : IntKind) (n : Int) : (V.int k n).cells = [.int k n] := rfl
@[simp] theorem cells_str (s : List UInt8) : (V.str s).cells = [.str s] := rfl
@[simp] theorem cells_nils : V.nils.cells = [.nils] := rfl
@[simp] theorem cells_nilm : V.nilm.cells = [.nilm] := rfl
@[simp] theorem cells_nilx (k : Nat) : (V.nilx k).cells = [.nilx k] := rfl
@[simp] theorem cells_sl (es : List V) : (V.sl es).cells = [.sl es] := rfl
@[simp] theorem cells_own (b t o l : Nat) : (V.own b t o l).cells = [.own b t o l] := rfl
@[simp] theorem cells_ptr (b t o l : Nat) : (V.ptr b t o l).cells = [.ptr b t o l] := rfl
@[simp] theorem cells_map (b : Nat) : (V.map b).cells = [.map b] := rfl
@[simp] theorem cells_mapr (a b : List V) : (V.mapr a b).cells = [.mapr a b] := rfl
@[simp] theorem st_agg (cs : List V) : (V.agg cs).storable = true := rfl
@[simp] theorem st_bool (b : Bool) : (V.bool b).storable = true := rfl
@[simp] theorem st_int (k : IntKind) (n : Int) : (V.int k n).storable = true := rfl
@[simp] theorem st_str (s : List UInt8) : (V.str s).storable = true := rfl
@[simp] theorem st_nils : V.nils.storable = true := rfl
@[simp] theorem st_nilm : V.nilm.storable = true := rfl
@[simp] theorem st_nilx (k : Nat) : (V.nilx k).storable = true := rfl
@[simp] theorem st_sl (es : List V) : (V.sl es).storable = true := rfl
@[simp] theorem st_own (b t o l : Nat) : (V.own b t o l).storable = true := rfl
@[simp] theorem st_ptr (b t o l : Nat) : (V.ptr b t o l).storable = true := rfl
@[simp] theorem st_map (b : Nat) : (V.map b).storable = true := rfl
@[simp] theorem st_mapr (a b : List V) : (V.mapr a b).storable = true := rfl
@[simp] theorem ag_agg (cs : List V) : (V.agg cs).isAgg = true := rfl
@[simp] theorem ag_bool (b : Bool) : (V.bool b).isAgg = false := rfl
@[simp] theorem ag_int (k : IntKind) (n : Int) : (V.int k n).isAgg = false := rfl
@[simp] theorem ag_str (s : List UInt8) : (V.str s).isAgg = false := rfl
@[simp] theorem ag_nils : V.nils.isAgg = false := rfl
@[simp] theorem ag_nilm : V.nilm.isAgg = false := rfl
@[simp] theorem ag_nilx (k : Nat) : (V.nilx k).isAgg = false := rfl
@[simp] theorem ag_sl (es : List V) : (V.sl es).isAgg = false := rfl
@[simp] theorem ag_own (b t o l : Nat) : (V.own b t o l).isAgg = false := rfl
@[simp] theorem ag_ptr (b t o l : Nat) : (V.ptr b t o l).isAgg = false := rfl
@[simp] theorem ag_map (b : Nat) : (V.map b).isAgg = false := rfl
@[simp] theorem ag_mapr (a b : List V) : (V.mapr a b).isAgg = false := rfl
@[simp] theorem Next_normal {N : Env → Heap → Prop} {Q : X → Env → Heap → Prop} : Next N Q .normal = N := rfl
@[simp] theorem Next_ret {N : Env → Heap → Prop} {Q : X → Env → Heap → Prop} {e : Env} {h : Heap} : Next N Q .ret e h = Q .ret e h := rfl
@[simp] theorem Next_exit {N : Env → Heap → Prop} {Q : X → Env → Heap → Prop} {i : Nat} {e : Env} {h : Heap} : Next N Q (.exit i) e h = Q (.exit i) e h := rfl
@[simp] theorem InBlock_normal {i : Nat} {Q : X → Env → Heap → Prop} {e : Env} {h : Heap} : InBlock i Q .normal e h = Q .normal e h := rfl
@[simp] theorem InBlock_ret {i : Nat} {Q : X → Env → Heap → Prop} {e : Env} {h : Heap} : InBlock i Q .ret e h = Q .ret e h := rfl
@[simp] theorem InBlock_exit {i j : Nat} {Q : X → Env → Heap → Prop} {e : Env} {h : Heap} : InBlock i Q (.exit j) e h = Q (if j = i then .normal else .exit j) e h := rfl

@[simp] theorem ev1_move (x : Operand) : ev1 P call env H (.move x) ty = some (evO env x, H) := rfl
@[simp] theorem ev1_assign (x : Operand) : ev1 P call env H (.assign x) ty = some (ownify (slotSize P ty) (evO env x) H) := rfl
@[simp] theorem ev1_pick (c a b : Operand) : ev1 P call env H (.pick c a b) ty = match evO env c with
    | .bool t => some (if t then evO env a else evO env b, H)
    | _ => none := rfl
@[simp] theorem ev1_box (t : Nat) (x : Operand) : ev1 P call env H (.box t x) ty = if (P.info? t).map (·.size) = some (evO env x).cells.length ∧ (evO env x).storable = true ∧ (evO env x).cells ≠ [] then some (.ptr H.length 1 0 0, H ++ [.box (evO env x)]) else none := rfl
@[simp] theorem ev1_build (t : Nat) (ps : List (Nat × Operand)) : ev1 P call env H (.build t ⟨ps⟩) ty = (buildV P t (ps.map fun p => (p.1, evO env p.2))).map fun v => (v, H) := rfl
@[simp] theorem ev1_buildSlice (t n : Nat) (ps : List (Nat × Operand)) : ev1 P call env H (.buildSlice t n ⟨ps⟩) ty = buildSliceV P t n (ps.map fun p => (p.1, evO env p.2)) H := rfl
@[simp] theorem ev1_load (t : Nat) (a : Operand) : ev1 P call env H (.load t a) ty = (loadV P t (evO env a) H).map fun v => (v, H) := rfl
@[simp] theorem ev1_store (t : Nat) (a x : Operand) : ev1 P call env H (.store t a x) ty = (storeV P t (evO env a) (evO env x) H).map fun H' => (.tuple [], H') := rfl
@[simp] theorem ev1_nilCheck (x : Operand) : ev1 P call env H (.nilCheck x) ty = match evO env x with
    | .ptr b t i o => if live H b t then some (.ptr b t i o, H) else none
    | .rop v => some (.rop v, H)
    | .fn f cs => some (.fn f cs, H)
    | _ => none := rfl
@[simp] theorem ev1_binOp (op : BinOp) (t u : Nat) (x y : Operand) : ev1 P call env H (.binOp op t x y u) ty = (binV P op t (evO env x) (evO env y)).map fun v => (v, H) := rfl
@[simp] theorem ev1_unOp (op : UnOp) (t : Nat) (x : Operand) : ev1 P call env H (.unOp op t x) ty = (unV op (evO env x)).map fun v => (v, H) := rfl
@[simp] theorem ev1_convert (s d : Nat) (x : Operand) : ev1 P call env H (.convert s d x) ty = convV P s d (evO env x) H := rfl
@[simp] theorem ev1_makeMap (t : Nat) : ev1 P call env H (.makeMap t none) ty = some (.map H.length, H ++ [.map true [] []]) := rfl
@[simp] theorem ev1_makeSlice (t : Nat) (l c : Operand) : ev1 P call env H (.makeSlice t l c) ty = makeSliceV P t (evO env l) (evO env c) H := rfl
@[simp] theorem ev1_slice (t : Nat) (x : Operand) (lo hi : Option Operand) : ev1 P call env H (.slice t x lo hi none) ty = (sliceV P t (evO env x) (lo.map (evO env)) (hi.map (evO env)) H).map fun v => (v, H) := rfl
@[simp] theorem ev1_slice3 (t : Nat) (x mx : Operand) (lo hi : Option Operand) : ev1 P call env H (.slice t x lo hi (some mx)) ty = (slice3V P t (evO env x) (lo.map (evO env)) (hi.map (evO env)) (evO env mx) H).map fun v => (v, H) := rfl
@[simp] theorem ev1_fieldAddr (t f : Nat) (x : Operand) : ev1 P call env H (.fieldAddr t x f) ty = (fieldAddrV P t (evO env x) f H).map fun v => (v, H) := rfl
@[simp] theorem ev1_field (t f : Nat) (x : Operand) : ev1 P call env H (.field t x f) ty = match fieldOf P t f, evO env x with
    | some fd, .agg cs => (sub P fd.type (.agg cs) fd.offset).map fun v => (v, H)
    | _, _ => none := rfl
@[simp] theorem ev1_indexAddr (t : Nat) (x i : Operand) : ev1 P call env H (.indexAddr t x i) ty = (indexAddrV P t (evO env x) (evO env i) H).map fun v => (v, H) := rfl
@[simp] theorem ev1_index (t : Nat) (x i : Operand) : ev1 P call env H (.index t x i) ty = (indexV P t (evO env x) (evO env i)).map fun v => (v, H) := rfl
@[simp] theorem ev1_lookup (t : Nat) (m k : Operand) (ok : Bool) : ev1 P call env H (.lookup t m k ok) ty = (lookupV P t (evO env m) (evO env k) ok H).map fun v => (v, H) := rfl
@[simp] theorem ev1_mapUpdate (t : Nat) (m k x : Operand) : ev1 P call env H (.mapUpdate t m k x) ty = (mapUpdateV P t (evO env m) (evO env k) (evO env x) H).map fun H' => (.tuple [], H') := rfl
@[simp] theorem ev1_extract (x : Operand) (i : Nat) : ev1 P call env H (.extract x i) ty = match evO env x with
    | .tuple vs => vs[i]?.map fun v => (v, H)
    | _ => none := rfl
@[simp] theorem ev1_builtin (b : Builtin) (args : List Operand) (ts : List Nat) : ev1 P call env H (.call ⟨.builtin b, ⟨args⟩, ⟨ts⟩⟩) ty = builtinV P b ts (args.map (evO env)) H := rfl
@[simp] theorem pickC_func (ld : FuncId → Bool) (d : Bool) (c : Bool → CallV) (f : Nat) (a : Array Operand) (t : Array Nat) : pickC ld d c (.call ⟨.value (.func f), a, t⟩) = if (d && ld f) = true then lenF (c false) else c d := rfl
@[simp] theorem pickC_tmp (ld : FuncId → Bool) (d : Bool) (c : Bool → CallV) (f : Nat) (a : Array Operand) (t : Array Nat) : pickC ld d c (.call ⟨.value (.tmp f), a, t⟩) = c d := by unfold pickC loudOp; simp
@[simp] theorem lenF_def (c : CallV) (x : V) (xs : List V) : lenF c x xs H = match c x xs H with
  | some (r, H') => if H.length ≤ H'.length then some (r, H') else none
  | none => none := rfl
@[simp] theorem ev1_call (f : Operand) (args : List Operand) (ts : Array Nat) : ev1 P call env H (.call ⟨.value f, ⟨args⟩, ts⟩) ty = call (evO env f) (args.map (evO env)) H := rfl

end

end Go.Abs

