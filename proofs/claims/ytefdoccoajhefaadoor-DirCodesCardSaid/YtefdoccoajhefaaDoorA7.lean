/- Proved here: part 7 of a sound evaluator for the model: what it computes of a call, the call does. No condition. -/
import Derived.Test.YtefdoccoajhefaaDoorA6
import Derived.Lib.Bytealg
namespace Go.Abs
open Go.RowKit
set_option linter.unusedVariables false
set_option linter.unusedSimpArgs false

/-- slices.Insert of one element of two cells, evaluated. -/
def insAtX (bytes : Nat) : List V → Heap → Option (V × Heap)
  | [.own b tot off len, .int .i64 i, .own b2 1 0 1], H => match H[b]?, H[b2]? with
    | some (.dat true s es), some (.dat _ s2 [x]) =>
      if s = 2 ∧ s2 = 2 ∧ off = 0 ∧ len = tot ∧ es.length = tot ∧ 0 ≤ i ∧ i ≤ tot ∧ b ≠ b2 ∧ (tot + 1) * bytes ≤ room ∧ tot + 1 ≤ room then
        some (.own b (tot + 1) 0 (tot + 1), H.set b (.dat true 2 (es.take i.toNat ++ [x] ++ es.drop i.toNat))) else none
    | _, _ => none
  | _, _ => none

/-- What an insertion into the row of block b leaves: the row 'L' ahead in block g. -/
structure InsDone (w w' : World) (b g k cap : Nat) (L : List Value) : Prop where
  at_ : ∃ cs e, w'.heap[g]? = some (.cells cs e (0, 0)) ∧ cap * 2 ≤ cs.size ∧ cs.toList.take (k * 2) = L
  place : g = b ∨ w.heap.size ≤ g
  fits : k ≤ cap
  max : cap ≤ maxLen
  size : w.heap.size ≤ w'.heap.size
  other : ∀ d, d < w.heap.size → d ≠ b → w'.heap[d]? = w.heap[d]?
  shape : ∀ d x, w.shape? d = some x → w'.shape? d = some x
  os : w'.os = w.os
  tape : w'.tape = w.tape
  output : w'.output = w.output

section
variable {P : Program} {base : Nat} {Z : Nat → Prop} {φ : Place} {H : Heap} {w : World}

theorem crel_take {W : Nat → Prop} {cs : List V} {vs : List Value} (h : CRel φ W w cs vs) (n : Nat) : CRel φ W w (cs.take n) (vs.take n) := by
  refine ⟨by rw [List.length_take, List.length_take, h.1], fun v hv => h.2.1 v (List.mem_of_mem_take hv), fun i c v hc hv => ?_⟩
  rw [List.getElem?_take] at hc hv
  split at hc
  · rename_i hi
    rw [if_pos hi] at hv
    exact h.2.2 i c v hc hv
  · cases hc

theorem crel_drop {W : Nat → Prop} {cs : List V} {vs : List Value} (h : CRel φ W w cs vs) (n : Nat) : CRel φ W w (cs.drop n) (vs.drop n) := by
  refine ⟨by rw [List.length_drop, List.length_drop, h.1], fun v hv => h.2.1 v (List.mem_of_mem_drop hv), fun i c v hc hv => ?_⟩
  rw [List.getElem?_drop] at hc hv
  exact h.2.2 _ c v hc hv

theorem insAt_contract {f : FuncId} {bytes : Nat} (hb8 : 1 ≤ bytes)
    (hnil : ∀ (vb vc : Nat) (x y : Value) (w : World), w.cell? ⟨vb, 0, none⟩ = some x → w.cell? ⟨vb, 1, none⟩ = some y → x.oneCell' = true → y.oneCell' = true →
      Calls P f #[.slice none 0 0, .int .i64 0, .slice (some ⟨vb, 0, none⟩) 1 vc] w fun e w' => ∃ g cap, e = .returned (.slice (some ⟨g, 0, none⟩) 1 cap) ∧ w.heap.size ≤ g ∧ InsDone w w' g g 1 cap [x, y])
    (hsome : ∀ (b n c i vb vc : Nat) (x y : Value) (cur vcur : Array Value) (t tv : TypeId) (w : World), i ≤ n → n ≤ c → c ≤ maxLen → (n + 1) * bytes ≤ 140737488355328 → vb ≠ b → w.heap[b]? = some (.cells cur t (0, 0)) → c * 2 ≤ cur.size →
      (∀ v ∈ cur.toList.take (n * 2), v.oneCell' = true) → w.heap[vb]? = some (.cells vcur tv (0, 0)) → vcur[0]? = some x → vcur[1]? = some y → x.oneCell' = true → y.oneCell' = true →
      Calls P f #[.slice (some ⟨b, 0, none⟩) n c, .int .i64 i, .slice (some ⟨vb, 0, none⟩) 1 vc] w fun e w' => ∃ g cap, e = .returned (.slice (some ⟨g, 0, none⟩) (n + 1) cap) ∧
        InsDone w w' b g (n + 1) cap (cur.toList.take (i * 2) ++ [x, y] ++ (cur.toList.take (n * 2)).drop (i * 2)))
    (args : List V) (H : Heap) (r : V) (H' : Heap) (hx : insAtX bytes args H = some (r, H')) (base : Nat) (Z : Nat → Prop) (φ : Place) (w : World) (cargs : Array Value) (I : Inv base Z φ H w) (ha : ArgsRel φ (Wr φ H Z) w args cargs) :
    Calls P f cargs w (fun e w' => ∃ v, e = .returned v ∧ Turns base Z φ H w H' r v w') := by
  unfold insAtX at hx
  split at hx
  case h_2 => cases hx
  rename_i b tot off len i b2
  split at hx
  case h_2 => cases hx
  rename_i s es wr2 s2 nx hH1 hH2
  split at hx
  case isFalse => cases hx
  rename_i hc
  obtain ⟨rfl, rfl, rfl, rfl, ht, hi0, hi1, hne, hby, hrm⟩ := hc
  cases hx
  obtain ⟨c1, c2, c3, rfl, r1, r2, r3⟩ := len_three' ha rfl
  cases r2
  have h2 := own_whole I hH2 rfl r3
  rcases h2 with ⟨_, h0, _⟩ | ⟨vb, vc, vcs, vt, vfr, hvl, rfl, hvc, hvz, _, hvh, _, hnew, hvf, hvr⟩
  · simp at h0
  simp only [List.length_singleton] at hvc
  obtain rfl : vfr = (0, 0) := hvf.2.resolve_left (by decide)
  have hvs : vcs.toList.length = vcs.size := Array.length_toList
  have hnx : nx.cells.length = 2 := hnew 0 nx rfl
  obtain ⟨x, y, hxy⟩ : ∃ x y, vcs.toList.take 2 = [x, y] := by
    have : (vcs.toList.take 2).length = 2 := by rw [List.length_take]; omega
    match h : vcs.toList.take 2, this with
    | [x, y], _ => exact ⟨x, y, rfl⟩
  have hvx : vcs[0]? = some x := by
    have : (vcs.toList.take 2)[0]? = some x := by rw [hxy]; rfl
    rw [List.getElem?_take] at this
    simpa using this
  have hvy : vcs[1]? = some y := by
    have : (vcs.toList.take 2)[1]? = some y := by rw [hxy]; rfl
    rw [List.getElem?_take] at this
    simpa using this
  simp only [List.length_singleton, Nat.one_mul, List.flatMap_cons, List.flatMap_nil, List.append_nil, hxy] at hvr
  have h1x : x.oneCell' = true := hvr.2.1 x (by simp)
  have h1y : y.oneCell' = true := hvr.2.1 y (by simp)
  obtain ⟨k, rfl⟩ : ∃ k : Nat, i = k := ⟨i.toNat, by omega⟩
  simp only [Int.toNat_natCast]
  have hk : k ≤ len := by omega
  have hlt : (es.take k ++ [nx] ++ es.drop k).length = len + 1 := by simp; omega
  have fin : ∀ (g cap : Nat) (L : List Value) (w' : World) (bb : Nat), (φ b = .nil ∧ len = 0 ∧ w.heap.size ≤ bb ∨ φ b = .at bb 2 len) → InsDone w w' bb g (len + 1) cap L → (g = bb → φ b = .nil → w.heap.size ≤ g) → Each 2 (es.take k ++ [nx] ++ es.drop k) → CRel pure0 (Wr φ H Z) w ((es.take k ++ [nx] ++ es.drop k).flatMap V.cells) L →
      Turns base Z φ H w (H.set b (.dat true 2 (es.take k ++ [nx] ++ es.drop k))) (.own b (len + 1) 0 (len + 1)) (.slice (some ⟨g, 0, none⟩) (len + 1) cap) w' := fun g cap L w' bb hp D hnilg hE hL => by
    obtain ⟨cs, e, hh, hcs, htk⟩ := D.at_
    have hbb : ∀ d s' n', φ b = .at d s' n' → d = bb := fun d s' n' h => by
      rcases hp with ⟨hp, _⟩ | hp
      · rw [hp] at h; cases h
      · rw [hp] at h; cases h; rfl
    have hbase : base ≤ bb := by
      rcases hp with ⟨hp, _, hge⟩ | hp
      · exact Nat.le_trans I.hb hge
      · exact (I.rng _ _ _ _ hp).1
    have := e_redo (b := b) (s := 2) (tot := len) (cap := cap) (g := g) (es := es) (es' := es.take k ++ [nx] ++ es.drop k) (w' := w') I
      (by
        rcases hp with ⟨hp, _⟩ | hp
        · exact .inl hp
        · exact .inr ⟨bb, hp⟩) hH1 (by omega) hE (by omega) D.size (fun d hd h => D.other d hd fun hdb => by
        subst hdb
        rcases hp with ⟨hp, _, hge⟩ | hp
        · omega
        · exact h _ _ hp) D.shape ⟨D.os, D.tape, D.output, D.size, fun c hc => by
          have := I.hb
          exact D.other c (by omega) (by omega)⟩
      (by
        rcases D.place with rfl | h
        · rcases hp with ⟨hp, _⟩ | hp
          · exact .inl (hnilg rfl hp)
          · exact .inr hp
        · exact .inl h) hh (Frz.none _ _) (by rw [hlt]; exact D.fits) hcs D.max (by rw [hlt, htk]; exact hL)
    rw [hlt] at this
    exact this
  have hm : 140737488355328 ≥ (len + 1) * bytes := Nat.le_trans hby (by unfold room; decide)
  rcases own_whole I hH1 ht r1 with ⟨hnil', h0, rfl⟩ | ⟨c, cap, cs, t, fr, hl, rfl, hcap, hsz, hmx, hh, h01, hes, hfr, hcr⟩
  · -- the nil slice
    subst h0
    have hes0 : es = [] := List.eq_nil_of_length_eq_zero ht
    subst hes0
    have hk0 : k = 0 := by omega
    subst hk0
    refine Calls.mono (hnil vb vc x y w (by rw [cell_in hvh]; exact hvx) (by rw [cell_in hvh]; exact hvy) h1x h1y) fun z w' ⟨g, cap, he, hg, D⟩ => ⟨_, he, ?_⟩
    exact fin g cap _ w' g (.inl ⟨hnil', rfl, hg⟩) D (fun _ _ => hg) (by simpa using hnew) (by simpa using hvr)
  · obtain rfl : fr = (0, 0) := hfr.2.resolve_left (by decide)
    have hcl : cs.toList.length = cs.size := Array.length_toList
    have hcv : c ≠ vb := by
      rintro rfl
      exact hne (I.inj _ _ _ _ _ _ _ hl hvl)
    refine Calls.mono (hsome c len cap k vb vc x y cs vcs t vt w hk hcap hmx hm (Ne.symm hcv) hh hsz (by rw [← ht]; exact hcr.2.1) hvh hvx hvy h1x h1y) fun z w' ⟨g, cap', he, D⟩ => ⟨_, he, ?_⟩
    refine fin g cap' _ w' c (.inr hl) D (fun h1 h2 => by rw [hl] at h2; cases h2) ((hes.take.append hnew).append hes.drop) ?_
    have e1 : (es.take k ++ [nx] ++ es.drop k).flatMap V.cells = (es.flatMap V.cells).take (k * 2) ++ nx.cells ++ (es.flatMap V.cells).drop (k * 2) := by
      rw [List.flatMap_append, List.flatMap_append, flat_take hes k (by omega), flat_drop hes k (by omega)]
      simp
    have e2 : cs.toList.take (k * 2) = (cs.toList.take (es.length * 2)).take (k * 2) := by rw [List.take_take]; congr 1; omega
    rw [e1, e2, ← ht]
    exact ((crel_take hcr _).append hvr).append (crel_drop hcr _)

end

end Go.Abs

namespace Go.Abs
open Go.RowKit
set_option linter.unusedVariables false
set_option linter.unusedSimpArgs false

/-- strings.Compare, evaluated. -/
def compareX : List V → Option (V × Heap)
  | [.str a, .str b] => some (.int .i64 (Lib.compareBytes a b), [])
  | _ => none

/-- The first place of a byte. -/
def findB (c : UInt8) : List UInt8 → Option Nat
  | [] => none
  | b :: l => if b = c then some 0 else (findB c l).map (· + 1)

/-- stringslite.IndexByte, evaluated. -/
def indexByteX : List V → Option (V × Heap)
  | [.str s, .int .u8 c] => some (.int .i64 (match findB (UInt8.ofNat c.toNat) s with | some n => n | none => -1), [])
  | _ => none

/-- A path cut at its first slash. -/
def cutA (s : List UInt8) : List UInt8 := s.takeWhile (· != 47)
def cutB (s : List UInt8) : List UInt8 := (s.dropWhile (· != 47)).drop 1
/-- The parts of a path that are not empty. -/
def partsF : Nat → List UInt8 → List (List UInt8)
  | 0, _ => []
  | n + 1, s => if s = [] then [] else if cutA s = [] then partsF n (cutB s) else cutA s :: partsF n (cutB s)
/-- Is a text a name? -/
def chOk (c : UInt8) : Bool := decide (33 ≤ c.toNat) && decide (c.toNat ≤ 126) && !(c == 47)
def nameOk (s : List UInt8) : Bool := !(s == []) && !(s == [46]) && !(s == [46, 46]) && decide (s.length ≤ 14) && s.all chOk

/-- dir.Split, evaluated. -/
def splitX : List V → Option (V × Heap)
  | [.str s] => if s = [] then some (.tuple [.bool false, .nils, .int .i64 4], []) else if 256 < s.length then some (.tuple [.bool false, .nils, .int .i64 7], [])
      else if (partsF s.length s).all nameOk then some (.tuple [.bool (s.head? == some 47), .own 0 (partsF s.length s).length 0 (partsF s.length s).length, .int .i64 0], [.dat true 1 ((partsF s.length s).map V.str)])
      else some (.tuple [.bool false, .nils, .int .i64 4], [])
  | _ => none

theorem indexByte_find (c : UInt8) : ∀ s : List UInt8, Lib.indexByte s c = match findB c s with | some n => (n : Int) | none => -1
  | [] => rfl
  | b :: l => by
    have ih := indexByte_find c l
    simp only [Lib.indexByte, findB, ih]
    by_cases h : b = c
    · simp [h]
    · simp only [if_neg h, beq_iff_eq]
      cases findB c l with
      | none => simp
      | some n => simp [show ¬ ((n : Int) = -1) by omega]

section
variable {P : Program}

theorem compare_contract {f : FuncId} (h : ∀ (a b : ByteArray) (w : World), Calls P f #[.string a, .string b] w fun e w' => e = .returned (.int .i64 (Lib.compareBytes a.data.toList b.data.toList)) ∧ w' = w)
    (xs : List V) (r : V) (H' : Heap) (hx : compareX xs = some (r, H')) : Contract P f xs r H' := fun base Z w cargs I ha => by
  unfold compareX at hx
  split at hx
  case h_2 => cases hx
  rename_i a b
  cases hx
  obtain ⟨c1, c2, rfl, h1, h2⟩ := len_two ha rfl
  cases h1
  cases h2
  refine Calls.mono (h _ _ w) fun e w' ⟨he, hw⟩ => ⟨_, he, ?_⟩
  subst hw
  exact turns_below I (.refl _ _) (.int _ _)

theorem indexByte_contract {f : FuncId} (h : ∀ (s : ByteArray) (c : Int) (w : World), Calls P f #[.string s, .int .u8 c] w fun e w' => e = .returned (.int .i64 (Lib.indexByte s.data.toList c.toNat.toUInt8)) ∧ w' = w)
    (xs : List V) (r : V) (H' : Heap) (hx : indexByteX xs = some (r, H')) : Contract P f xs r H' := fun base Z w cargs I ha => by
  unfold indexByteX at hx
  split at hx
  case h_2 => cases hx
  rename_i s c
  cases hx
  obtain ⟨c1, c2, rfl, h1, h2⟩ := len_two ha rfl
  cases h1
  cases h2
  refine Calls.mono (h _ _ w) fun e w' ⟨he, hw⟩ => ⟨_, he, ?_⟩
  subst hw
  refine turns_below I (.refl _ _) ?_
  rw [indexByte_find]
  exact .int _ _

end

end Go.Abs

