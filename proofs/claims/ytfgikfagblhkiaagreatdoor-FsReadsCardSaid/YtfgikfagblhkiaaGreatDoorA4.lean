/- Proved here: part 4 of a sound evaluator for the model: what it computes of a call, the call does. No condition. -/
import Derived.Test.YtfgikfagblhkiaaGreatDoorA3
namespace Go.Abs
open Go.RowKit
set_option linter.unusedVariables false
set_option linter.unusedSimpArgs false

variable {P : Program}

section
variable {base : Nat} {Z : Nat → Prop} {φ : Place} {H HF : Heap} {w : World} {lo hi : Nat} {x y : V} {cv cu cx : Value} {W : Nat → Prop}

theorem e_copy {t u ty : TypeId} {d s r : V} {cd cs : Value} {H' : Heap} (I : Inv base Z φ H w) (hd : VRel φ (Wr φ H Z) w d cd) (hs : VRel φ (Wr φ H Z) w s cs) (h : copyV P t d s H = some (r, H')) :
    ∃ v w', (Builtin.copy_ #[t, u] ty #[cd, cs]).run P w = .ok v w' ∧ Turns base Z φ H w H' r v w' := by
  unfold copyV at h
  split at h
  case h_2 => cases h
  rename_i z new hz hnew
  obtain ⟨e, hue, hie⟩ := elemT_some hz
  split at h
  case isFalse => cases h
  rename_i hall
  have hn := each_all hall
  split at h
  · rename_i b tot off len
    split at h
    case h_2 => cases h
    rename_i sz es hb
    split at h
    case isFalse => cases h
    rename_i hc
    obtain ⟨htot, hol, rfl⟩ := hc
    simp only [Option.some.injEq, Prod.mk.injEq] at h
    obtain ⟨rfl, rfl⟩ := h
    obtain ⟨hlen, us, hus, hcr⟩ := src_ok (P := P) I hs hnew hn (min new.length len) (Nat.min_le_left _ _)
    have hmin : Nat.min new.length len = min new.length len := rfl
    obtain ⟨h0, hr⟩ := own_read I hb htot hd
    rcases hr with ⟨hl, rfl, rfl, rfl, rfl⟩ | ⟨c, hl, hrow, a, cap, t', z', rfl, hsh, hcap, ha, ha0⟩
    · have hset : H.set b (.dat true z.size (([] : List V).take 0 ++ new.take (min new.length 0) ++ ([] : List V).drop (0 + min new.length 0))) = H := by
        apply List.ext_getElem?
        intro i
        rw [List.getElem?_set]
        split
        · rename_i hii; subst hii; rw [if_pos (List.getElem?_eq_some_iff.1 hb).1, hb]; simp
        · rfl
      rw [hset]
      refine ⟨.int .i64 ((min new.length 0 : Nat) : Int), w, ?_, φ, I, .int _ _, .refl .., Nat.le_refl _⟩
      have hl0 := hlen w
      have hu0 := hus w rfl
      simp [Builtin.copy_, run_underlying hue, run_size hie, hl0]
      simp at hu0
      simp [hu0, goInt]
    · have hnt : Each z.size (new.take (min new.length len)) := hn.take
      have hntl : (new.take (min new.length len)).length = min new.length len := by rw [List.length_take]; omega
      obtain ⟨cs', tt, fr, hh, hfr, hsz', hus', hI, hS⟩ := e_over (k := off) I hl hb hnt hcr (by rw [hntl]; omega)
      rw [hntl] at hus' hI hS
      have hmul : (off + min new.length len) * z.size ≤ es.length * z.size := Nat.mul_le_mul_right _ (by omega)
      rw [Nat.add_mul] at hmul
      refine ⟨.int .i64 ((min new.length len : Nat) : Int), _, ?_, φ, hI, .int _ _, hS, by simp⟩
      have hl0 := hlen w
      have hu0 := hus w rfl
      have hst : (storeCells a us.toList).run P w = .ok () (w.setRow c (cs'.toList.take (off * z.size) ++ us.toList ++ cs'.toList.drop (off * z.size + us.toList.length)).toArray) := by
        rcases Nat.eq_zero_or_pos len with hlz | hlp
        · have : us.toList = [] := List.eq_nil_of_length_eq_zero (by rw [Array.length_toList, hus', hlz, Nat.min_zero, Nat.zero_mul])
          rw [this]
          have e1 : (cs'.toList.take (off * z.size) ++ [] ++ cs'.toList.drop (off * z.size + ([] : List Value).length)) = cs'.toList := by simp
          rw [e1]
          have := run_storeCells' (P := P) (c := c) (t := tt) (fr := fr) 0 [] 0 cs' w hh hfr.1 (by simp) (by simp)
          simp at this
          simp only [storeCells] at this ⊢
          simpa using this
        · rw [ha (.inl hlp)]
          have := run_storeCells' (P := P) (c := c) (t := tt) (fr := fr) (off * z.size) us.toList 0 cs' w hh hfr.1 hcr.2.1 (by simp; omega)
          simpa using this
      simp [Builtin.copy_, run_underlying hue, run_size hie, hl0, hmin, hu0, hst, goInt]
  · -- a part of an array in a box
    rename_i b tot i off len
    split at h
    case h_2 => cases h
    rename_i cs0 hb
    split at h
    case isFalse => cases h
    rename_i hc
    obtain ⟨rfl, rfl, hol, hz1⟩ := hc
    simp only [Option.some.injEq, Prod.mk.injEq] at h
    obtain ⟨rfl, rfl⟩ := h
    obtain ⟨hlen, us, hus, hcr⟩ := src_ok (P := P) I hs hnew hn (min new.length len) (Nat.min_le_left _ _)
    have hmin : Nat.min new.length len = min new.length len := rfl
    obtain ⟨c, s, a, cap, hl, rfl, hcap, ha⟩ := view_live I hd (by unfold live; rw [hb]; rfl)
    have hnl : ((new.take (min new.length len)).flatMap V.cells).length = min new.length len := by
      rw [flat_length (s := z.size) _ (fun i e he => hn i e (by
        rw [List.getElem?_take] at he
        split at he
        · exact he
        · cases he)), hz1, Nat.mul_one, List.length_take]
      omega
    generalize hns : (new.take (min new.length len)).flatMap V.cells = ns at hcr hnl
    have hvl : us.toList.length = min new.length len := by rw [← hnl]; exact hcr.1.symm
    obtain ⟨y, hy, hr⟩ := I.blk b c s 1 hl
    rw [hb] at hy
    cases hy
    obtain ⟨_, hs0, cs, tt, fr, hh, hsz', hfr, hel⟩ := hr
    have hes := (hel 0 (.agg cs0) rfl).1
    have hes' : cs0.length = s := hes
    have hcl0 : (V.agg cs0).cells.length = cs0.length := rfl
    have hvl' : us.size = min new.length len := by rw [← hvl]; simp
    simp at hsz'
    have hlt := (List.getElem?_eq_some_iff.1 hb).1
    have hol' : off + min new.length len ≤ cs0.length := by omega
    have hst : (storeCells a us.toList).run P w = .ok () (w.setRow c (cs.toList.take off ++ us.toList ++ cs.toList.drop (off + us.toList.length)).toArray) := by
      rcases Nat.eq_zero_or_pos len with hlz | hlp
      · have : us.toList = [] := List.eq_nil_of_length_eq_zero (by rw [hvl, hlz, Nat.min_zero])
        rw [this]
        have e1 : (cs.toList.take off ++ [] ++ cs.toList.drop (off + ([] : List Value).length)) = cs.toList := by simp
        rw [e1]
        have := run_storeCells' (P := P) (c := c) (t := tt) (fr := fr) 0 [] 0 cs w hh hfr.1 (by simp) (by simp)
        simp at this
        simp only [storeCells] at this ⊢
        simpa using this
      · rw [ha hlp]
        have := run_storeCells' (P := P) (c := c) (t := tt) (fr := fr) off us.toList 0 cs w hh hfr.1 hcr.2.1 (by simp; omega)
        simpa using this
    have hwr : Wr φ H Z c := .inr ⟨b, s, 1, .box (.agg cs0), hl, hb, rfl⟩
    have hset : ∀ (i : Nat) (x : Blk), (H.set b (.box (.agg (cs0.take off ++ ns ++ cs0.drop (off + min new.length len)))))[i]? = some x → (i ≠ b → H[i]? = some x) ∧ (i = b → x = .box (.agg (cs0.take off ++ ns ++ cs0.drop (off + min new.length len)))) := fun i x hx => set_at hx
    have hW : ∀ c, Wr φ (H.set b (.box (.agg (cs0.take off ++ ns ++ cs0.drop (off + min new.length len))))) Z c → Wr φ H Z c := fun d hd => wr_set hb rfl d hd
    have E := Ext.write (h0 := H.length) (φ' := φ) (H' := H.set b (.box (.agg (cs0.take off ++ ns ++ cs0.drop (off + min new.length len))))) (cs' := (cs.toList.take off ++ us.toList ++ cs.toList.drop (off + us.toList.length)).toArray) (fun _ _ h => .refl h) hwr hW hh (by simp; omega)
    have hrow : Row φ (Wr φ (H.set b (.box (.agg (cs0.take off ++ ns ++ cs0.drop (off + min new.length len))))) Z) (w.setRow c (cs.toList.take off ++ us.toList ++ cs.toList.drop (off + us.toList.length)).toArray) c s [.agg (cs0.take off ++ ns ++ cs0.drop (off + min new.length len))] := by
      have hh' := setRow_heap w c cs (cs.toList.take off ++ us.toList ++ cs.toList.drop (off + us.toList.length)).toArray tt fr hh
      have := Row.splice (es := [.agg cs0]) (i := 0) (off := off) (e := .agg cs0) (e' := .agg (cs0.take off ++ ns ++ cs0.drop (off + min new.length len))) (x := .agg ns) (vs := us.toList) (cs := cs) (t := tt) (fr := fr) (c := c) (s := s) (φ' := φ) (W' := Wr φ (H.set b (.box (.agg (cs0.take off ++ ns ++ cs0.drop (off + min new.length len))))) Z) hs0 (by simpa using hh') (by simpa using hsz') hfr
        (fun i e1 h1 => ⟨(hel i e1 h1).1, fun j d hd => by obtain ⟨v, p1, p2, p3⟩ := (hel i e1 h1).2 j d hd; exact ⟨v, p1, p2, p3.mono E (fun _ => I.lt)⟩⟩) rfl
        ⟨hcr.1, hcr.2.1, fun i c v hc hv => ((hcr.2.2 i c v hc hv).ofPure).mono E (fun _ => I.lt)⟩ (by show off + ns.length ≤ cs0.length; omega) (by show _ = cs0.take off ++ ns ++ cs0.drop (off + ns.length); rw [hnl]; rfl)
      simpa using this
    refine ⟨.int .i64 ((min new.length len : Nat) : Int), _, ?_, φ, I.turn E (by simp) (fun _ _ => rfl) hl ⟨(I.rng _ _ _ _ hl).1, by simpa using (I.rng _ _ _ _ hl).2⟩ (fun i s' n' hib h1 => hib (I.inj _ _ _ _ _ _ _ h1 hl)) (fun i x' hib h1 => ⟨x', by rw [List.getElem?_set_ne (Ne.symm hib)]; exact h1, x'.le_refl⟩) (List.getElem?_set_self hlt) ⟨rfl, hrow⟩
      (fun i d s' n' hib h1 => setRow_other w c d _ (by rintro rfl; exact hib (I.inj _ _ _ _ _ _ _ h1 hl))), .int _ _, ⟨E, below_setRow (I.rng _ _ _ _ hl).1⟩, by simp⟩
    have hl0 := hlen w
    have hu0 := hus w rfl
    simp [Builtin.copy_, run_underlying hue, run_size hie, hl0, hmin, hu0, hst, goInt]
  · cases h
    cases hd
    obtain ⟨hlen, us, hus, hcr⟩ := src_ok (P := P) I hs hnew hn 0 (Nat.zero_le _)
    refine ⟨.int .i64 0, w, ?_, φ, I, .int _ _, .refl .., Nat.le_refl _⟩
    have hl0 := hlen w
    have hu0 := hus w rfl
    simp [Builtin.copy_, run_underlying hue, run_size hie, hl0, hu0, goInt]
  · cases h

theorem zeroCells_list (z : Array Value) : ∀ n, (Builtin.zeroCells z n).toList = (List.replicate n z.toList).flatten
  | 0 => by simp [Builtin.zeroCells]
  | n + 1 => by
    rw [List.replicate_succ, List.flatten_cons, ← zeroCells_list z n]
    simp only [Builtin.zeroCells, Array.toList_map, Array.toList_range]
    rw [Nat.add_mul, Nat.one_mul, Nat.add_comm, List.range_add, List.map_append, List.map_map]
    congr 1
    · apply List.ext_getElem
      · simp
      · intro i h1 h2
        simp at h1 h2
        rw [List.getElem_map, List.getElem_range, Nat.mod_eq_of_lt h1, getElem!_pos z i h1, Array.getElem_toList]
    · refine List.map_congr_left fun i _ => ?_
      simp
theorem crel_zeros {v : Value} (hst : (ofVal v).storable = true) : ∀ n, CRel φ W w ((List.replicate n (ofVal v)).flatMap V.cells) (List.replicate n v.cells.toList).flatten
  | 0 => ⟨by simp, by simp, by simp⟩
  | n + 1 => by
    rw [List.replicate_succ, List.flatMap_cons, List.replicate_succ, List.flatten_cons]
    exact (crel_of (ofVal_ok v) hst).append (crel_zeros hst n)

theorem e_clear {t ty : TypeId} {d r : V} {cd : Value} {H' : Heap} (I : Inv base Z φ H w) (hd : VRel φ (Wr φ H Z) w d cd) (h : clearV P t d H = some (r, H')) :
    ∃ v w', (Builtin.clear_ #[t] ty #[cd]).run P w = .ok v w' ∧ Turns base Z φ H w H' r v w' := by
  unfold clearV at h
  split at h
  case h_2 => cases h
  rename_i z hz
  obtain ⟨e, hue, hie⟩ := elemT_some hz
  split at h
  case h_2 => cases h
  rename_i v hv
  split at h
  case isFalse => cases h
  rename_i hst
  obtain ⟨hst, hlen⟩ := hst
  split at h
  · rename_i b tot off len
    split at h
    case h_2 => cases h
    rename_i sz es hb
    split at h
    case isFalse => cases h
    rename_i hc
    obtain ⟨htot, hol, rfl⟩ := hc
    simp only [Option.some.injEq, Prod.mk.injEq] at h
    obtain ⟨rfl, rfl⟩ := h
    obtain ⟨h0, hr⟩ := own_read I hb htot hd
    have hz0 : ∀ hl : len = 0, H.set b (.dat true z.size (es.take off ++ List.replicate len (ofVal v) ++ es.drop (off + len))) = H := fun hl => by
      subst hl
      apply List.ext_getElem?
      intro i
      rw [List.getElem?_set]
      split
      · rename_i hii; subst hii; rw [if_pos (List.getElem?_eq_some_iff.1 hb).1, hb]; simp
      · rfl
    rcases Nat.eq_zero_or_pos len with hl | hl
    · rw [hz0 hl]
      have hcd : ∃ a cap, cd = .slice a 0 cap := by
        rcases hr with ⟨_, _, rfl, _, _⟩ | ⟨c, _, _, a, cap, _, _, rfl, _⟩
        · exact ⟨none, 0, rfl⟩
        · exact ⟨some a, cap, by rw [hl]⟩
      obtain ⟨a, cap, rfl⟩ := hcd
      refine ⟨.tuple #[], w, ?_, φ, I, .tuple [] #[] rfl (by simp), .refl .., Nat.le_refl _⟩
      cases a <;> simp [Builtin.clear_, run_underlying hue]
    · rcases hr with ⟨_, _, _, _, hl0⟩ | ⟨c, hlc, hrow, a, cap, t', z', rfl, hsh, hcap, ha, ha0⟩
      · omega
      have hn : Each z.size (List.replicate len (ofVal v)) := fun i e' he => by
        rw [List.getElem?_replicate] at he
        split at he
        · cases he; exact hlen
        · cases he
      have hcr : CRel pure0 (Wr φ H Z) w ((List.replicate len (ofVal v)).flatMap V.cells) (Builtin.zeroCells v.cells len).toList := by
        rw [zeroCells_list]
        exact crel_zeros hst len
      obtain ⟨cs', tt, fr, hh, hfr, hsz', hus', hI, hS⟩ := e_over (k := off) I hlc hb hn hcr (by rw [List.length_replicate]; omega)
      rw [List.length_replicate] at hus' hI hS
      have hmul : (off + len) * z.size ≤ es.length * z.size := Nat.mul_le_mul_right _ (by omega)
      rw [Nat.add_mul] at hmul
      refine ⟨.tuple #[], _, ?_, φ, hI, .tuple [] #[] rfl (by simp), hS, by simp⟩
      obtain ⟨len, rfl⟩ : ∃ k, len = k + 1 := ⟨len - 1, by omega⟩
      rw [ha (.inl (by omega))]
      have hst := run_storeCells' (P := P) (c := c) (t := tt) (fr := fr) (off * z.size) (Builtin.zeroCells v.cells (len + 1)).toList 0 cs' w hh hfr.1 hcr.2.1 (by simp only [Array.length_toList]; omega)
      simp at hst
      simp [Builtin.clear_, run_underlying hue, zeroValue, run_info hie, hv, hst]
  · cases h
    cases hd
    refine ⟨.tuple #[], w, ?_, φ, I, .tuple [] #[] rfl (by simp), .refl .., Nat.le_refl _⟩
    simp [Builtin.clear_, run_underlying hue]
  · cases h

/-- A map's block turned. -/
def World.setMap (w : World) (r : Nat) (es : Array MapEntry) (clock : Nat) : World := { w with heap := w.heap.setIfInBounds r (.map es clock) }

theorem setMap_other (w : World) (r k : Nat) (es : Array MapEntry) (clock : Nat) (h : k ≠ r) : (World.setMap w r es clock).heap[k]? = w.heap[k]? := by
  simp only [World.setMap]
  rw [Array.getElem?_setIfInBounds]
  rw [if_neg (Ne.symm h)]

theorem setMap_same (w : World) (r : Nat) (es : Array MapEntry) (clock : Nat) (h : r < w.heap.size) : (World.setMap w r es clock).heap[r]? = some (.map es clock) := by
  simp only [World.setMap]
  rw [Array.getElem?_setIfInBounds]
  simp [h]

theorem e_mapUpdate {t : TypeId} {m k x : V} {cm ck cx : Value} {H' : Heap} (I : Inv base Z φ H w) (hm : VRel φ (Wr φ H Z) w m cm) (hk : VRel φ (Wr φ H Z) w k ck) (hx : VRel φ (Wr φ H Z) w x cx) (h : mapUpdateV P t m k x H = some H') :
    ∃ w', (Instr.mapUpdate t cm ck cx).run P w = .ok () w' ∧ Turns base Z φ H w H' (.tuple []) undef w' := by
  unfold mapUpdateV at h
  split at h
  case h_2 => cases h
  rename_i kt et hu
  split at h
  · cases h
  rename_i hkey
  have hkey' : keyOk P kt k = true := by simpa using hkey
  obtain ⟨d, hd⟩ := keyOk_under hkey'
  cases m <;> simp only at h <;> try (cases h; done)
  rename_i b
  split at h
  case h_2 => cases h
  rename_i ks vs x' bs hb hseal
  split at h
  case isTrue => cases h
  rename_i hnb
  have hnb' : b ∉ bs := by simpa using hnb
  have hlt := (List.getElem?_eq_some_iff.1 hb).1
  have hb1 : (freeze H bs)[b]? = some (.map true ks vs) := by rw [freeze_other bs H b hnb']; exact hb
  obtain ⟨c, s, hl, hcm, es, clock, hh, h1, h2, h3, h4⟩ : ∃ c s, φ b = .at c s 0 ∧ cm = .map (some c) ∧ MapRow (Wr φ H Z) w c ks vs := by
    cases hm with
    | map _ _ hv h1 h3 =>
    cases hl : φ b with
    | unborn => exact absurd hl h1
    | nil => obtain ⟨_, _, hn, _⟩ | ⟨_, _, hn, _⟩ := I.nil b hl <;> (rw [hb] at hn; cases hn)
    | «at» c s n =>
      obtain ⟨y, hy, hr⟩ := I.blk b c s n hl
      rw [hb] at hy
      cases hy
      obtain ⟨rfl, hr⟩ := hr
      exact ⟨c, s, rfl, h3 c s 0 hl rfl, hr⟩
  subst hcm
  have hcl := (I.rng _ _ _ _ hl).2
  -- the key refers to no block
  have hkp : VRel pure0 (Wr φ H Z) w k ck := hk.toPure (by
    rcases keyOk_kind hk hkey' with ⟨_, _, rfl, _⟩ | ⟨_, rfl, _⟩ | ⟨_, rfl, _⟩ <;> rfl)
  have hE : Entries pure0 (Wr φ H Z) w ks vs es.toList := ⟨by simpa using h1, by simpa using h2, fun i k x a b => h3 i k x a (by simpa using b), fun i k x a b => h4 i k x a (by simpa using b)⟩
  have fin : ∀ (ks' vs' : List V) (es' : Array MapEntry) (clock' : Nat), ks'.length = es'.size → vs'.length = es'.size →
      (∀ W' w', Ext 0 pure0 (Wr φ H Z) w pure0 W' w' → VRel pure0 W' w x' cx → (∀ c, c < w.heap.size → W' c → Wr φ H Z c) → True) →
      (∀ (i : Nat) (k : V) (x : MapEntry), ks'[i]? = some k → es'[i]? = some x → VRel pure0 (Wr φ H Z) w k x.key) →
      (∀ (i : Nat) (v : V) (x : MapEntry), vs'[i]? = some v → es'[i]? = some x → VRel pure0 (Wr φ H Z) w v x.val ∨ (v = x' ∧ x.val = cx)) →
      Turns base Z φ H w ((freeze H bs).set b (.map true ks' vs')) (.tuple []) undef (World.setMap w c es' clock') := fun ks' vs' es' clock' e1 e2 _ e3 e4 => by
    generalize hblk : Blk.map true ks' vs' = xb
    have hxw : xb.wr = true := by rw [← hblk]; rfl
    have hW1 : ∀ c, Wr φ ((freeze H bs).set b xb) Z c → Wr φ (freeze H bs) Z c := wr_set hb1 rfl
    have hW : ∀ c, Wr φ ((freeze H bs).set b xb) Z c → Wr φ H Z c := fun c hc => wr_le (freeze_le bs H) (fun b => I.lt) c (hW1 c hc)
    have hxr := seal_to I hx hseal hW1
    have hshape : ∀ d x, w.shape? d = some x → (World.setMap w c es' clock').shape? d = some x := fun d x hx => by
      have hdc : d ≠ c := by
        rintro rfl
        simp [World.shape?, hh] at hx
      rw [shape_of_heap (setMap_other w c d es' clock' hdc)]; exact hx
    have E : Ext H.length φ (Wr φ H Z) w φ (Wr φ ((freeze H bs).set b xb) Z) (World.setMap w c es' clock') :=
      ⟨fun _ _ h => .refl h, fun c _ h => hW c h, fun d _ hnw => setMap_other w c d es' clock' (by rintro rfl; exact hnw (.inr ⟨b, s, 0, _, hl, hb, rfl⟩)), hshape, by simp [World.setMap]⟩
    have E1 : Ext 0 pure0 (Wr φ ((freeze H bs).set b xb) Z) w pure0 (Wr φ ((freeze H bs).set b xb) Z) (World.setMap w c es' clock') :=
      ⟨fun b hb => absurd hb (Nat.not_lt_zero _), fun _ _ h => h, fun d _ hnw => setMap_other w c d es' clock' (by rintro rfl; exact hnw (.inr ⟨b, s, 0, _, hl, List.getElem?_set_self (by rw [freeze_length]; exact hlt), hxw⟩)), hshape, by simp [World.setMap]⟩
    have hrow : MapRow (Wr φ ((freeze H bs).set b xb) Z) (World.setMap w c es' clock') c ks' vs' :=
      ⟨es', clock', setMap_same w c es' clock' hcl, e1, e2, fun i k x a b => (e3 i k x a b).mono0 E, fun i v x a b => by
        rcases e4 i v x a b with hold | ⟨rfl, hval⟩
        · exact hold.mono0 E
        · rw [hval]; exact hxr.mono E1 (fun _ h => absurd rfl h)⟩
    refine ⟨φ, I.turn E (by simp [freeze_length]) (fun _ _ => rfl) hl ⟨(I.rng _ _ _ _ hl).1, by simpa [World.setMap] using hcl⟩ (fun i s' n' hib h1 => hib (I.inj _ _ _ _ _ _ _ h1 hl)) (fun i x0 hib h1 => by
        obtain ⟨y, hy, hyl⟩ := (freeze_le bs H).2 i x0 h1
        exact ⟨y, by rw [List.getElem?_set_ne (Ne.symm hib)]; exact hy, hyl⟩) (List.getElem?_set_self (by rw [freeze_length]; exact hlt)) (by rw [← hblk]; exact ⟨rfl, by rw [hblk]; exact hrow⟩)
      (fun i d s' n' hib h1 => setMap_other w c d es' clock' (by rintro rfl; exact hib (I.inj _ _ _ _ _ _ _ h1 hl))), .tuple _ _ rfl (by simp), ⟨E, ⟨rfl, rfl, rfl, by simp [World.setMap], fun q hq => setMap_other w c q es' clock' (by have := (I.rng _ _ _ _ hl).1; omega)⟩⟩, by simp [freeze_length]⟩
  have runset : ∀ (es' : Array MapEntry) (clock' : Nat), (setObj c (.map es' clock')).run P w = .ok () (World.setMap w c es' clock') := fun es' clock' => by
    simp [setObj, Sem.run, hh, World.setMap]
  split at h
  · cases h
  · rename_i v0 hf
    cases h
    rcases findNow_ok hk hkey' hd ks vs es.toList 0 _ hE hf with ⟨hr, _⟩ | ⟨v', j, e', hr, p1, p2, ⟨cj, q1, q2, q3⟩, p3, p4⟩
    · cases hr
    · cases hr
      have hej : es[j]? = some e' := by simpa using p1
      have hkeq : e'.key = ck := by
        have hkj := hE.2.2.1 j cj e' q1 p1
        generalize e'.key = kk at hkj ⊢
        rcases keyOk_kind hk hkey' with ⟨kd, n, rfl, rfl, _⟩ | ⟨ss, rfl, rfl, _⟩ | ⟨b', rfl, rfl, _⟩
        · cases cj <;> simp only [sameKey] at q2 <;> try (cases q2; done)
          cases hkj
          split at q2
          · rename_i hkk; simp at q2; rw [hkk, q2]
          · cases q2
        · cases cj <;> simp only [sameKey] at q2 <;> try (cases q2; done)
          cases hkj
          simp at q2
          rw [q2]
        · cases cj <;> simp only [sameKey] at q2 <;> try (cases q2; done)
          cases hkj
          simp at q2
          rw [q2]
      have hbits : Instr.sameBits 10000 e'.key ck = true := by
        rw [hkeq]
        rcases keyOk_kind hk hkey' with ⟨kd, n, rfl, rfl, _⟩ | ⟨ss, rfl, rfl, _⟩ | ⟨b', rfl, rfl, _⟩
        · simp [Instr.sameBits]
        · show ((⟨ss.toArray⟩ : ByteArray) == ⟨ss.toArray⟩) = true
          rw [bytes_beq]; simp
        · simp [Instr.sameBits]
      refine ⟨World.setMap w c (es.modify j fun e => { e with key := ck, val := cx }) clock, ?_, ?_⟩
      · have hfk := run_findKey (P := P) (w := w) (kt := kt) (ck := ck) hd p3
        simp only [Nat.zero_add] at hfk
        simp only [Instr.mapUpdate, Sem.run_bind, run_underlying hu, Result.andThen_ok, run_getMap hh, run_checkKey hk hkey', hfk, hej, Option.map_some, Option.getD_some, Instr.keyThatStays, hbits, if_true, Sem.run_pure, runset]
      · rw [q3 x']
        refine fin _ _ _ _ (by simpa using h1) (by simpa using h2) (fun _ _ _ _ _ => trivial) (fun i k' x0 a b => ?_) (fun i v x0 a b => ?_)
        · rw [Array.getElem?_modify] at b
          split at b
          · rename_i hji
            subst hji
            rw [hej] at b
            simp at b
            rw [← b]
            rw [q1] at a
            cases a
            have hkj := hE.2.2.1 j cj e' q1 p1
            simp only
            rw [← hkeq]
            exact hkj
          · exact h3 i k' x0 a b
        · rw [Array.getElem?_modify] at b
          rw [List.getElem?_set] at a
          split at a
          · rename_i hji
            subst hji
            rw [if_pos rfl, hej] at b
            simp at b
            simp at a
            exact .inr ⟨a.2.symm, by rw [← b]⟩
          · rename_i hji
            rw [if_neg hji] at b
            exact .inl (h4 i v x0 a b)
  · rename_i hf
    cases h
    rcases findNow_ok hk hkey' hd ks vs es.toList 0 _ hE hf with ⟨_, p3⟩ | ⟨v', j, e', hr, _⟩
    · refine ⟨World.setMap w c (es.push { key := ck, val := cx, born := clock }) (clock + 1), ?_, ?_⟩
      · have hfk := run_findKey (P := P) (w := w) (kt := kt) (ck := ck) hd p3
        simp only [Instr.mapUpdate, Sem.run_bind, run_underlying hu, Result.andThen_ok, run_getMap hh, run_checkKey hk hkey', hfk, runset]
      · refine fin _ _ _ _ (by simp [h1]) (by simp [h2]) (fun _ _ _ _ _ => trivial) (fun i k' x0 a b => ?_) (fun i v x0 a b => ?_)
        · rw [List.getElem?_append] at a
          rw [Array.getElem?_push] at b
          rw [h1] at a
          split at a
          · rename_i hi
            rw [if_neg (by omega)] at b
            exact h3 i k' x0 a b
          · rename_i hi
            have : i = es.size := by
              rcases Nat.lt_trichotomy i es.size with h | h | h
              · omega
              · exact h
              · have : i - es.size ≠ 0 := by omega
                rw [List.getElem?_cons] at a
                rw [if_neg this] at a
                simp at a
            subst this
            simp at a b
            rw [← a, ← b]
            exact hkp
        · rw [List.getElem?_append] at a
          rw [Array.getElem?_push] at b
          rw [h2] at a
          split at a
          · rename_i hi
            rw [if_neg (by omega)] at b
            exact .inl (h4 i v x0 a b)
          · rename_i hi
            have : i = es.size := by
              rcases Nat.lt_trichotomy i es.size with h | h | h
              · omega
              · exact h
              · have : i - es.size ≠ 0 := by omega
                rw [List.getElem?_cons] at a
                rw [if_neg this] at a
                simp at a
            subst this
            simp at a b
            exact .inr ⟨a.symm, by rw [← b]⟩
    · cases hr

end

end Go.Abs

namespace Go.Abs
open Go.RowKit
set_option linter.unusedVariables false
set_option linter.unusedSimpArgs false

variable {P : Program}

theorem Each.set {s i : Nat} {es : List V} {v : V} (h : Each s es) (hv : v.cells.length = s) : Each s (es.set i v) := fun k e he => by
  rw [List.getElem?_set] at he
  split at he
  · split at he
    · cases he; exact hv
    · cases he
  · exact h k e he

theorem flat_set {s i : Nat} {es : List V} {v : V} (h : Each s es) (hi : i < es.length) (hv : v.cells.length = s) :
    (es.set i v).flatMap V.cells = (es.flatMap V.cells).take (i * s) ++ v.cells ++ (es.flatMap V.cells).drop (i * s + s) := by
  rw [List.set_eq_take_append_cons_drop, if_pos hi, List.flatMap_append, List.flatMap_cons, flat_take h i (by omega), flat_drop h (i + 1) (by omega), Nat.add_mul, Nat.one_mul, List.append_assoc]

theorem setElems_fill {s : Nat} : ∀ (parts : List (Nat × V)) (es es' : List V), Each s es → setElems es parts = some es' →
    Each s es' ∧ es'.length = es.length ∧ fillV (fun i => some (i * s, s)) (es.flatMap V.cells) parts = some (es'.flatMap V.cells)
  | [], es, es', h, hs => by simp only [setElems] at hs; cases hs; exact ⟨h, rfl, rfl⟩
  | (i, v) :: r, es, es', h, hs => by
    simp only [setElems] at hs
    split at hs
    · rename_i e he
      split at hs
      · rename_i hc
        have hi := (List.getElem?_eq_some_iff.1 he).1
        have hv : v.cells.length = s := by rw [← hc.1]; exact h i e he
        obtain ⟨p1, p2, p3⟩ := setElems_fill r (es.set i v) es' (h.set hv) hs
        refine ⟨p1, by simpa using p2, ?_⟩
        simp only [fillV]
        have hle : i * s + s ≤ (es.flatMap V.cells).length := by
          rw [flat_length es h]
          have := Nat.mul_le_mul_right s (show i + 1 ≤ es.length from hi)
          rw [Nat.add_mul] at this
          omega
        rw [if_neg (by rintro (h1 | h2 | h3) <;> first | exact h1 hv | omega | (rw [hc.2.2] at h3; cases h3)), ← flat_set h hi hv]
        exact p3
      · cases hs
    · cases hs

section
variable {base : Nat} {Z : Nat → Prop} {φ : Place} {H HF : Heap} {w : World} {lo hi : Nat} {x y : V} {cv cu cx : Value} {W : Nat → Prop}

theorem seal_in {x' : V} {bs cs : List Nat} (I : Inv base Z φ HF w) (hle : Le (freeze H cs) HF) (hsub : ∀ b ∈ bs, b ∈ cs) (hnb : ∀ b ∈ cs, notBox H b) (h : VRel φ (Wr φ HF Z) w x cv) (hs : sealV H x = some (x', bs)) : VRel pure0 (Wr φ HF Z) w x' cv :=
  seal_ok I ((freeze_le cs H).trans hle) (W' := Wr φ HF Z) (fun _ h => h) h x' bs hs fun b hb c s n hl => by
    have hsh := freeze_shut cs H hnb b (hsub b hb)
    exact I.shut (hsh.le hle (by rw [freeze_length]; exact (seal_notBox hs b hb).lt)) hl

theorem p_buildSliceA {t : TypeId} {n : Nat} {parts : List (Nat × V)} {cparts : Array (Nat × Value)} {r : V} {H' : Heap} (I : Inv base Z φ HF w) (hl : parts.length = cparts.size)
    (hr : ∀ (k : Nat) (p : Nat × V) (q : Nat × Value), parts[k]? = some p → cparts[k]? = some q → p.1 = q.1 ∧ VRel φ (Wr φ HF Z) w p.2 q.2) {z : TypeInfo} {zv : Value} {es : List V} (hz : elemT P t = some z) (hzv' : z.zero = some zv) (hc : n * z.size ≤ 16777216 ∧ 0 < z.size ∧ (ofVal zv).storable = true ∧ (ofVal zv).cells.length = z.size) (hset : setElems (List.replicate n (ofVal zv)) parts = some es) (h : some (V.own H.length n 0 n, H ++ [Blk.arr none z.size es]) = some (r, H')) (hle : Le H' HF) (hu : ∀ b, H.length ≤ b → b < H'.length → φ b = .unborn) :
    ∃ v w', (Instr.buildSlice t n cparts).run P w = .ok v w' ∧ Leaves base Z φ HF w H.length H'.length r v w' := by
  obtain ⟨e, hue, hie, zv', hzv, hzs⟩ := elemT_zero hz
  rw [hzv'] at hzv
  cases hzv
  have hzv := hzv'
  obtain ⟨h24, h0, hst, hcl⟩ := hc
  cases h
  have hrep : Each z.size (List.replicate n (ofVal zv)) := .of_mem fun e he => by rw [List.mem_replicate] at he; rw [he.2]; exact hcl
  obtain ⟨hes, hel, hfill⟩ := setElems_fill _ _ _ hrep hset
  have hel' : es.length = n := by simpa using hel
  -- the cells at first
  have hzr := ofVal_ok (φ := φ) (W := Wr φ HF Z) (w := w) zv
  have hmade : CRel φ (Wr φ HF Z) w ((List.replicate n (ofVal zv)).flatMap V.cells) (madeCells zv.cells (n * z.size)).toList := by
    have key : ∀ (k : Nat) (c : V), ((List.replicate n (ofVal zv)).flatMap V.cells)[k]? = some c → ∃ u, (madeCells zv.cells (n * z.size)).toList[k]? = some u ∧ u.oneCell' = true ∧ VRel φ (Wr φ HF Z) w c u := fun k c hk => by
      have hkl := (List.getElem?_eq_some_iff.1 hk).1
      rw [flat_length _ hrep, List.length_replicate] at hkl
      obtain ⟨i, j, e', h1, h2, h3⟩ := flat_at _ hrep k c hk
      rw [List.getElem?_replicate] at h2
      split at h2
      · cases h2
        obtain ⟨u, p1, p2, p3⟩ := crel_cells hzr hst j c h3
        have hj : j < z.size := by have := (List.getElem?_eq_some_iff.1 h3).1; omega
        have hmod : (i * z.size + j) % zv.cells.size = j := by rw [hzs, Nat.mul_comm, Nat.mul_add_mod, Nat.mod_eq_of_lt hj]
        refine ⟨u, ?_, p2, p3⟩
        simp only [madeCells, Array.toList_map, Array.toList_range, List.getElem?_map]
        rw [List.getElem?_range hkl, h1]
        simp only [Option.map_some, hmod]
        rw [getElem!_def, p1]
      · cases h2
    have hlen : ((List.replicate n (ofVal zv)).flatMap V.cells).length = n * z.size := by rw [flat_length _ hrep, List.length_replicate]
    have hml : (madeCells zv.cells (n * z.size)).toList.length = n * z.size := by rw [Array.length_toList, size_madeCells]
    refine ⟨by rw [hlen, hml], fun v hv => ?_, fun i c v hc hv => ?_⟩
    · obtain ⟨k, hk⟩ := List.getElem?_of_mem hv
      have hkl := (List.getElem?_eq_some_iff.1 hk).1
      obtain ⟨u, p1, p2, _⟩ := key k _ (List.getElem?_eq_getElem (by omega))
      rw [hk] at p1
      cases p1
      exact p2
    · obtain ⟨u, p1, _, p3⟩ := key i c hc
      rw [hv] at p1
      cases p1
      exact p3
  have hparts : ∀ (k : Nat) (p : Nat × V) (q : Nat × Value), parts[k]? = some p → cparts.toList[k]? = some q → p.1 = q.1 ∧ VRel φ (Wr φ HF Z) w p.2 q.2 := fun k p q hp hq => hr k p q hp (by simpa using hq)
  obtain ⟨cs', e1, e2⟩ := fill_ok _ cparts.toList _ (madeCells zv.cells (n * z.size)) _ hmade (by simp; omega) hparts hfill
  have hcsl : cs'.toList.length = n * z.size := by rw [← e2.1, flat_length es hes, hel']
  have run : (Instr.buildSlice t n cparts).run P w = .ok (.slice (some ⟨w.heap.size, 0, none⟩) n n) (w.alloc (.cells cs' e)) := by
    have h24' : ¬ (16777216 < n * z.size) := by omega
    by_cases hn0 : n * z.size = 0
    · have hmz : (madeCells zv.cells (n * z.size)) = #[] := by rw [hn0]; simp [madeCells]
      rw [hmz] at e1
      have hnn : n = 0 := by
        rcases Nat.mul_eq_zero.1 hn0 with h | h
        · exact h
        · omega
      subst hnn
      simp [Instr.buildSlice, run_underlying hue, run_size hie, e1, newRow, Array.range_zero']
    · have e1' : Instr.fill (fun i => some (i * z.size, z.size)) ((Array.range (n * z.size)).map fun x => zv.cells[x % z.size]!) cparts.toList = some cs' := by
        have := e1
        unfold madeCells at this
        rw [hzs] at this
        exact this
      simp [Instr.buildSlice, run_underlying hue, run_size hie, h24', hn0, zeroValue, run_info hie, hzv, hzs, e1', newRow]
  refine ⟨_, _, run, ?_⟩
  have hy : HF[H.length]? = some (.arr none z.size es) := hle.arr (by simp)
  have hH' : (H ++ [Blk.arr none z.size es]).length = H.length + 1 := by rw [List.length_append]; rfl
  have born := arr_born (lo := H.length) (hi := H.length + 1) (b := H.length) (len := n) (cap := n) (es := es) (s := z.size) (cs := cs') (t := e) (fr := (0, 0)) I
    (hu _ (Nat.le_refl _) (by rw [hH']; omega)) hy h0 (by omega) (by simp at hcsl; omega) (by omega) (by have := Nat.le_mul_of_pos_right n h0; unfold maxLen; omega) (Frz.none _ _)
    (fun i e' he => ⟨hes i e' he, fun j c hc => by
      have hg := flat_get es hes i j e' c he hc
      have hlt : i * z.size + j < cs'.toList.length := by rw [← e2.1]; exact (List.getElem?_eq_some_iff.1 hg).1
      exact ⟨cs'.toList[i * z.size + j], by simp, e2.2.1 _ (List.getElem_mem hlt), e2.2.2 _ _ _ hg (List.getElem?_eq_getElem hlt)⟩⟩)
    (Nat.le_refl _) (Nat.lt_succ_self _)
  rw [hel'] at born
  rw [hH']
  exact ⟨_, born⟩

theorem p_buildSlice {t : TypeId} {n : Nat} {parts : List (Nat × V)} {cparts : Array (Nat × Value)} {r : V} {H' : Heap} (I : Inv base Z φ HF w) (hl : parts.length = cparts.size)
    (hr : ∀ (k : Nat) (p : Nat × V) (q : Nat × Value), parts[k]? = some p → cparts[k]? = some q → p.1 = q.1 ∧ VRel φ (Wr φ HF Z) w p.2 q.2) (h : buildSliceV P t n parts H = some (r, H')) (hle : Le H' HF) (hu : ∀ b, H.length ≤ b → b < H'.length → φ b = .unborn) :
    ∃ v w', (Instr.buildSlice t n cparts).run P w = .ok v w' ∧ Leaves base Z φ HF w H.length H'.length r v w' := by
  unfold buildSliceV at h
  split at h
  · cases h
  rename_i z hz
  obtain ⟨e, hue, hie, zv, hzv, hzs⟩ := elemT_zero hz
  rw [hzv] at h
  simp only at h
  split at h
  case isFalse => cases h
  rename_i hc
  have hc' := hc
  obtain ⟨h24, h0, hst, hcl⟩ := hc
  split at h
  case h_2 =>
    split at h
    · rename_i es hset
      exact p_buildSliceA I hl hr hz hzv hc' hset h hle hu
    · cases h
  rename_i xs bs hseal
  split at h
  case h_2 => cases h
  rename_i es hset
  cases h
  obtain ⟨hxl, hxa⟩ := sealL_at hseal
  have hrep : Each z.size (List.replicate n (ofVal zv)) := .of_mem fun e he => by rw [List.mem_replicate] at he; rw [he.2]; exact hcl
  obtain ⟨hes, hel, hfill⟩ := setElems_fill _ _ _ hrep hset
  have hel' : es.length = n := by simpa using hel
  have hle1 : Le (freeze H bs) HF := (Le.append _ _).trans hle
  have hfl : (freeze H bs).length = H.length := freeze_length bs H
  -- the cells at first
  have hzr := ofVal_ok (φ := pure0) (W := Wr φ HF Z) (w := w) zv
  have hmade : CRel pure0 (Wr φ HF Z) w ((List.replicate n (ofVal zv)).flatMap V.cells) (madeCells zv.cells (n * z.size)).toList := by
    have key : ∀ (k : Nat) (c : V), ((List.replicate n (ofVal zv)).flatMap V.cells)[k]? = some c → ∃ u, (madeCells zv.cells (n * z.size)).toList[k]? = some u ∧ u.oneCell' = true ∧ VRel pure0 (Wr φ HF Z) w c u := fun k c hk => by
      have hkl := (List.getElem?_eq_some_iff.1 hk).1
      rw [flat_length _ hrep, List.length_replicate] at hkl
      obtain ⟨i, j, e', h1, h2, h3⟩ := flat_at _ hrep k c hk
      rw [List.getElem?_replicate] at h2
      split at h2
      · cases h2
        obtain ⟨u, p1, p2, p3⟩ := crel_cells hzr hst j c h3
        have hj : j < z.size := by have := (List.getElem?_eq_some_iff.1 h3).1; omega
        have hmod : (i * z.size + j) % zv.cells.size = j := by rw [hzs, Nat.mul_comm, Nat.mul_add_mod, Nat.mod_eq_of_lt hj]
        refine ⟨u, ?_, p2, p3⟩
        simp only [madeCells, Array.toList_map, Array.toList_range, List.getElem?_map]
        rw [List.getElem?_range hkl, h1]
        simp only [Option.map_some, hmod]
        rw [getElem!_def, p1]
      · cases h2
    have hlen : ((List.replicate n (ofVal zv)).flatMap V.cells).length = n * z.size := by rw [flat_length _ hrep, List.length_replicate]
    have hml : (madeCells zv.cells (n * z.size)).toList.length = n * z.size := by rw [Array.length_toList, size_madeCells]
    refine ⟨by rw [hlen, hml], fun v hv => ?_, fun i c v hc hv => ?_⟩
    · obtain ⟨k, hk⟩ := List.getElem?_of_mem hv
      have hkl := (List.getElem?_eq_some_iff.1 hk).1
      obtain ⟨u, p1, p2, _⟩ := key k _ (List.getElem?_eq_getElem (by omega))
      rw [hk] at p1
      cases p1
      exact p2
    · obtain ⟨u, p1, _, p3⟩ := key i c hc
      rw [hv] at p1
      cases p1
      exact p3
  have hparts : ∀ (k : Nat) (p : Nat × V) (q : Nat × Value), ((parts.map (·.1)).zip xs)[k]? = some p → cparts.toList[k]? = some q → p.1 = q.1 ∧ VRel pure0 (Wr φ HF Z) w p.2 q.2 := fun k p q hp hq => by
    rw [List.getElem?_zip_eq_some] at hp
    obtain ⟨hp1, hp2⟩ := hp
    rw [List.getElem?_map] at hp1
    cases hpk : parts[k]? with
    | none => simp [hpk] at hp1
    | some pk =>
      simp [hpk] at hp1
      obtain ⟨q1, q2⟩ := hr k pk q hpk (by simpa using hq)
      obtain ⟨c', b', s1, s2, s3⟩ := hxa k pk.2 (by simp [hpk])
      rw [hp2] at s2
      cases s2
      exact ⟨by rw [← hp1, q1], seal_in I hle1 s3 (sealL_notBox hseal) q2 s1⟩
  obtain ⟨cs', e1, e2⟩ := fill_ok _ cparts.toList _ (madeCells zv.cells (n * z.size)) _ hmade (by simp [hxl]; omega) hparts hfill
  have hcsl : cs'.toList.length = n * z.size := by rw [← e2.1, flat_length es hes, hel']
  have run : (Instr.buildSlice t n cparts).run P w = .ok (.slice (some ⟨w.heap.size, 0, none⟩) n n) (w.alloc (.cells cs' e)) := by
    have h24' : ¬ (16777216 < n * z.size) := by omega
    by_cases hn0 : n * z.size = 0
    · have hmz : (madeCells zv.cells (n * z.size)) = #[] := by rw [hn0]; simp [madeCells]
      rw [hmz] at e1
      have hnn : n = 0 := by
        rcases Nat.mul_eq_zero.1 hn0 with h | h
        · exact h
        · omega
      subst hnn
      simp [Instr.buildSlice, run_underlying hue, run_size hie, e1, newRow, Array.range_zero']
    · have e1' : Instr.fill (fun i => some (i * z.size, z.size)) ((Array.range (n * z.size)).map fun x => zv.cells[x % z.size]!) cparts.toList = some cs' := by
        have := e1
        unfold madeCells at this
        rw [hzs] at this
        exact this
      simp [Instr.buildSlice, run_underlying hue, run_size hie, h24', hn0, zeroValue, run_info hie, hzv, hzs, e1', newRow]
  refine ⟨_, _, run, ?_⟩
  obtain ⟨y, hy, hyl⟩ := hle.last
  cases y <;> simp only [Blk.le] at hyl
  obtain ⟨rfl, rfl, _⟩ := hyl
  rw [hfl] at hy
  have hH' : (freeze H bs ++ [Blk.dat true z.size es]).length = H.length + 1 := by rw [List.length_append, hfl]; rfl
  have born := dat_born (lo := H.length) (hi := H.length + 1) (b := H.length) (len := n) (cap := n) (es := es) (s := z.size) (cs := cs') (t := e) (fr := (0, 0)) I
    (hu _ (Nat.le_refl _) (by rw [hH']; omega)) hy h0 (by omega) (by simp at hcsl; omega) (by omega) (by have := Nat.le_mul_of_pos_right n h0; unfold maxLen; omega) (Frz.none _ _)
    (fun i e' he => ⟨hes i e' he, fun j c hc => by
      have hg := flat_get es hes i j e' c he hc
      have hlt : i * z.size + j < cs'.toList.length := by rw [← e2.1]; exact (List.getElem?_eq_some_iff.1 hg).1
      exact ⟨cs'.toList[i * z.size + j], by simp, e2.2.1 _ (List.getElem_mem hlt), e2.2.2 _ _ _ hg (List.getElem?_eq_getElem hlt)⟩⟩)
    (Nat.le_refl _) (Nat.lt_succ_self _)
  rw [hel'] at born
  rw [hH']
  exact ⟨_, born⟩

theorem p_conv {src dst : TypeId} {x r : V} {cx : Value} {H' : Heap} (I : Inv base Z φ HF w) (hx : VRel φ (Wr φ HF Z) w x cx) (h : convV P src dst x H = some (r, H')) (hle : Le H' HF) (hu : ∀ b, H.length ≤ b → b < H'.length → φ b = .unborn) :
    ∃ v w', (convert src dst cx).run P w = .ok v w' ∧ Leaves base Z φ HF w H.length H'.length r v w' := by
  unfold convV at h
  split at h
  · cases h
  rename_i hsrc
  obtain ⟨sd, hsd⟩ : ∃ sd, P.underlying src = some sd := by
    cases hq : P.underlying src with
    | none => simp [hq] at hsrc
    | some sd => exact ⟨sd, rfl⟩
  split at h
  · rename_i k k' n hd
    cases h
    cases hx
    exact ⟨.int k (k.wrap n), w, by simp [convert, run_underlying hsd, run_underlying hd, Conv.intToInt], φ, .still I (.int _ _)⟩
  · rename_i s hd
    cases h
    cases hx
    exact ⟨.string ⟨s.toArray⟩, w, by simp [convert, run_underlying hsd, run_underlying hd], φ, .still I (.str _)⟩
  · rename_i e s hd
    split at h
    · rename_i he
      split at h
      · rename_i hc
        cases h
        cases hx
        obtain ⟨v, w', p1, p2⟩ := p_bytes (isStrT_some hc.2) hd he hc.1 I hle (hu _ (Nat.le_refl _) (by rw [List.length_append]; exact Nat.lt_succ_self _))
        rw [List.length_append]
        exact ⟨v, w', p1, p2⟩
      · cases h
    · cases h
  · rename_i hd hns
    split at h
    · rename_i e hse
      split at h
      · rename_i hee
        split at h
        · rename_i es hel
          cases hs : ofU8s es with
          | none => simp [hs] at h
          | some s =>
            simp [hs] at h
            obtain ⟨rfl, rfl⟩ := h
            exact ⟨_, w, run_bytesToString (P := P) hse hee hd (elems_ok I hle hx hel) hs, φ, .still I (.str _)⟩
        · cases h
      · cases h
    · cases h
  · cases h

end

end Go.Abs

namespace Go.Abs
open Go.RowKit
set_option linter.unusedVariables false
set_option linter.unusedSimpArgs false

variable {P : Program}

/-- A call of a function value runs so. -/
def Enters (P : Program) (cf : Value) (cxs : Array Value) (w : World) (R : Value → World → Prop) : Prop :=
  ∃ f first caps fn, cf = .func (.func f) first caps ∧ P.funcs[f]? = some fn ∧ fn.name ≠ "runtime.NumGoroutine" ∧ fn.body ≠ none ∧ Calls P f (first ++ cxs ++ caps) w (fun e w' => ∃ v, e = .returned v ∧ R v w')

def ArgsRel (φ : Place) (W : Nat → Prop) (w : World) (xs : List V) (cxs : Array Value) : Prop :=
  xs.length = cxs.size ∧ ∀ (i : Nat) (x : V) (c : Value), xs[i]? = some x → cxs[i]? = some c → VRel φ W w x c

/-- What a call that does not write leaves. -/
def QCall (P : Program) (call : CallV) : Prop :=
  ∀ H xf xs r H', call xf xs H = some (r, H') → Le H H' ∧ ∀ base Z φ HF w cf cxs, Inv base Z φ HF w → VRel φ (Wr φ HF Z) w xf cf → ArgsRel φ (Wr φ HF Z) w xs cxs → Le H' HF →
    (∀ b, H.length ≤ b → b < H'.length → φ b = .unborn) → Enters P cf cxs w (Leaves base Z φ HF w H.length H'.length r)

def ECall (P : Program) (call : CallV) : Prop :=
  ∀ H xf xs r H', call xf xs H = some (r, H') → ∀ base Z φ w cf cxs, Inv base Z φ H w → VRel φ (Wr φ H Z) w xf cf → ArgsRel φ (Wr φ H Z) w xs cxs →
    Enters P cf cxs w (Turns base Z φ H w H' r)

theorem Does.sem {o : Oper} {a : Act} {w : World} {R : Value → World → Prop} {s : Sem Value} (he : execOp a.eval o = (do let v ← s; pure (.value v) : Sem Next)) (h : ∃ v w', s.run P w = .ok v w' ∧ R v w') : Does P o a w R := by
  obtain ⟨v, w', h1, h2⟩ := h
  exact Does.run (v := v) (w' := w') (by rw [he]; simp [h1]) h2

theorem Does.semu {o : Oper} {a : Act} {w : World} {R : Value → World → Prop} {s : Sem Unit} (he : execOp a.eval o = (do s; pure .skip : Sem Next)) (h : ∃ w', s.run P w = .ok () w' ∧ R undef w') : Does P o a w R := by
  obtain ⟨w', h1, h2⟩ := h
  exact Does.skip (w' := w') (by rw [he]; simp [h1]) h2

theorem Does.enter {o : Oper} {a : Act} {w : World} {R : Value → World → Prop} {c : Call} {f : Operand} (ho : o.op = .call c) (hf : c.callee = .value f) (h : Enters P (a.eval f) (c.args.map a.eval) w R) : Does P o a w R := by
  obtain ⟨g, first, caps, fn, h1, h2, h3, h4, h5⟩ := h
  intro next Q hn
  have he : (execOp a.eval o).run P w = .ok (.enter g (first ++ c.args.map a.eval ++ caps)) w := by
    obtain ⟨dst, op, type, pos, after, guard⟩ := o
    simp only at ho
    subst ho
    simp [execOp, resolve, hf, h1, Deferred.ofValue, invoke, callFunc, h2, h3, h4]
  unfold Oper.wp
  rw [he, Oper.upon_enter]
  exact Calls.mono h5 fun e w' hR => by
    obtain ⟨v, rfl, hv⟩ := hR
    exact hn v w' hv

section
variable {base : Nat} {Z : Nat → Prop} {φ : Place} {H HF : Heap} {w : World} {lo hi : Nat} {x y : V} {cv cu cx : Value} {W : Nat → Prop}

theorem stay {s : Sem Value} {z : V} (I : Inv base Z φ HF w) (h : ∃ v, s.run P w = .ok v w ∧ VRel φ (Wr φ HF Z) w z v) : ∃ v w', s.run P w = .ok v w' ∧ Leaves base Z φ HF w lo hi z v w' := by
  obtain ⟨v, h1, h2⟩ := h
  exact ⟨v, w, h1, φ, .still I h2⟩

theorem args_of {env : Env} {a : Act} {args : Array Operand} (h : ∀ x ∈ args, VRel φ W w (evO env x) (a.eval x)) : ArgsRel φ W w (args.toList.map (evO env)) (args.map a.eval) := by
  refine ⟨by simp, fun i x c hx hc => ?_⟩
  simp only [List.getElem?_map, Array.getElem?_toList, Array.getElem?_map] at hx hc
  cases ho : args[i]? with
  | none => simp [ho] at hx
  | some op =>
    simp [ho] at hx hc
    rw [← hx, ← hc]
    exact h op (Array.mem_of_getElem? ho)

theorem parts_of {env : Env} {a : Act} {ps : Array (Nat × Operand)} (h : ∀ x ∈ (ps.toList.map (·.2)).toArray, VRel φ W w (evO env x) (a.eval x)) :
    (ps.toList.map fun (i, x) => (i, evO env x)).length = (ps.map fun (i, x) => (i, a.eval x)).size ∧
    ∀ (k : Nat) (p : Nat × V) (q : Nat × Value), (ps.toList.map fun (i, x) => (i, evO env x))[k]? = some p → (ps.map fun (i, x) => (i, a.eval x))[k]? = some q → p.1 = q.1 ∧ VRel φ W w p.2 q.2 := by
  refine ⟨by simp, fun k p q hp hq => ?_⟩
  simp only [List.getElem?_map, Array.getElem?_toList, Array.getElem?_map] at hp hq
  cases ho : ps[k]? with
  | none => simp [ho] at hp
  | some op =>
    simp [ho] at hp hq
    rw [← hp, ← hq]
    exact ⟨rfl, h op.2 (by simp; exact ⟨op.1, by exact Array.mem_of_getElem? ho⟩)⟩

theorem isBool_of {b : Bool} (h : VRel φ W w (.bool b) cv) : cv = .bool b := by cases h; rfl

theorem conv_int {s d : TypeId} {x r : V} {H' : Heap} (hd : isIntT P d = true) (h : convV P s d x H = some (r, H')) : H' = H ∧ ∀ H2, convV P s d x H2 = some (r, H2) := by
  obtain ⟨k, hk⟩ := isIntT_some hd
  unfold convV at h ⊢
  rw [hk] at h ⊢
  split at h
  · cases h
  rename_i hs
  cases x <;> simp only at h <;> first | (cases h; done) | skip
  cases h
  exact ⟨rfl, fun H2 => by rw [if_neg hs]⟩

theorem q_plain {o : Oper} {env : Env} {a : Act} {r : V} {H' : Heap} {call : CallV} (I : Inv base Z φ HF w) (hr : ∀ x ∈ o.op.operands, VRel φ (Wr φ HF Z) w (evO env x) (a.eval x))
    (hq : cls P o = 0) (h : evOp P call env H o = some (r, H')) : H' = H ∧ ∀ lo hi, Does P o a w (Leaves base Z φ HF w lo hi r) := by
  obtain ⟨dst, op, type, pos, after, guard⟩ := o
  cases op <;> try (simp [cls] at hq; done)
  case move x =>
    simp only [evOp] at h
    cases h
    exact ⟨rfl, fun _ _ => Does.run rfl ⟨φ, .still I (hr x (by simp [Op.operands]))⟩⟩
  case pick c x y =>
    simp only [evOp] at h
    split at h
    · rename_i t ht
      cases h
      have hc := hr c (by simp [Op.operands])
      rw [ht] at hc
      have hb := isBool_of hc
      refine ⟨rfl, fun _ _ => Does.run (v := if t then a.eval x else a.eval y) (w' := w) (by simp [execOp, hb, asBool]) ⟨φ, .still I ?_⟩⟩
      cases t
      · exact hr y (by simp [Op.operands])
      · exact hr x (by simp [Op.operands])
    · cases h
  case build t ps =>
    simp only [evOp, Option.map_eq_some_iff] at h
    obtain ⟨z, hz, h⟩ := h
    cases h
    obtain ⟨h1, h2⟩ := parts_of (φ := φ) (W := Wr φ HF Z) (w := w) (env := env) (a := a) (ps := ps) (by simpa only [Op.operands] using hr)
    exact ⟨rfl, fun _ _ => Does.sem rfl (stay I (r_build h1 h2 hz))⟩
  case binOp op t x y ty =>
    simp only [evOp, Option.map_eq_some_iff] at h
    obtain ⟨z, hz, h⟩ := h
    cases h
    exact ⟨rfl, fun _ _ => Does.sem rfl (stay I (r_bin (hr x (by simp [Op.operands])) (hr y (by simp [Op.operands])) hz))⟩
  case unOp op t x =>
    simp only [evOp, Option.map_eq_some_iff] at h
    obtain ⟨z, hz, h⟩ := h
    cases h
    exact ⟨rfl, fun _ _ => Does.sem rfl (stay I (r_un (hr x (by simp [Op.operands])) hz))⟩
  case convert s d x =>
    simp only [evOp] at h
    have hd : isIntT P d = true := by simpa [cls] using hq
    obtain ⟨rfl, h2⟩ := conv_int hd h
    have h2 := h2 HF
    refine ⟨rfl, fun lo hi => Does.sem rfl ?_⟩
    obtain ⟨v, w', h3, φ', h4⟩ := p_conv I (hr x (by simp [Op.operands])) h2 (.refl _) (fun b h1 h2 => by omega)
    exact ⟨v, w', h3, φ', ⟨h4.inv, h4.rel, h4.step, fun b _ => h4.same b (by omega)⟩⟩
  case makeFunc fn first caps =>
    cases fn <;> simp only [evOp] at h <;> try (cases h; done)
    rename_i f
    split at h
    · rename_i hf
      cases h
      have hf' : first = #[] := by simpa using hf
      subst hf'
      obtain ⟨g1, g2⟩ := args_of (φ := φ) (W := Wr φ HF Z) (w := w) (env := env) (a := a) (args := caps) (fun x hx => hr x (by simp [Op.operands, hx]))
      exact ⟨rfl, fun _ _ => Does.run (v := .func (.func f) #[] (caps.map a.eval)) (w' := w) (by simp [execOp, Instr.makeFunc]) ⟨φ, .still I (.fn _ _ _ g1 g2)⟩⟩
    · split at h
      · rename_i hf
        cases h
        have hf' : caps = #[] := by simpa using hf
        subst hf'
        obtain ⟨g1, g2⟩ := args_of (φ := φ) (W := Wr φ HF Z) (w := w) (env := env) (a := a) (args := first) (fun x hx => hr x (by simp [Op.operands, hx]))
        exact ⟨rfl, fun _ _ => Does.run (v := .func (.func f) (first.map a.eval) #[]) (w' := w) (by simp [execOp, Instr.makeFunc]) ⟨φ, .still I (.meth _ _ _ g1 g2)⟩⟩
      · cases h
  case field t x f =>
    simp only [evOp] at h
    split at h
    · rename_i fd cs hf hx
      simp only [Option.map_eq_some_iff] at h
      obtain ⟨z, hz, h⟩ := h
      cases h
      have hc := hr x (by simp [Op.operands])
      rw [hx] at hc
      exact ⟨rfl, fun _ _ => Does.sem rfl (stay I (r_field hc hf hz))⟩
    · cases h
  case index t x i =>
    simp only [evOp, Option.map_eq_some_iff] at h
    obtain ⟨z, hz, h⟩ := h
    cases h
    exact ⟨rfl, fun _ _ => Does.sem rfl (stay I (r_index (hr x (by simp [Op.operands])) (hr i (by simp [Op.operands])) hz))⟩
  case extract x i =>
    simp only [evOp] at h
    split at h
    · rename_i vs hx
      simp only [Option.map_eq_some_iff] at h
      obtain ⟨z, hz, h⟩ := h
      cases h
      have hc := hr x (by simp [Op.operands])
      rw [hx] at hc
      exact ⟨rfl, fun _ _ => Does.sem rfl (stay I (r_extract hc hz))⟩
    · cases h
  case call c =>
    obtain ⟨callee, args, ats⟩ := c
    cases callee <;> try (simp [cls] at hq; done)
    rename_i b
    obtain ⟨g1, g2⟩ := args_of (φ := φ) (W := Wr φ HF Z) (w := w) (env := env) (a := a) (args := args) (fun x hx => hr x (by simp [Op.operands, Call.operands, hx]))
    have key : ∀ (xs : List V) (cxs : Array Value), ArgsRel φ (Wr φ HF Z) w xs cxs → ∀ x y, xs = [x, y] → ∃ c d, cxs = #[c, d] ∧ VRel φ (Wr φ HF Z) w x c ∧ VRel φ (Wr φ HF Z) w y d := fun xs cxs hxs x y he => by
      subst he
      obtain ⟨h1, h2⟩ := hxs
      have hs : cxs.size = 2 := by simpa using h1.symm
      refine ⟨cxs[0], cxs[1], ?_, h2 0 x _ rfl (by simp [hs]), h2 1 y _ rfl (by simp [hs])⟩
      apply Array.ext
      · simp [hs]
      · intro i hi1 hi2
        match i, hi1, hi2 with
        | 0, _, _ => rfl
        | 1, _, _ => rfl
    cases b <;> try (simp [cls] at hq; done)
    all_goals
      simp only [evOp] at h
      generalize hxs : args.toList.map (evO env) = xs at h g1 g2
      match xs, h with
      | [.int k m, .int k' n], h =>
        simp only [builtinV] at h
        split at h
        · rename_i hk
          subst hk
          cases h
          obtain ⟨c, d, e1, e2, e3⟩ := key _ _ ⟨g1, g2⟩ _ _ rfl
          cases e2
          cases e3
          refine ⟨rfl, fun _ _ => Does.sem (s := ?_) (by simp only [execOp, resolve, invoke, builtin, pure_bind]; rfl) ⟨_, w, by rw [e1]; first | exact r_minmax.1 | exact r_minmax.2, φ, .still I (.int _ _)⟩⟩
        · cases h


end

end Go.Abs

namespace Go.Abs
open Go.RowKit
set_option linter.unusedVariables false
set_option linter.unusedSimpArgs false

variable {P : Program}

theorem convV_le {s d : TypeId} {x r : V} {H H' : Heap} (h : convV P s d x H = some (r, H')) : Le H H' := by
  unfold convV at h
  split at h
  · cases h
  split at h
  · cases h; exact .refl _
  · cases h; exact .refl _
  · split at h
    · split at h
      · cases h; exact .append ..
      · cases h
    · cases h
  · split at h
    · split at h
      · split at h
        · rename_i es _
          cases hs : ofU8s es with
          | none => simp [hs] at h
          | some s => simp [hs] at h; rw [h.2]; exact .refl _
        · cases h
      · cases h
    · cases h
  · cases h

theorem evOp_le {o : Oper} {env : Env} {H H' : Heap} {r : V} {call : CallV} (hc : QCall P call) (hq : cls P o ≠ 2) (h : evOp P call env H o = some (r, H')) : Le H H' := by
  obtain ⟨dst, op, type, pos, after, guard⟩ := o
  cases op <;> simp only [evOp] at h <;> try (cases h; done)
  case move x => cases h; exact .refl _
  case assign x =>
    have h2 := congrArg Prod.snd (Option.some.inj h)
    simp only at h2
    rw [← h2]
    exact ownify_le ..
  case pick c a b => split at h <;> first | (cases h; exact .refl _) | cases h
  case alloc t =>
    split at h
    · split at h
      · split at h
        · cases h
        · split at h
          · cases h; exact .append ..
          · cases h; exact (ownifyL_le ..).trans (.append ..)
      · split at h
        · cases h; exact (ownify_le ..).trans (.append ..)
        · cases h
    · cases h
  case box t x => split at h <;> first | (cases h; exact .append ..) | cases h
  case build t ps => simp only [Option.map_eq_some_iff] at h; obtain ⟨z, _, h⟩ := h; cases h; exact .refl _
  case buildSlice t n ps =>
    unfold buildSliceV at h
    split at h
    · cases h
    split at h
    · cases h
    split at h
    · split at h
      · split at h
        · cases h; exact (freeze_le ..).trans (.append ..)
        · cases h
      · split at h
        · cases h; exact .append ..
        · cases h
    · cases h
  case load t x => simp only [Option.map_eq_some_iff] at h; obtain ⟨z, _, h⟩ := h; cases h; exact .refl _
  case store => exact absurd rfl hq
  case nilCheck x =>
    split at h
    · split at h
      · cases h; exact .refl _
      · cases h
    · cases h; exact .refl _
    · cases h; exact .refl _
    · cases h; exact .refl _
    · cases h
  case binOp => simp only [Option.map_eq_some_iff] at h; obtain ⟨z, _, h⟩ := h; cases h; exact .refl _
  case unOp => simp only [Option.map_eq_some_iff] at h; obtain ⟨z, _, h⟩ := h; cases h; exact .refl _
  case convert s d x => exact convV_le h
  case sliceToArrayPointer => simp only [Option.map_eq_some_iff] at h; obtain ⟨z, _, h⟩ := h; cases h; exact .refl _
  case makeFunc f first caps =>
    cases f <;> simp only at h <;> try (cases h; done)
    repeat' split at h
    all_goals first | (cases h; exact .refl _) | cases h
  case makeMap t rs => cases rs <;> simp only at h <;> first | (cases h; exact .append ..) | cases h
  case makeSlice t l c =>
    unfold makeSliceV at h
    split at h
    · split at h
      · split at h
        · split at h
          · cases h; exact .append ..
          · cases h
        · cases h
      · cases h
    · cases h
  case slice t x lo hi mx =>
    cases mx <;> simp only at h
    · simp only [Option.map_eq_some_iff] at h; obtain ⟨z, _, h⟩ := h; cases h; exact .refl _
    · simp only [Option.map_eq_some_iff] at h; obtain ⟨z, _, h⟩ := h; cases h; exact .refl _
  case fieldAddr => simp only [Option.map_eq_some_iff] at h; obtain ⟨z, _, h⟩ := h; cases h; exact .refl _
  case field =>
    split at h
    · simp only [Option.map_eq_some_iff] at h; obtain ⟨z, _, h⟩ := h; cases h; exact .refl _
    · cases h
  case indexAddr => simp only [Option.map_eq_some_iff] at h; obtain ⟨z, _, h⟩ := h; cases h; exact .refl _
  case index => simp only [Option.map_eq_some_iff] at h; obtain ⟨z, _, h⟩ := h; cases h; exact .refl _
  case lookup => simp only [Option.map_eq_some_iff] at h; obtain ⟨z, _, h⟩ := h; cases h; exact .refl _
  case mapUpdate => exact absurd rfl hq
  case extract =>
    split at h
    · simp only [Option.map_eq_some_iff] at h; obtain ⟨z, _, h⟩ := h; cases h; exact .refl _
    · cases h
  case call c =>
    obtain ⟨callee, args, ats⟩ := c
    cases callee <;> simp only at h <;> try (cases h; done)
    case value f => exact (hc _ _ _ _ _ h).1
    case builtin b =>
      cases b <;> try (simp [cls] at hq; done)
      all_goals
        unfold builtinV at h
        split at h <;> first
          | (cases h; done)
          | (rename_i hb _; cases hb; done)
          | (split at h <;> first
              | (simp only [Option.map_eq_some_iff] at h; obtain ⟨z, _, h⟩ := h; cases h; exact .refl _)
              | (cases h; exact .refl _)
              | cases h)

section
variable {base : Nat} {Z : Nat → Prop} {φ : Place} {H HF : Heap} {w : World} {lo hi : Nat} {x y : V} {cv cu cx : Value} {W : Nat → Prop}

theorem bounds_of {env : Env} {a : Act} {l : Option Operand} (h : ∀ x ∈ l.toArray, VRel φ W w (evO env x) (a.eval x)) : Bounds φ W w (l.map (evO env)) (l.map a.eval) := by
  cases l with
  | none => exact ⟨fun v hv => by simp at hv, fun _ => rfl⟩
  | some x => exact ⟨fun v hv => by simp at hv; exact ⟨_, rfl, by rw [← hv]; exact h x (by simp)⟩, fun hv => by simp at hv⟩

theorem len_one {xs : List V} {cxs : Array Value} (h : ArgsRel φ W w xs cxs) {x : V} (he : xs = [x]) : ∃ c, cxs = #[c] ∧ VRel φ W w x c := by
  subst he
  obtain ⟨h1, h2⟩ := h
  have hs : cxs.size = 1 := by simpa using h1.symm
  refine ⟨cxs[0], ?_, h2 0 x _ rfl (by simp [hs])⟩
  apply Array.ext
  · simp [hs]
  · intro i hi1 hi2
    match i, hi1, hi2 with
    | 0, _, _ => rfl

theorem len_two {xs : List V} {cxs : Array Value} (h : ArgsRel φ W w xs cxs) {x y : V} (he : xs = [x, y]) : ∃ c d, cxs = #[c, d] ∧ VRel φ W w x c ∧ VRel φ W w y d := by
  subst he
  obtain ⟨h1, h2⟩ := h
  have hs : cxs.size = 2 := by simpa using h1.symm
  refine ⟨cxs[0], cxs[1], ?_, h2 0 x _ rfl (by simp [hs]), h2 1 y _ rfl (by simp [hs])⟩
  apply Array.ext
  · simp [hs]
  · intro i hi1 hi2
    match i, hi1, hi2 with
    | 0, _, _ => rfl
    | 1, _, _ => rfl

/-- An operation that writes nothing, among others of which some may be done already. -/
theorem q_op {o : Oper} {env : Env} {a : Act} {r : V} {H' : Heap} {call : CallV} (hcall : QCall P call) (I : Inv base Z φ HF w) (hr : ∀ x ∈ o.op.operands, VRel φ (Wr φ HF Z) w (evO env x) (a.eval x))
    (hq : cls P o ≠ 2) (h : evOp P call env H o = some (r, H')) (hle : Le H' HF) (hu : ∀ b, H.length ≤ b → b < H'.length → φ b = .unborn) : Does P o a w (Leaves base Z φ HF w H.length H'.length r) := by
  by_cases h0 : cls P o = 0
  · obtain ⟨rfl, h1⟩ := q_plain I hr h0 h
    exact h1 _ _
  have hleH := (evOp_le hcall hq h).trans hle
  obtain ⟨dst, op, type, pos, after, guard⟩ := o
  cases op <;> simp only [evOp] at h <;> try (cases h; done)
  all_goals try (exact absurd rfl h0)
  all_goals try (exact absurd rfl hq)
  case assign x =>
    have h2 := congrArg Prod.snd (Option.some.inj h)
    have h3 := congrArg Prod.fst (Option.some.inj h)
    simp only at h2 h3
    subst h2
    subst h3
    obtain ⟨φ', h1⟩ := ownify_ok I (hr x (by simp [Op.operands])) hle hu
    exact Does.run rfl ⟨φ', h1⟩
  case alloc t =>
    split at h
    · rename_i z hz
      split at h
      · rename_i cs
        split at h
        · cases h
        · rename_i hne
          split at h
          · rename_i e he
            cases h
            obtain rfl := bldE_some he
            have := p_alloc_bld (φ := φ) (HF := HF) (w := w) hz I hle (by simpa using hu)
            simp only [List.length_append, List.length_cons, List.length_nil, Nat.zero_add]
            exact Does.sem rfl this
          · cases h
            have := p_alloc_agg (φ := φ) (HF := HF) (w := w) hz (by simpa using hne) I rfl hle (by simpa using hu)
            simp only [List.length_append, List.length_cons, List.length_nil, Nat.zero_add]
            exact Does.sem rfl this
      · rename_i hag
        split at h
        · rename_i hst
          cases h
          have := p_alloc_one (φ := φ) (HF := HF) (w := w) hz (fun cs e => hag cs e) hst I rfl hle (by simpa using hu)
          simp only [List.length_append, List.length_cons, List.length_nil, Nat.zero_add]
          exact Does.sem rfl this
        · cases h
    · cases h
  case box t x =>
    split at h
    · rename_i hc
      cases h
      have := p_box (P := P) (t := t) I (hr x (by simp [Op.operands])) hc.2.1 hc.2.2 hle (hu _ (Nat.le_refl _) (by simp))
      simp only [List.length_append, List.length_cons, List.length_nil, Nat.zero_add]
      exact Does.sem rfl this
    · cases h
  case buildSlice t n ps =>
    obtain ⟨h1, h2⟩ := parts_of (φ := φ) (W := Wr φ HF Z) (w := w) (env := env) (a := a) (ps := ps) (by simpa only [Op.operands] using hr)
    exact Does.sem rfl (p_buildSlice I h1 h2 h hle hu)
  case load t x =>
    simp only [Option.map_eq_some_iff] at h
    obtain ⟨z, hz, h⟩ := h
    cases h
    exact Does.sem rfl (stay I (r_load I hle (hr x (by simp [Op.operands])) hz))
  case nilCheck x =>
    have hx := hr x (by simp [Op.operands])
    split at h
    · rename_i b t i o he
      split at h
      · rename_i hl
        cases h
        rw [he] at hx
        obtain ⟨c, s, _, hv⟩ := ptr_live I hx (live_le hle hl)
        exact Does.run (v := a.eval x) (w' := w) (by simp [execOp, hv]) ⟨φ, .still I hx⟩
      · cases h
    · rename_i e he
      cases h
      rw [he] at hx
      obtain ⟨c, hv, _⟩ := rop_mem hx
      exact Does.run (v := a.eval x) (w' := w) (by simp [execOp, hv]) ⟨φ, .still I hx⟩
    · rename_i f cs he
      cases h
      rw [he] at hx
      obtain ⟨vs, hv⟩ : ∃ vs, a.eval x = .func (.func f) #[] vs := by generalize a.eval x = cv at hx; cases hx; exact ⟨_, rfl⟩
      exact Does.run (v := a.eval x) (w' := w) (by simp [execOp, hv]) ⟨φ, .still I hx⟩
    · rename_i f cs he
      cases h
      rw [he] at hx
      obtain ⟨vs, hv⟩ : ∃ vs, a.eval x = .func (.func f) vs #[] := by generalize a.eval x = cv at hx; cases hx; exact ⟨_, rfl⟩
      exact Does.run (v := a.eval x) (w' := w) (by simp [execOp, hv]) ⟨φ, .still I hx⟩
    · cases h
  case convert s d x => exact Does.sem rfl (p_conv I (hr x (by simp [Op.operands])) h hle hu)
  case sliceToArrayPointer t x =>
    simp only [Option.map_eq_some_iff] at h
    obtain ⟨z, hz, h⟩ := h
    cases h
    exact Does.sem rfl (stay I (r_arrAt I hle (hr x (by simp [Op.operands])) hz))
  case makeMap t rs =>
    cases rs <;> simp only at h <;> try (cases h; done)
    cases h
    have := p_makeMap (P := P) (t := t) I hle (hu _ (Nat.le_refl _) (by simp))
    simp only [List.length_append, List.length_cons, List.length_nil, Nat.zero_add]
    exact Does.sem rfl this
  case makeSlice t l c => exact Does.sem rfl (p_makeSlice I (hr l (by simp [Op.operands])) (hr c (by simp [Op.operands])) h hle hu)
  case slice t x lo hi mx =>
    cases mx <;> simp only at h
    case some mx =>
      simp only [Option.map_eq_some_iff] at h
      obtain ⟨z, hz, h⟩ := h
      cases h
      exact Does.sem rfl (stay I (r_slice3 I hle (hr x (by simp [Op.operands])) (bounds_of fun y hy => hr y (by simp [Op.operands] at hy ⊢; simp [hy])) (bounds_of fun y hy => hr y (by simp [Op.operands] at hy ⊢; simp [hy])) (hr mx (by simp [Op.operands])) hz))
    simp only [Option.map_eq_some_iff] at h
    obtain ⟨z, hz, h⟩ := h
    cases h
    exact Does.sem rfl (stay I (r_slice I hle (hr x (by simp [Op.operands])) (bounds_of fun y hy => hr y (by simp [Op.operands] at hy ⊢; simp [hy])) (bounds_of fun y hy => hr y (by simp [Op.operands] at hy ⊢; simp [hy])) hz))
  case fieldAddr t x f =>
    simp only [Option.map_eq_some_iff] at h
    obtain ⟨z, hz, h⟩ := h
    cases h
    exact Does.sem rfl (stay I (r_fieldAddr I hle (hr x (by simp [Op.operands])) hz))
  case indexAddr t x i =>
    simp only [Option.map_eq_some_iff] at h
    obtain ⟨z, hz, h⟩ := h
    cases h
    exact Does.sem rfl (stay I (r_indexAddr I hle (hr x (by simp [Op.operands])) (hr i (by simp [Op.operands])) hz))
  case lookup t m k ok =>
    simp only [Option.map_eq_some_iff] at h
    obtain ⟨z, hz, h⟩ := h
    cases h
    exact Does.sem rfl (stay I (r_lookup I hle (hr m (by simp [Op.operands])) (hr k (by simp [Op.operands])) hz))
  case call c =>
    obtain ⟨callee, args, ats⟩ := c
    cases callee <;> simp only at h <;> try (cases h; done)
    case value f =>
      exact Does.enter rfl rfl ((hcall _ _ _ _ _ h).2 base Z φ HF w _ _ I (hr f (by simp [Op.operands, Call.operands])) (args_of fun x hx => hr x (by simp [Op.operands, Call.operands, hx])) hle hu)
    case builtin b =>
      have hargs := args_of (φ := φ) (W := Wr φ HF Z) (w := w) (env := env) (a := a) (args := args) (fun x hx => hr x (by simp [Op.operands, Call.operands, hx]))
      cases b <;> first | exact absurd rfl h0 | exact absurd rfl hq | skip
      all_goals
        generalize hxs : args.toList.map (evO env) = xs at h hargs
        unfold builtinV at h
        split at h <;> first
          | (cases h; done)
          | contradiction
          | skip
      split at h
      · rename_i x hb t hts
        simp only [Option.map_eq_some_iff] at h
        obtain ⟨z, hz, h⟩ := h
        cases h
        obtain ⟨c, e1, e2⟩ := len_one hargs rfl
        have ht : ats = #[t] := by rw [← Array.toList_inj]; simpa using hts
        exact Does.sem (s := Builtin.len_ #[t] type #[c]) (by simp only [execOp, resolve, invoke, builtin, pure_bind, e1, ht]) (stay I (r_len I hle e2 hz))
      · cases h

end

end Go.Abs

namespace Go.Abs
open Go.RowKit
set_option linter.unusedVariables false
set_option linter.unusedSimpArgs false

variable {P : Program}

section
variable {base : Nat} {Z : Nat → Prop} {φ : Place} {H HF : Heap} {w : World} {lo hi : Nat} {x y : V} {cv cu cx : Value} {W : Nat → Prop}

theorem leaves_turns {H' : Heap} {r : V} {v : Value} {w' : World} (I : Inv base Z φ H w) (hle : Le H H') (h : Leaves base Z φ H' w lo hi r v w') : Turns base Z φ H w H' r v w' :=
  let ⟨φ', h⟩ := h; ⟨φ', h.toE I hle⟩

theorem unborn_new (I : Inv base Z φ H w) {n : Nat} : ∀ b, H.length ≤ b → b < n → φ b = .unborn := fun b h _ => I.born b h

/-- Any operation, where nothing else is left out. -/
theorem e_op {o : Oper} {env : Env} {a : Act} {r : V} {H' : Heap} {call : CallV} (hcall : ECall P call) (I : Inv base Z φ H w) (hr : ∀ x ∈ o.op.operands, VRel φ (Wr φ H Z) w (evO env x) (a.eval x))
    (h : evOp P call env H o = some (r, H')) : Does P o a w (Turns base Z φ H w H' r) := by
  by_cases hv : ∃ f args ats, o.op = .call ⟨.value f, args, ats⟩
  · obtain ⟨f, args, ats, ho⟩ := hv
    obtain ⟨dst, op, type, pos, after, guard⟩ := o
    simp only at ho
    subst ho
    simp only [evOp] at h
    exact Does.enter rfl rfl (hcall _ _ _ _ _ h base Z φ w _ _ I (hr f (by simp [Op.operands, Call.operands])) (args_of fun x hx => hr x (by simp [Op.operands, Call.operands, hx])))
  have h' : evOp P (fun _ _ _ => none) env H o = some (r, H') := by
    obtain ⟨dst, op, type, pos, after, guard⟩ := o
    cases op
    case call c =>
      obtain ⟨callee, args, ats⟩ := c
      cases callee
      · exact absurd ⟨_, _, _, rfl⟩ hv
      all_goals simpa only [evOp] using h
    case makeFunc fn _ _ => cases fn <;> exact h
    case makeMap t r => cases r <;> exact h
    case slice t x lo hi mx => cases mx <;> exact h
    all_goals exact h
  have hq0 : QCall P (fun _ _ _ => none) := fun H xf xs r H' h => by cases h
  by_cases hq : cls P o = 2
  case neg =>
    have hle := evOp_le hq0 hq h'
    exact (q_op hq0 (I.le hle) (fun x hx => frz_rel I hle (hr x hx)) hq h' (.refl _) (unborn_new I)).mono fun v w' hl => leaves_turns I hle hl
  clear h
  obtain ⟨dst, op, type, pos, after, guard⟩ := o
  cases op <;> try (simp [cls] at hq; done)
  case convert s d x =>
    simp only [cls] at hq
    split at hq <;> cases hq
  case store t x y =>
    simp only [evOp, Option.map_eq_some_iff] at h'
    obtain ⟨z, hz, h'⟩ := h'
    cases h'
    exact Does.semu rfl (e_store I (hr x (by simp [Op.operands])) (hr y (by simp [Op.operands])) hz)
  case mapUpdate t m k x =>
    simp only [evOp, Option.map_eq_some_iff] at h'
    obtain ⟨z, hz, h'⟩ := h'
    cases h'
    exact Does.semu rfl (e_mapUpdate I (hr m (by simp [Op.operands])) (hr k (by simp [Op.operands])) (hr x (by simp [Op.operands])) hz)
  case call c =>
    obtain ⟨callee, args, ats⟩ := c
    cases callee <;> try (simp [cls] at hq; done)
    rename_i b
    have hargs := args_of (φ := φ) (W := Wr φ H Z) (w := w) (env := env) (a := a) (args := args) (fun x hx => hr x (by simp [Op.operands, Call.operands, hx]))
    cases b <;> try (simp [cls] at hq; done)
    all_goals
      simp only [evOp] at h'
      generalize hxs : args.toList.map (evO env) = xs at h' hargs
      unfold builtinV at h'
      split at h' <;> first
        | (cases h'; done)
        | contradiction
        | skip
    · split at h'
      · rename_i s x hb t u hts
        split at h'
        · cases h'
        · rename_i hu
          obtain ⟨c, d, e1, e2, e3⟩ := len_two hargs rfl
          have ht : ats = #[t, u] := by rw [← Array.toList_inj]; simpa using hts
          exact Does.sem (s := Builtin.append_ #[t, u] type #[c, d]) (by simp only [execOp, resolve, invoke, builtin, pure_bind, e1, ht]) (e_append I e2 e3 (by simpa using fun e => hu (.inl e)) (by
            cases hn : (P.underlying u).isNone with
            | false => rfl
            | true => exact absurd (.inr hn) hu) h')
      · cases h'
    · split at h'
      · rename_i x hb t hts
        obtain ⟨c, e1, e2⟩ := len_one hargs rfl
        have ht : ats = #[t] := by rw [← Array.toList_inj]; simpa using hts
        exact Does.sem (s := Builtin.clear_ #[t] type #[c]) (by simp only [execOp, resolve, invoke, builtin, pure_bind, e1, ht]) (e_clear I e2 h')
      · cases h'
    · split at h'
      · rename_i s x hb t u hts
        obtain ⟨c, d, e1, e2, e3⟩ := len_two hargs rfl
        have ht : ats = #[t, u] := by rw [← Array.toList_inj]; simpa using hts
        exact Does.sem (s := Builtin.copy_ #[t, u] type #[c, d]) (by simp only [execOp, resolve, invoke, builtin, pure_bind, e1, ht]) (e_copy I e2 e3 h')
      · cases h'

/-- The slots of a call. -/
def EnvRel (φ : Place) (W : Nat → Prop) (w : World) (env : Env) (tmps : Array Value) : Prop := ∀ t, VRel φ W w (env.get t) (tmps.getD t undef)

theorem EnvRel.eval {env : Env} {a : Act} (h : EnvRel φ W w env a.tmps) (x : Operand) : VRel φ W w (evO env x) (a.eval x) := evO_ok x fun t _ => h t

theorem EnvRel.mono {h0 : Nat} {φ' : Place} {W' : Nat → Prop} {w' : World} {env : Env} {tmps : Array Value} (E : Ext h0 φ W w φ' W' w') (hb : ∀ b, φ b ≠ .unborn → b < h0) (h : EnvRel φ W w env tmps) : EnvRel φ' W' w' env tmps :=
  fun t => (h t).mono E hb

theorem EnvRel.put {env : Env} {a : Act} (h : EnvRel φ W w env a.tmps) {d : Option Nat} {v : Value} (hv : VRel φ W w x v) (hd : ∀ i, d = some i → i < a.tmps.size) : EnvRel φ W w (env.put d x) (a.put d v).tmps := by
  cases d with
  | none => exact h
  | some i =>
    intro t
    have hi := hd i rfl
    simp only [Env.put, Env.get, Act.put]
    by_cases ht : t = i
    · subst ht
      rw [if_pos rfl]
      simpa [hi] using hv
    · rw [if_neg ht]
      have : (a.tmps.setIfInBounds i v).getD t undef = a.tmps.getD t undef := by simp [Array.getElem?_setIfInBounds_ne (Ne.symm ht)]
      rw [this]
      exact h t

theorem put_size {a : Act} {d : Option Nat} {v : Value} : (a.put d v).tmps.size = a.tmps.size := by cases d <;> simp [Act.put]
theorem put_defers {a : Act} {d : Option Nat} {v : Value} : (a.put d v).defers = a.defers := by cases d <;> rfl

theorem wanted_ok {ops : Array Oper} {env : Env} {a : Act} {o : Oper} (h : ∀ t ∈ o.looksAt ops, VRel φ W w (env.get t) (a.tmps.getD t undef)) :
    match wantedV ops env o with
    | .yes => Region.wanted o (yielded ops a.tmps) = true
    | .no => Region.wanted o (yielded ops a.tmps) = false
    | .stuck => True := by
  unfold wantedV Region.wanted
  cases hg : o.guard with
  | none => rfl
  | some gw =>
    obtain ⟨j, want⟩ := gw
    simp only
    cases hd : (ops[j]?).bind (·.dst) with
    | none => simp [yielded, hd]
    | some d =>
      simp only
      have hr := h d (by simp [Oper.looksAt, hg, hd])
      have hget : a.tmps.getD d undef = ((a.tmps[d]?).getD undef) := by simp
      rw [hget] at hr
      cases hv : env.get d <;> simp only [hv] at hr ⊢
      case bool b =>
        cases ht : a.tmps[d]? with
        | none => rw [ht] at hr; cases hr
        | some u =>
          rw [ht] at hr
          cases hr
          by_cases hb : b = want
          · rw [if_pos hb]; simp [yielded, hd, ht, hb]
          · rw [if_neg hb]; simp [yielded, hd, ht, hb]
      case tuple vs =>
        cases vs with
        | nil =>
          cases ht : a.tmps[d]? with
          | none => simp [yielded, hd, ht]
          | some u =>
            rw [ht] at hr
            cases hr
            simp [yielded, hd, ht]
        | cons => trivial

end

end Go.Abs

namespace Go.Abs
open Go.RowKit
set_option linter.unusedVariables false
set_option linter.unusedSimpArgs false

variable {P : Program}

/-- The state of a call. -/
structure St (n base : Nat) (Z : Nat → Prop) (φ : Place) (env : Env) (H : Heap) (a : Act) (w : World) : Prop where
  inv : Inv base Z φ H w
  rel : EnvRel φ (Wr φ H Z) w env a.tmps
  size : n ≤ a.tmps.size
  defers : a.defers = []

def Moves (n base : Nat) (Z : Nat → Prop) (h0 : Nat) (φ : Place) (H : Heap) (w : World) (env' : Env) (H' : Heap) (a' : Act) (w' : World) : Prop :=
  ∃ φ', St n base Z φ' env' H' a' w' ∧ Step base h0 φ (Wr φ H Z) w φ' (Wr φ' H' Z) w' ∧ h0 ≤ H'.length

section
variable {n base h0 : Nat} {Z : Nat → Prop} {φ : Place} {H HF : Heap} {w : World} {env : Env} {a : Act}

theorem Moves.still (S : St n base Z φ env H a w) (hh : h0 ≤ H.length) : Moves n base Z h0 φ H w env H a w := ⟨φ, S, .refl .., hh⟩

theorem Moves.trans {φ1 : Place} {H1 H2 : Heap} {w1 w2 : World} {env2 : Env} {a2 : Act} (h : Step base h0 φ (Wr φ H Z) w φ1 (Wr φ1 H1 Z) w1) (k : Moves n base Z h0 φ1 H1 w1 env2 H2 a2 w2) : Moves n base Z h0 φ H w env2 H2 a2 w2 :=
  let ⟨φ2, s, t, l⟩ := k; ⟨φ2, s, h.trans t, l⟩

/-- One operation. -/
theorem St.turn {φ' : Place} {H' : Heap} {r : V} {v : Value} {w' : World} {d : Option Nat} (S : St n base Z φ env H a w) (hd : ∀ i, d = some i → i < n) (h : EOK base Z φ H w H' r v φ' w') : St n base Z φ' (env.put d r) H' (a.put d v) w' where
  inv := h.inv
  rel := EnvRel.put (S.rel.mono h.step.ext (fun _ => S.inv.lt)) h.rel fun i hi => Nat.lt_of_lt_of_le (hd i hi) S.size
  size := by rw [put_size]; exact S.size
  defers := by rw [put_defers]; exact S.defers

theorem St.skip {d : Option Nat} (S : St n base Z φ env H a w) (hd : ∀ i, d = some i → i < n) : St n base Z φ (env.put d (.tuple [])) H (a.put d undef) w where
  inv := S.inv
  rel := S.rel.put (.tuple [] #[] rfl (by simp)) fun i hi => Nat.lt_of_lt_of_le (hd i hi) S.size
  size := by rw [put_size]; exact S.size
  defers := by rw [put_defers]; exact S.defers

theorem drop_cons {α : Type} {l : List α} {k : Nat} {o : α} {r : List α} (h : l.drop k = o :: r) : l[k]? = some o ∧ l.drop (k + 1) = r ∧ k < l.length := by
  have h1 : k < l.length := by
    rcases Nat.lt_or_ge k l.length with h1 | h1
    · exact h1
    · rw [List.drop_eq_nil_of_le h1] at h; cases h
  rw [List.drop_eq_getElem_cons h1] at h
  cases h
  exact ⟨List.getElem?_eq_getElem h1, rfl, h1⟩

/-- Operations in the order in which they stand. -/
theorem seq_ops {call : Op → CallV} {ops : Array Oper} {Q : Exit → Act → World → Prop} (hcall : ∀ o, ECall P (call o)) (hd : dstsOk n ops = true) : ∀ (l : List Oper) (k : Nat) (env : Env) (H : Heap) (φ : Place) (a : Act) (w : World) (env' : Env) (H' : Heap),
    ops.toList.drop k = l → St n base Z φ env H a w → h0 ≤ H.length → evOps P call ops l env H = some (env', H') →
    (∀ a' w', Moves n base Z h0 φ H w env' H' a' w' → Q .normal a' w') → wpOps P ops Q (List.range' k (ops.size - k)) a w
  | [], k, env, H, φ, a, w, env', H', hl, S, hh, h, hQ => by
    have hk : ops.size - k = 0 := by
      have := congrArg List.length hl
      simpa using this
    rw [hk]
    simp only [evOps] at h
    cases h
    exact hQ a w (.still S hh)
  | o :: r, k, env, H, φ, a, w, env', H', hl, S, hh, h, hQ => by
    obtain ⟨h1, h2, h3⟩ := drop_cons hl
    rw [Array.length_toList] at h3
    rw [Array.getElem?_toList] at h1
    have hk : ops.size - k = (ops.size - (k + 1)) + 1 := by omega
    have ho := Array.all_eq_true_iff_forall_mem.1 hd o (Array.mem_of_getElem? h1)
    have hdo : ∀ i, o.dst = some i → i < n := fun i hi => by simpa [hi] using ho
    rw [hk, List.range'_succ, wpOps_cons]
    unfold wpOp
    simp only [h1]
    have hw := wanted_ok (ops := ops) (o := o) (env := env) (a := a) (φ := φ) (W := Wr φ H Z) (w := w) (fun t _ => S.rel t)
    simp only [evOps] at h
    cases hwv : wantedV ops env o with
    | stuck => rw [hwv] at h; cases h
    | no =>
      rw [hwv] at h hw
      simp only at hw h
      rw [hw]
      simp only [Bool.false_eq_true, if_false]
      exact seq_ops hcall hd r (k + 1) _ H φ _ w env' H' h2 (S.skip hdo) hh h hQ
    | yes =>
      rw [hwv] at h hw
      simp only at hw h
      rw [hw]
      simp only [if_true]
      cases hev : evOp P (call o.op) env H o with
      | none => rw [hev] at h; cases h
      | some vh =>
        obtain ⟨v, H1⟩ := vh
        rw [hev] at h
        simp only at h
        refine .inl (e_op (hcall _) S.inv (fun x _ => S.rel.eval x) hev _ _ fun cv w1 ht => ?_)
        obtain ⟨φ1, ht⟩ := ht
        exact seq_ops hcall hd r (k + 1) _ H1 φ1 _ w1 env' H' h2 (S.turn hdo ht) (Nat.le_trans hh ht.len) h fun a' w' hm => hQ a' w' (hm.trans (ht.step.mono hh))

end

end Go.Abs

namespace Go.Abs
open Go.RowKit
set_option linter.unusedVariables false
set_option linter.unusedSimpArgs false

variable {P : Program}

theorem QCall.toE {call : CallV} (h : QCall P call) : ECall P call := fun H xf xs r H' hc base Z φ w cf cxs I hf hx => by
  obtain ⟨hle, h⟩ := h _ _ _ _ _ hc
  obtain ⟨f, first, caps, fn, h1, h2, h3, h4, h5⟩ := h base Z φ H' w cf cxs (I.le hle) (frz_rel I hle hf) ⟨hx.1, fun i x c a b => frz_rel I hle (hx.2 i x c a b)⟩ (.refl _) (unborn_new I)
  exact ⟨f, first, caps, fn, h1, h2, h3, h4, Calls.mono h5 fun e w' ⟨v, he, hl⟩ => ⟨v, he, leaves_turns I hle hl⟩⟩

/-- The states of a region, operation by operation. -/
def Tr (P : Program) (call : Op → CallV) (ops : Array Oper) (E : Nat → Env) (G : Nat → Heap) : Prop :=
  ∀ k o, ops[k]? = some o → ∃ v, E (k + 1) = (E k).put o.dst v ∧ ((wantedV ops (E k) o = .yes ∧ evOp P (call o.op) (E k) (G k) o = some (v, G (k + 1))) ∨ (wantedV ops (E k) o = .no ∧ v = .tuple [] ∧ G (k + 1) = G k))

theorem trace {call : Op → CallV} {ops : Array Oper} : ∀ (l : List Oper) (k : Nat) (env : Env) (H : Heap) (env' : Env) (H' : Heap), ops.toList.drop k = l → k ≤ ops.size → evOps P call ops l env H = some (env', H') →
    ∃ (E : Nat → Env) (G : Nat → Heap), E k = env ∧ G k = H ∧ E ops.size = env' ∧ G ops.size = H' ∧ (∀ j, k ≤ j → j ≤ ops.size → (states P call ops l env H)[j - k]? = some (E j, G j)) ∧ ∀ j o, k ≤ j → ops[j]? = some o → ∃ v, E (j + 1) = (E j).put o.dst v ∧ ((wantedV ops (E j) o = .yes ∧ evOp P (call o.op) (E j) (G j) o = some (v, G (j + 1))) ∨ (wantedV ops (E j) o = .no ∧ v = .tuple [] ∧ G (j + 1) = G j))
  | [], k, env, H, env', H', hl, hk, h => by
    have hk' : k = ops.size := by
      have := congrArg List.length hl
      simp at this
      omega
    simp only [evOps] at h
    cases h
    exact ⟨fun _ => env, fun _ => H, rfl, rfl, rfl, rfl, fun j h1 h2 => by rw [show j - k = 0 by omega]; rfl, fun j o hj ho => by have := (Array.getElem?_eq_some_iff.1 ho).1; omega⟩
  | o :: r, k, env, H, env', H', hl, hk, h => by
    obtain ⟨h1, h2, h3⟩ := drop_cons hl
    rw [Array.length_toList] at h3
    rw [Array.getElem?_toList] at h1
    have key : ∀ v H1, evOps P call ops r (env.put o.dst v) H1 = some (env', H') → ((wantedV ops env o = .yes ∧ evOp P (call o.op) env H o = some (v, H1)) ∨ (wantedV ops env o = .no ∧ v = .tuple [] ∧ H1 = H)) →
        ∃ (E : Nat → Env) (G : Nat → Heap), E k = env ∧ G k = H ∧ E ops.size = env' ∧ G ops.size = H' ∧ (∀ j, k ≤ j → j ≤ ops.size → (states P call ops (o :: r) env H)[j - k]? = some (E j, G j)) ∧ ∀ j o, k ≤ j → ops[j]? = some o → ∃ v, E (j + 1) = (E j).put o.dst v ∧ ((wantedV ops (E j) o = .yes ∧ evOp P (call o.op) (E j) (G j) o = some (v, G (j + 1))) ∨ (wantedV ops (E j) o = .no ∧ v = .tuple [] ∧ G (j + 1) = G j)) := fun v H1 hr hc => by
      obtain ⟨E, G, e1, e2, e3, e4, e6, e5⟩ := trace r (k + 1) _ _ _ _ h2 (by omega) hr
      have hst : states P call ops (o :: r) env H = (env, H) :: states P call ops r (env.put o.dst v) H1 := by
        rcases hc with ⟨a1, a2⟩ | ⟨a1, rfl, rfl⟩
        · simp only [states, a1, a2]
        · simp only [states, a1]
      refine ⟨fun i => if i = k then env else E i, fun i => if i = k then H else G i, by simp, by simp, by simp only; rw [if_neg (by omega)]; exact e3, by simp only; rw [if_neg (by omega)]; exact e4, fun j h1 h2 => ?_, fun j o' hj ho' => ?_⟩
      · rw [hst]
        by_cases hjk : j = k
        · subst hjk
          rw [Nat.sub_self]
          simp
        · rw [show j - k = (j - (k + 1)) + 1 by omega, List.getElem?_cons_succ]
          simp only [if_neg hjk]
          exact e6 j (by omega) h2
      simp only
      by_cases hjk : j = k
      · subst hjk
        rw [h1] at ho'
        cases ho'
        refine ⟨v, by simp [e1], ?_⟩
        simp only [if_pos, if_neg (show ¬ j + 1 = j by omega), e2]
        exact hc
      · obtain ⟨u, p1, p2⟩ := e5 j o' (by omega) ho'
        refine ⟨u, ?_, ?_⟩
        · rw [if_neg (by omega), if_neg hjk]; exact p1
        · rw [if_neg hjk, if_neg hjk, if_neg (by omega)]; exact p2
    simp only [evOps] at h
    cases hwv : wantedV ops env o with
    | stuck => rw [hwv] at h; cases h
    | no => rw [hwv] at h; exact key _ _ h (.inr ⟨hwv, rfl, rfl⟩)
    | yes =>
      rw [hwv] at h
      simp only at h
      cases hev : evOp P (call o.op) env H o with
      | none => rw [hev] at h; cases h
      | some vh =>
        rw [hev] at h
        exact key vh.1 vh.2 h (.inl ⟨hwv, hev⟩)

/-- A set of operations that holds, with each, those that must be done before it. -/
def Closed (ops : Array Oper) (L : Nat → Prop) : Prop := ∀ j o, ops[j]? = some o → L j → ∀ e ∈ edges o, L e

theorem mem_union {a b : List Nat} {i : Nat} (h : i ∈ union a b) : i ∈ a ∨ i ∈ b := by
  simp only [union, List.mem_append, List.mem_filter] at h
  exact h.imp (·.1) id

theorem mem_joinA {acc : List (List Nat)} : ∀ {es : List Nat} {i : Nat}, i ∈ joinA acc es → ∃ e ∈ es, i = e ∨ ∃ m, acc[e]? = some m ∧ i ∈ m
  | e :: es, i, h => by
    rcases mem_union h with h | h
    · rcases mem_union h with h | h
      · exact ⟨e, by simp, .inl (by simpa using h)⟩
      · cases hm : acc[e]? with
        | none => simp [hm] at h
        | some m => exact ⟨e, by simp, .inr ⟨m, hm, by simpa [hm] using h⟩⟩
    · obtain ⟨e', h1, h2⟩ := mem_joinA h
      exact ⟨e', by simp [h1], h2⟩

def AncOk (ops : Array Oper) (A : List (List Nat)) : Prop :=
  ∀ (j : Nat) (m : List Nat), A[j]? = some m → ∃ o, ops[j]? = some o ∧ ∀ i ∈ m, ∃ e ∈ edges o, i = e ∨ (e < j ∧ ∃ m', A[e]? = some m' ∧ i ∈ m')

theorem ancs_ok {ops : Array Oper} : ∀ (l : List Oper) (acc : List (List Nat)), ops.toList.drop acc.length = l → AncOk ops acc → AncOk ops (ancs l acc) ∧ (ancs l acc).length = acc.length + l.length
  | [], acc, _, h => ⟨h, rfl⟩
  | o :: r, acc, hl, h => by
    obtain ⟨h1, h2, h3⟩ := drop_cons hl
    rw [Array.getElem?_toList] at h1
    simp only [ancs]
    have := ancs_ok r (acc ++ [joinA acc (edges o)]) (by rw [List.length_append]; exact h2) (fun j m hm => by
      rcases Nat.lt_or_ge j acc.length with hj | hj
      · rw [List.getElem?_append_left hj] at hm
        obtain ⟨o', p1, p2⟩ := h j m hm
        refine ⟨o', p1, fun i hi => ?_⟩
        obtain ⟨e, q1, q2⟩ := p2 i hi
        refine ⟨e, q1, q2.imp id fun ⟨hlt, m', q3, q4⟩ => ⟨hlt, m', ?_, q4⟩⟩
        rw [List.getElem?_append_left (List.getElem?_eq_some_iff.1 q3).1]
        exact q3
      · rw [List.getElem?_append_right hj] at hm
        have hj' : j = acc.length := by
          have := (List.getElem?_eq_some_iff.1 hm).1
          simp at this
          omega
        subst hj'
        simp at hm
        subst hm
        refine ⟨o, h1, fun i hi => ?_⟩
        obtain ⟨e, q1, q2⟩ := mem_joinA hi
        refine ⟨e, q1, q2.imp id fun ⟨m', q3, q4⟩ => ⟨(List.getElem?_eq_some_iff.1 q3).1, m', ?_, q4⟩⟩
        rw [List.getElem?_append_left (List.getElem?_eq_some_iff.1 q3).1]
        exact q3)
    refine ⟨this.1, ?_⟩
    rw [this.2]
    simp
    omega

theorem anc_in {ops : Array Oper} {A : List (List Nat)} {L : Nat → Prop} (hA : AncOk ops A) (hc : Closed ops L) : ∀ (j : Nat) (m : List Nat) (o : Oper), A[j]? = some m → ops[j]? = some o → (∀ e ∈ edges o, L e) → ∀ i ∈ m, L i := fun j => by
  induction j using Nat.strongRecOn with
  | _ j ih =>
    intro m o hm ho he i hi
    obtain ⟨o', h1, h2⟩ := hA j m hm
    rw [ho] at h1
    cases h1
    obtain ⟨e, q1, q2⟩ := h2 i hi
    rcases q2 with rfl | ⟨hlt, m', q3, q4⟩
    · exact he _ q1
    · obtain ⟨oe, r1, _⟩ := hA e m' q3
      exact ih e hlt m' oe q3 r1 (hc e oe r1 (he e q1)) i q4

/-- What the check of a region gives. -/
structure DOk (kl : Oper → Nat) (ops : Array Oper) (A : List (List Nat)) : Prop where
  anc : AncOk ops A
  back : ∀ (j : Nat) (o : Oper), ops[j]? = some o → ∀ e ∈ edges o, e < j
  uniq : ∀ (i j : Nat) (x y : Oper) (d : Nat), i < j → ops[i]? = some x → ops[j]? = some y → x.dst = some d → y.dst ≠ some d
  ord : ∀ (i j : Nat) (x y : Oper), i < j → ops[i]? = some x → ops[j]? = some y → confl kl ops x y = true → ∃ m, A[j]? = some m ∧ i ∈ m

theorem dOk_spec {kl : Oper → Nat} {ops : Array Oper} (h : dOk kl ops = true) : DOk kl ops (ancs ops.toList []) := by
  obtain ⟨h1, h2⟩ := ancs_ok (ops := ops) ops.toList [] (by simp) (fun j m hm => by simp at hm)
  have hl : (ancs ops.toList []).length = ops.size := by simpa using h2
  unfold dOk at h
  rw [List.all_eq_true] at h
  have key : ∀ j y, ops[j]? = some y → ∃ an, (ancs ops.toList [])[j]? = some an ∧ (∀ e ∈ edges y, e < j) ∧ ∀ i x, ops[i]? = some x → i < j → (x.dst = none ∨ x.dst ≠ y.dst) ∧ (confl kl ops x y = true → i ∈ an) := fun j y hy => by
    have hj := (Array.getElem?_eq_some_iff.1 hy).1
    have ha : (ancs ops.toList [])[j]? = some ((ancs ops.toList [])[j]'(by omega)) := List.getElem?_eq_getElem _
    have hm := h ((y, j), (ancs ops.toList [])[j]'(by omega)) (List.mem_of_getElem? (i := j) (by
      rw [List.getElem?_zip_eq_some]
      exact ⟨by simp [List.getElem?_zipIdx, hy], ha⟩))
    simp only [Bool.and_eq_true, List.all_eq_true] at hm
    refine ⟨_, ha, fun e he => by simpa using hm.1 e he, fun i x hx hij => ?_⟩
    have hx' := hm.2 (x, i) (List.mem_of_getElem? (i := i) (by simp [List.getElem?_zipIdx, hx]))
    simp only [hij, decide_true, Bool.not_true, Bool.false_or, Bool.and_eq_true, Bool.or_eq_true, List.contains_iff_mem] at hx'
    refine ⟨?_, fun hcf => ?_⟩
    · rcases hx'.1 with h | h
      · left; simpa using h
      · right; simpa using h
    · rcases hx'.2 with h | h
      · rw [hcf] at h; cases h
      · exact h
  refine ⟨h1, fun j o ho => ?_, fun i j x y d hij hx hy hd hd' => ?_, fun i j x y hij hx hy hc => ?_⟩
  · obtain ⟨_, _, h3, _⟩ := key j o ho
    exact h3
  · obtain ⟨_, _, _, h4⟩ := key j y hy
    rcases (h4 i x hx hij).1 with h | h
    · rw [hd] at h; cases h
    · exact h (hd.trans hd'.symm)
  · obtain ⟨an, h2, _, h4⟩ := key j y hy
    exact ⟨an, h2, (h4 i x hx hij).2 hc⟩

end Go.Abs

namespace Go.Abs
open Go.RowKit
set_option linter.unusedVariables false
set_option linter.unusedSimpArgs false

variable {P : Program}

/-- The calls of a region. -/
structure LCall (P : Program) (ld : FuncId → Bool) (call : Op → CallV) : Prop where
  q : ∀ o, loudOp ld o = false → QCall P (call o)
  e : ∀ o, ECall P (call o)
  len : ∀ o x xs H r H', call o x xs H = some (r, H') → H.length ≤ H'.length

theorem loud_of {ld : FuncId → Bool} {o : Oper} (h : clsL P ld o ≠ 2) : loudOp ld o.op = false := by
  unfold clsL at h
  cases hl : loudOp ld o.op with
  | false => rfl
  | true => rw [hl] at h; exact absurd rfl h
theorem cls_of {ld : FuncId → Bool} {o : Oper} (h : clsL P ld o ≠ 2) : cls P o ≠ 2 := by
  have h1 := loud_of h
  unfold clsL at h
  rw [h1] at h
  exact h
theorem cls_zero {ld : FuncId → Bool} {o : Oper} (h : clsL P ld o = 0) : cls P o = 0 := by
  unfold clsL at h
  split at h
  · cases h
  · exact h

/-- What a class of operations must say. -/
structure KOk (P : Program) (ld : FuncId → Bool) (kl : Oper → Nat) : Prop where
  loud : ∀ o, kl o ≠ 2 → loudOp ld o.op = false ∧ cls P o ≠ 2
  same : ∀ (o : Oper) (call : CallV) env H r H', kl o = 0 → evOp P call env H o = some (r, H') → H' = H

/-- The next operation that writes. -/
theorem nextLoud (kl : Oper → Nat) (ops : Array Oper) : ∀ (n k : Nat), ops.size - k = n → k ≤ ops.size → ∃ p, k ≤ p ∧ p ≤ ops.size ∧ (∀ j o, k ≤ j → j < p → ops[j]? = some o → kl o ≠ 2) ∧ (∀ o, ops[p]? = some o → kl o = 2)
  | 0, k, hn, hk => ⟨k, Nat.le_refl _, hk, fun j o h1 h2 => by omega, fun o ho => by have := (Array.getElem?_eq_some_iff.1 ho).1; omega⟩
  | n + 1, k, hn, hk => by
    have hlt : k < ops.size := by omega
    by_cases hc : kl ops[k] = 2
    · exact ⟨k, Nat.le_refl _, hk, fun j o h1 h2 => by omega, fun o ho => by rw [Array.getElem?_eq_getElem hlt] at ho; cases ho; exact hc⟩
    · obtain ⟨p, h1, h2, h3, h4⟩ := nextLoud kl ops n (k + 1) (by omega) (by omega)
      refine ⟨p, by omega, h2, fun j o hj1 hj2 ho => ?_, h4⟩
      by_cases hj : j = k
      · subst hj
        rw [Array.getElem?_eq_getElem hlt] at ho
        cases ho
        exact hc
      · exact h3 j o (by omega) hj2 ho

section
variable {call : Op → CallV} {ld : FuncId → Bool} {kl : Oper → Nat} {ops : Array Oper} {E : Nat → Env} {G : Nat → Heap} {A : List (List Nat)}

theorem Tr.le (hcall : LCall P ld call) (K : KOk P ld kl) (T : Tr P call ops E G) {k : Nat} {o : Oper} (ho : ops[k]? = some o) (hq : kl o ≠ 2) : Le (G k) (G (k + 1)) := by
  obtain ⟨v, _, ⟨_, h⟩ | ⟨_, _, h⟩⟩ := T k o ho
  · exact evOp_le (hcall.q _ (K.loud _ hq).1) (K.loud _ hq).2 h
  · rw [h]; exact .refl _

theorem Tr.leTo (hcall : LCall P ld call) (K : KOk P ld kl) (T : Tr P call ops E G) : ∀ (n k : Nat), k + n ≤ ops.size → (∀ j o, k ≤ j → j < k + n → ops[j]? = some o → kl o ≠ 2) → Le (G k) (G (k + n))
  | 0, k, _, _ => .refl _
  | n + 1, k, hn, h => by
    have h1 := Tr.leTo hcall K T n k (by omega) (fun j o a b => h j o a (by omega))
    have hlt : k + n < ops.size := by omega
    exact h1.trans (T.le hcall K (Array.getElem?_eq_getElem hlt) (h (k + n) _ (by omega) (by omega) (Array.getElem?_eq_getElem hlt)))

theorem Tr.leTo' (hcall : LCall P ld call) (K : KOk P ld kl) (T : Tr P call ops E G) {k m : Nat} (hkm : k ≤ m) (hm : m ≤ ops.size) (h : ∀ j o, k ≤ j → j < m → ops[j]? = some o → kl o ≠ 2) : Le (G k) (G m) := by
  obtain ⟨d, rfl⟩ := Nat.exists_eq_add_of_le hkm
  exact T.leTo hcall K d k hm h

theorem Env.get_put {e : Env} {d : Option Nat} {v : V} {t : Nat} (h : d ≠ some t) : (e.put d v).get t = e.get t := by
  cases d with
  | none => rfl
  | some i =>
    simp only [Env.put, Env.get]
    rw [if_neg (fun hh => h (by rw [hh]))]

theorem Env.get_put_same {e : Env} {d : Nat} {v : V} : (e.put (some d) v).get d = v := by simp [Env.put, Env.get]

theorem Tr.get (T : Tr P call ops E G) {t : Nat} : ∀ (n k : Nat), k + n ≤ ops.size → (∀ j o, k ≤ j → j < k + n → ops[j]? = some o → o.dst ≠ some t) → (E (k + n)).get t = (E k).get t
  | 0, k, _, _ => rfl
  | n + 1, k, hn, h => by
    have h1 := Tr.get T n k (by omega) (fun j o a b => h j o a (by omega))
    have hlt : k + n < ops.size := by omega
    obtain ⟨v, hv, _⟩ := T (k + n) _ (Array.getElem?_eq_getElem hlt)
    rw [← Nat.add_assoc, hv, Env.get_put (h (k + n) _ (by omega) (by omega) (Array.getElem?_eq_getElem hlt)), h1]

theorem Tr.get' (T : Tr P call ops E G) {t k m : Nat} (hkm : k ≤ m) (hm : m ≤ ops.size) (h : ∀ j o, k ≤ j → j < m → ops[j]? = some o → o.dst ≠ some t) : (E m).get t = (E k).get t := by
  obtain ⟨d, rfl⟩ := Nat.exists_eq_add_of_le hkm
  exact T.get d k hm h

variable {n base h0 : Nat} {Z : Nat → Prop} {φ0 : Place} {W0 : Nat → Prop} {w0 : World}

/-- Some of the operations done, in whatever order; p is the next that writes. -/
structure DS (kl : Oper → Nat) (ops : Array Oper) (E : Nat → Env) (G : Nat → Heap) (n base h0 : Nat) (Z : Nat → Prop) (φ0 : Place) (W0 : Nat → Prop) (w0 : World) (L : Nat → Prop) (p : Nat) (φ : Place) (a : Act) (w : World) : Prop where
  closed : Closed ops L
  pl : p ≤ ops.size
  lo : ∀ (j : Nat) (o : Oper), j < p → ops[j]? = some o → kl o = 2 → L j
  hi : ∀ (j : Nat) (o : Oper), p ≤ j → ops[j]? = some o → kl o = 2 → ¬ L j
  at_p : ∀ (o : Oper), ops[p]? = some o → kl o = 2
  inv : Inv base Z φ (G p) w
  r1 : ∀ (t : Nat), (∀ (j : Nat) (o : Oper), ops[j]? = some o → o.dst = some t → ¬ L j) → VRel φ (Wr φ (G p) Z) w ((E 0).get t) (a.tmps.getD t undef)
  r2 : ∀ (t j : Nat) (o : Oper), ops[j]? = some o → o.dst = some t → L j → VRel φ (Wr φ (G p) Z) w ((E ops.size).get t) (a.tmps.getD t undef)
  unb : ∀ (j : Nat) (o : Oper), ops[j]? = some o → ¬ L j → ∀ b, (G j).length ≤ b → b < (G (j + 1)).length → φ b = .unborn
  size : n ≤ a.tmps.size
  defers : a.defers = []
  step : Step base h0 φ0 W0 w0 φ (Wr φ (G p) Z) w
  len : h0 ≤ (G p).length

end

section
variable {call : Op → CallV} {ld : FuncId → Bool} {kl : Oper → Nat} {ops : Array Oper} {E : Nat → Env} {G : Nat → Heap} {A : List (List Nat)} {n base h0 : Nat} {Z : Nat → Prop} {φ0 : Place} {W0 : Nat → Prop} {w0 : World} {L : Nat → Prop} {p : Nat} {φ : Place} {a : Act} {w : World}

theorem DOk.uniq' (D : DOk kl ops A) {i j : Nat} {x y : Oper} {d : Nat} (hx : ops[i]? = some x) (hy : ops[j]? = some y) (h1 : x.dst = some d) (h2 : y.dst = some d) : i = j := by
  rcases Nat.lt_trichotomy i j with h | h | h
  · exact absurd h2 (D.uniq i j x y d h hx hy h1)
  · exact h
  · exact absurd h1 (D.uniq j i y x d h hy hx h2)

/-- What an operation reads that is ready. -/
theorem DS.reads (D : DOk kl ops A) (T : Tr P call ops E G) (S : DS kl ops E G n base h0 Z φ0 W0 w0 L p φ a w) {i : Nat} {o : Oper} (ho : ops[i]? = some o) (hi : ¬ L i) (he : ∀ e ∈ edges o, L e) (t : Nat) (ht : t ∈ o.looksAt ops) :
    VRel φ (Wr φ (G p) Z) w ((E i).get t) (a.tmps.getD t undef) := by
  have hlt := (Array.getElem?_eq_some_iff.1 ho).1
  by_cases hw : ∃ (j : Nat) (oj : Oper), ops[j]? = some oj ∧ oj.dst = some t
  · obtain ⟨j, oj, hj, hd⟩ := hw
    have hjl := (Array.getElem?_eq_some_iff.1 hj).1
    rcases Nat.lt_trichotomy j i with h | h | h
    · obtain ⟨m, hm, hjm⟩ := D.ord j i oj o h hj ho (by simp [confl, hd, ht])
      have hLj := anc_in D.anc S.closed i m o hm ho he j hjm
      have hg : (E ops.size).get t = (E i).get t := T.get' (Nat.le_of_lt hlt) (Nat.le_refl _) fun k ok h1 h2 hk hdk => by
        have := D.uniq' hk hj hdk hd
        omega
      rw [← hg]
      exact S.r2 t j oj hj hd hLj
    · subst h
      have hg : (E j).get t = (E 0).get t := T.get' (Nat.zero_le _) (Nat.le_of_lt hlt) fun k ok h1 h2 hk hdk => by
        have := D.uniq' hk hj hdk hd
        omega
      rw [hg]
      exact S.r1 t fun k ok hk hdk => by
        have := D.uniq' hk hj hdk hd
        subst this
        exact hi
    · obtain ⟨m, hm, hjm⟩ := D.ord i j o oj h ho hj (by simp [confl, hd, ht])
      have hg : (E i).get t = (E 0).get t := T.get' (Nat.zero_le _) (Nat.le_of_lt hlt) fun k ok h1 h2 hk hdk => by
        have := D.uniq' hk hj hdk hd
        omega
      rw [hg]
      refine S.r1 t fun k ok hk hdk hL => ?_
      have := D.uniq' hk hj hdk hd
      subst this
      exact hi (anc_in D.anc S.closed k m oj hm hj (S.closed k oj hj hL) i hjm)
  · have hg : (E i).get t = (E 0).get t := T.get' (Nat.zero_le _) (Nat.le_of_lt hlt) fun k ok h1 h2 hk hdk => hw ⟨k, ok, hk, hdk⟩
    rw [hg]
    exact S.r1 t fun k ok hk hdk => absurd ⟨k, ok, hk, hdk⟩ hw

theorem DS.evals (D : DOk kl ops A) (T : Tr P call ops E G) (S : DS kl ops E G n base h0 Z φ0 W0 w0 L p φ a w) {i : Nat} {o : Oper} (ho : ops[i]? = some o) (hi : ¬ L i) (he : ∀ e ∈ edges o, L e) (x : Operand) (hx : x ∈ o.op.operands) :
    VRel φ (Wr φ (G p) Z) w (evO (E i) x) (a.eval x) :=
  evO_ok x fun t ht => S.reads D T ho hi he t (by
    subst ht
    exact List.mem_append_left _ (List.mem_filterMap.2 ⟨.tmp t, by simpa using hx, rfl⟩))

theorem confl_loud {x y : Oper} (hx : kl x = 2) (hy : kl y ≠ 0) : confl kl ops x y = true := by simp [confl, hx, hy]
theorem confl_loud' {x y : Oper} (hx : kl y = 2) (hy : kl x ≠ 0) : confl kl ops x y = true := by simp [confl, hx, hy]

/-- One operation more, whatever it is: what is left to show. -/
theorem DS.more (hcall : LCall P ld call) (K : KOk P ld kl) (D : DOk kl ops A) (T : Tr P call ops E G) (S : DS kl ops E G n base h0 Z φ0 W0 w0 L p φ a w) {i : Nat} {o : Oper} (ho : ops[i]? = some o) (hi : ¬ L i) (he : ∀ e ∈ edges o, L e)
    (hd : ∀ d, o.dst = some d → d < n) {v : V} {cv : Value} {φ' : Place} {w' : World} {q p' : Nat} (hE : E (i + 1) = (E i).put o.dst v)
    (hq : q ≤ p') (hp' : p' ≤ ops.size) (hquiet : ∀ j o, q ≤ j → j < p' → ops[j]? = some o → kl o ≠ 2) (hat : ∀ o, ops[p']? = some o → kl o = 2)
    (hlo : ∀ (j : Nat) (x : Oper), j < p' → ops[j]? = some x → kl x = 2 → L j ∨ j = i) (hhi : ∀ (j : Nat) (x : Oper), p' ≤ j → ops[j]? = some x → kl x = 2 → ¬ L j ∧ j ≠ i)
    (I' : Inv base Z φ' (G q) w') (hst : Step base (G p).length φ (Wr φ (G p) Z) w φ' (Wr φ' (G q) Z) w') (hv : VRel φ' (Wr φ' (G q) Z) w' v cv) (hlen : (G p).length ≤ (G q).length)
    (hunb : ∀ (j : Nat) (x : Oper), ops[j]? = some x → ¬ L j → j ≠ i → ∀ b, (G j).length ≤ b → b < (G (j + 1)).length → φ' b = .unborn) :
    DS kl ops E G n base h0 Z φ0 W0 w0 (fun k => L k ∨ k = i) p' φ' (a.put o.dst cv) w' := by
  have hlt := (Array.getElem?_eq_some_iff.1 ho).1
  have hle : Le (G q) (G p') := T.leTo' hcall K hq hp' hquiet
  have frz : ∀ {x : V} {c : Value}, VRel φ' (Wr φ' (G q) Z) w' x c → VRel φ' (Wr φ' (G p') Z) w' x c := fun h => frz_rel I' hle h
  have mv : ∀ {x : V} {c : Value}, VRel φ (Wr φ (G p) Z) w x c → VRel φ' (Wr φ' (G p') Z) w' x c := fun h => frz (h.mono hst.ext (fun _ => S.inv.lt))
  have other : ∀ t, o.dst ≠ some t → (a.put o.dst cv).tmps.getD t undef = a.tmps.getD t undef := fun t ht => by
    cases hod : o.dst with
    | none => rfl
    | some d =>
      have : d ≠ t := fun e => ht (by rw [hod, e])
      simp [Act.put, Array.getElem?_setIfInBounds_ne this]
  have same : ∀ t, o.dst = some t → (a.put o.dst cv).tmps.getD t undef = cv := fun t ht => by
    have := Nat.lt_of_lt_of_le (hd t ht) S.size
    simp [Act.put, ht, this]
  have fin : ∀ t, o.dst = some t → (E ops.size).get t = v := fun t ht => by
    have hg : (E ops.size).get t = (E (i + 1)).get t := T.get' (by omega) (Nat.le_refl _) fun k ok h1 h2 hk hdk => by
      have := D.uniq' hk ho hdk ht
      omega
    rw [hg, hE, ht, Env.get_put_same]
  refine ⟨fun j oj hj hL e hme => ?_, hp', hlo, fun j x hj hx hc hL => ?_, hat, I'.le hle, fun t hn => ?_, fun t j oj hj hdj hL => ?_, fun j x hj hL b => hunb j x hj (fun h => hL (.inl h)) (fun h => hL (.inr h)) b, ?_, ?_, ?_, ?_⟩
  · rcases hL with hL | rfl
    · exact .inl (S.closed j oj hj hL e hme)
    · rw [ho] at hj
      cases hj
      exact .inl (he e hme)
  · have := hhi j x hj hx hc
    exact hL.elim this.1 this.2
  · have hot : o.dst ≠ some t := fun h => hn i o ho h (.inr rfl)
    rw [other t hot]
    exact mv (S.r1 t fun j oj hj hdj hL => hn j oj hj hdj (.inl hL))
  · rcases hL with hL | rfl
    · have hot : o.dst ≠ some t := fun h => by
        have := D.uniq' hj ho hdj h
        subst this
        exact hi hL
      rw [other t hot]
      exact mv (S.r2 t j oj hj hdj hL)
    · rw [ho] at hj
      cases hj
      rw [same t hdj, fin t hdj]
      exact frz hv
  · rw [put_size]; exact S.size
  · rw [put_defers]; exact S.defers
  · exact (S.step.trans (hst.mono S.len)).trans (Step.frz (wr_le hle fun b => I'.lt))
  · exact Nat.le_trans S.len (Nat.le_trans hlen hle.1)

end

end Go.Abs

