/- Proved here: part 5 of a sound evaluator for the model: what it computes of a call, the call does. No condition. -/
import Derived.Test.YtfgikfagblhkiaaGreatDoorA4
namespace Go.Abs
open Go.RowKit
set_option linter.unusedVariables false
set_option linter.unusedSimpArgs false

variable {P : Program}

theorem evOp_same {o : Oper} {env : Env} {H H' : Heap} {r : V} {call : CallV} (hq : cls P o = 0) (h : evOp P call env H o = some (r, H')) : H' = H := by
  obtain ⟨dst, op, type, pos, after, guard⟩ := o
  cases op <;> try (simp [cls] at hq; done)
  case move x => simp only [evOp] at h; cases h; rfl
  case pick c a b => simp only [evOp] at h; split at h <;> first | (cases h; rfl) | cases h
  case build => simp only [evOp, Option.map_eq_some_iff] at h; obtain ⟨z, _, h⟩ := h; cases h; rfl
  case binOp => simp only [evOp, Option.map_eq_some_iff] at h; obtain ⟨z, _, h⟩ := h; cases h; rfl
  case unOp => simp only [evOp, Option.map_eq_some_iff] at h; obtain ⟨z, _, h⟩ := h; cases h; rfl
  case convert s d x => simp only [evOp] at h; exact (conv_int (by simpa [cls] using hq) h).1
  case makeFunc f first caps =>
    cases f <;> simp only [evOp] at h <;> try (cases h; done)
    repeat' split at h
    all_goals first | (cases h; rfl) | cases h
  case field =>
    simp only [evOp] at h
    split at h
    · simp only [Option.map_eq_some_iff] at h; obtain ⟨z, _, h⟩ := h; cases h; rfl
    · cases h
  case index => simp only [evOp, Option.map_eq_some_iff] at h; obtain ⟨z, _, h⟩ := h; cases h; rfl
  case extract =>
    simp only [evOp] at h
    split at h
    · simp only [Option.map_eq_some_iff] at h; obtain ⟨z, _, h⟩ := h; cases h; rfl
    · cases h
  case call c =>
    obtain ⟨callee, args, ats⟩ := c
    cases callee <;> try (simp [cls] at hq; done)
    rename_i b
    cases b <;> try (simp [cls] at hq; done)
    all_goals
      simp only [evOp] at h
      unfold builtinV at h
      split at h <;> first
        | (cases h; done)
        | contradiction
        | (split at h <;> first | (cases h; rfl) | cases h)

theorem evOp_len {o : Oper} {env : Env} {H H' : Heap} {r : V} {call : CallV} (hc : ∀ x xs H r H', call x xs H = some (r, H') → H.length ≤ H'.length) (h : evOp P call env H o = some (r, H')) : H.length ≤ H'.length := by
  by_cases hq : cls P o = 2
  case neg =>
    by_cases hv : ∃ f args ats, o.op = .call ⟨.value f, args, ats⟩
    · obtain ⟨f, args, ats, ho⟩ := hv
      obtain ⟨dst, op, type, pos, after, guard⟩ := o
      simp only at ho
      subst ho
      simp only [evOp] at h
      exact hc _ _ _ _ _ h
    have h' : evOp P (fun _ _ _ => none) env H o = some (r, H') := by
      obtain ⟨dst, op, type, pos, after, guard⟩ := o
      cases op
      case call c =>
        obtain ⟨callee, args, ats⟩ := c
        cases callee
        · exact absurd ⟨_, _, _, rfl⟩ hv
        all_goals simpa only [evOp] using h
      case makeFunc fn _ _ => cases fn <;> exact h
      case makeMap t r => cases r <;> exact h
      case slice t x lo hi mx => cases mx <;> exact h
      all_goals exact h
    exact (evOp_le (fun H xf xs r H' h => by cases h) hq h').1
  obtain ⟨dst, op, type, pos, after, guard⟩ := o
  cases op <;> try (simp [cls] at hq; done)
  case convert s d x => simp only [cls] at hq; split at hq <;> cases hq
  case store t x y =>
    simp only [evOp, Option.map_eq_some_iff] at h
    obtain ⟨z, hz, h⟩ := h
    cases h
    unfold storeV at hz
    repeat' split at hz
    all_goals first
      | (cases hz; done)
      | (simp only [Option.map_eq_some_iff] at hz; obtain ⟨y, _, hz⟩ := hz; rw [← hz]; simp [freeze_length])
  case mapUpdate t m k x =>
    simp only [evOp, Option.map_eq_some_iff] at h
    obtain ⟨z, hz, h⟩ := h
    cases h
    unfold mapUpdateV at hz
    repeat' split at hz
    all_goals first
      | (cases hz; done)
      | (cases hz; simp [freeze_length])
  case call c =>
    obtain ⟨callee, args, ats⟩ := c
    cases callee <;> try (simp [cls] at hq; done)
    rename_i b
    cases b <;> try (simp [cls] at hq; done)
    all_goals
      simp only [evOp] at h
      unfold builtinV at h
      split at h <;> first
        | (cases h; done)
        | contradiction
        | skip
    · split at h
      · split at h
        · cases h
        · simp only [appendV, appendA] at h
          repeat' split at h
          all_goals first
            | (cases h; done)
            | (cases h; simp)
      · cases h
    · split at h
      · unfold clearV at h
        repeat' split at h
        all_goals first
          | (cases h; done)
          | (cases h; simp)
      · cases h
    · split at h
      · unfold copyV at h
        repeat' split at h
        all_goals first
          | (cases h; done)
          | (cases h; simp)
      · cases h

theorem filter_le {p q : Nat → Bool} : ∀ (l : List Nat), (∀ x, q x = true → p x = true) → (l.filter q).length ≤ (l.filter p).length
  | [], _ => by simp
  | x :: l, h => by
    have := filter_le l h
    simp only [List.filter_cons]
    cases hq : q x with
    | true => simp [h x hq]; exact this
    | false => cases p x <;> simp <;> omega

theorem filter_lt {p q : Nat → Bool} : ∀ (l : List Nat), (∀ x, q x = true → p x = true) → ∀ i ∈ l, p i = true → q i = false → (l.filter q).length < (l.filter p).length
  | x :: l, h, i, hi, hp, hq => by
    simp only [List.filter_cons]
    rcases List.mem_cons.1 hi with rfl | hi
    · have := filter_le l h
      simp [hp, hq]
      omega
    · have := filter_lt l h i hi hp hq
      cases hq' : q x with
      | true => simp [h x hq']; exact this
      | false => cases p x <;> simp <;> omega

section
variable {call : Op → CallV} {ld : FuncId → Bool} {kl : Oper → Nat} {ops : Array Oper} {E : Nat → Env} {G : Nat → Heap} {A : List (List Nat)} {n base h0 : Nat} {Z : Nat → Prop} {φ0 : Place} {W0 : Nat → Prop} {w0 : World} {p : Nat} {φ : Place} {a : Act} {w : World}

theorem Tr.len (hcall : LCall P ld call) (T : Tr P call ops E G) {k m : Nat} (hkm : k ≤ m) (hm : m ≤ ops.size) : (G k).length ≤ (G m).length := by
  induction hkm with
  | refl => exact Nat.le_refl _
  | @step m hkm ih =>
    refine Nat.le_trans (ih (by omega)) ?_
    have hlt : m < ops.size := by omega
    obtain ⟨v, _, ⟨_, h⟩ | ⟨_, _, h⟩⟩ := T m _ (Array.getElem?_eq_getElem hlt)
    · exact evOp_len (hcall.len _) h
    · rw [h]; exact Nat.le_refl _

/-- How much is left to do. -/
def left (ops : Array Oper) (listed : Array Bool) : Nat := ((List.range ops.size).filter fun k => !listed.getD k false).length

theorem any_ops {Q : Exit → Act → World → Prop} (hcall : LCall P ld call) (K : KOk P ld kl) (hfree : ∀ (i : Nat) (o : Oper) (v : V), ops[i]? = some o → kl o = 0 → wantedV ops (E i) o = .yes → evOp P (call o.op) (E i) (G i) o = some (v, G (i + 1)) → cls P o = 0 ∨ ∀ k, k ≤ ops.size → evOp P (call o.op) (E i) (G k) o = some (v, G k)) (D : DOk kl ops A) (T : Tr P call ops E G) (hds : dstsOk n ops = true) (hl0 : φ0 = φ0)
    (hQ : ∀ φ a' w', St n base Z φ (E ops.size) (G ops.size) a' w' → Step base h0 φ0 W0 w0 φ (Wr φ (G ops.size) Z) w' → h0 ≤ (G ops.size).length → Q .normal a' w') :
    ∀ (fuel : Nat) (listed : Array Bool) (a : Act) (w : World) (p : Nat) (φ : Place), listed.size = ops.size → left ops listed ≤ fuel → DS kl ops E G n base h0 Z φ0 W0 w0 (fun i => listed.getD i false = true) p φ a w → wpAny P .any ops Q fuel listed a w := by
  have done : ∀ (listed : Array Bool) (a : Act) (w : World) (p : Nat) (φ : Place), listed.size = ops.size → DS kl ops E G n base h0 Z φ0 W0 w0 (fun i => listed.getD i false = true) p φ a w → Region.ready .any ops listed = [] → Q .normal a w := fun listed a w p φ hs S hr => by
    have all : ∀ j, j < ops.size → listed.getD j false = true := fun j => by
      induction j using Nat.strongRecOn with
      | _ j ih =>
        intro hj
        cases hb : listed.getD j false with
        | true => rfl
        | false =>
          have ho : ops[j]? = some ops[j] := Array.getElem?_eq_getElem hj
          have : j ∈ Region.ready .any ops listed := mem_ready.2 ⟨by
              simp [hs, hj] at hb ⊢
              exact hb, _, ho, fun e he hbi => by
              have hlt := D.back j _ ho e.on (List.mem_map.2 ⟨e, List.mem_filter.2 ⟨by simpa using he, hbi⟩, rfl⟩)
              exact ih _ hlt (by omega)⟩
          rw [hr] at this
          cases this
    have hp : p = ops.size := by
      rcases Nat.lt_or_ge p ops.size with h | h
      · exact absurd (all p h) (S.hi p _ (Nat.le_refl _) (Array.getElem?_eq_getElem h) (S.at_p _ (Array.getElem?_eq_getElem h)))
      · have := S.pl; omega
    subst hp
    refine hQ φ a w ⟨S.inv, fun t => ?_, S.size, S.defers⟩ S.step S.len
    by_cases hw : ∃ (j : Nat) (oj : Oper), ops[j]? = some oj ∧ oj.dst = some t
    · obtain ⟨j, oj, hj, hd⟩ := hw
      exact S.r2 t j oj hj hd (all j (Array.getElem?_eq_some_iff.1 hj).1)
    · rw [T.get' (t := t) (Nat.zero_le _) (Nat.le_refl _) fun k ok h1 h2 hk hdk => hw ⟨k, ok, hk, hdk⟩]
      exact S.r1 t fun k ok hk hdk => absurd ⟨k, ok, hk, hdk⟩ hw
  intro fuel
  induction fuel with
  | zero =>
    intro listed a w p φ hs hf S
    have hr : Region.ready .any ops listed = [] := by
      cases hr : Region.ready .any ops listed with
      | nil => rfl
      | cons i r =>
        have hi : i ∈ Region.ready .any ops listed := by rw [hr]; simp
        obtain ⟨h1, o, ho, _⟩ := mem_ready.1 hi
        have hlt := (Array.getElem?_eq_some_iff.1 ho).1
        have : i ∈ (List.range ops.size).filter fun k => !listed.getD k false := List.mem_filter.2 ⟨List.mem_range.2 hlt, by
          simp [hs, hlt] at h1 ⊢
          exact h1⟩
        have := List.length_pos_of_mem this
        unfold left at hf
        omega
    exact ⟨hr, done listed a w p φ hs S hr⟩
  | succ fuel ih =>
    intro listed a w p φ hs hf S
    refine ⟨done listed a w p φ hs S, fun i hi => ?_⟩
    obtain ⟨h1, o, ho, he⟩ := mem_ready.1 hi
    have hlt := (Array.getElem?_eq_some_iff.1 ho).1
    have hli : listed.getD i false = false := by simp [hs, hlt] at h1 ⊢; exact h1
    have hLi : ¬ listed.getD i false = true := by rw [hli]; simp
    have hedge : ∀ e ∈ edges o, listed.getD e false = true := fun e hee => by
      obtain ⟨e', h2, rfl⟩ := List.mem_map.1 hee
      obtain ⟨h3, h4⟩ := List.mem_filter.1 h2
      exact he e' (by simpa using h3) h4
    have hd : ∀ d, o.dst = some d → d < n := fun d hdd => by
      have := Array.all_eq_true_iff_forall_mem.1 hds o (Array.mem_of_getElem? ho)
      simpa [hdd] using this
    have hset : (fun k => (listed.setIfInBounds i true).getD k false = true) = (fun k => listed.getD k false = true ∨ k = i) := by
      funext k
      apply propext
      by_cases hk : k = i
      · subst hk; simp [hs, hlt]
      · rw [getD_set_ne false (Ne.symm hk)]; simp [hk]
    have hleft : left ops (listed.setIfInBounds i true) ≤ fuel := by
      have : left ops (listed.setIfInBounds i true) < left ops listed := filter_lt _ (fun x hx => by
        by_cases hk : x = i
        · subst hk; simp [hs, hlt] at hx
        · rw [getD_set_ne false (Ne.symm hk)] at hx; exact hx) i (List.mem_range.2 hlt) (by simpa using hli) (by simp [hs, hlt])
      omega
    have next : ∀ (p' : Nat) (φ' : Place) (cv : Value) (w' : World), DS kl ops E G n base h0 Z φ0 W0 w0 (fun k => listed.getD k false = true ∨ k = i) p' φ' (a.put o.dst cv) w' →
        wpAny P .any ops Q fuel (listed.setIfInBounds i true) (a.put o.dst cv) w' := fun p' φ' cv w' S' =>
      ih _ _ _ p' φ' (by simp [hs]) hleft (by rw [hset]; exact S')
    -- where a writing operation stands
    have loudp : kl o = 2 → i = p := fun hc => by
      rcases Nat.lt_trichotomy i p with h | h | h
      · exact absurd (S.lo i o h ho hc) hLi
      · exact h
      · have hpl : p < ops.size := by omega
        have hop := Array.getElem?_eq_getElem hpl
        have hcp := S.at_p _ hop
        obtain ⟨m, hm, hpm⟩ := D.ord p i _ o h hop ho (confl_loud hcp (by rw [hc]; decide))
        exact absurd (anc_in D.anc S.closed i m o hm ho hedge p hpm) (S.hi p _ (Nat.le_refl _) hop hcp)
    have plainp : kl o ≠ 2 → kl o ≠ 0 → i < p := fun hc h0 => by
      rcases Nat.lt_trichotomy i p with h | h | h
      · exact h
      · subst h; exact absurd (S.at_p o ho) hc
      · have hpl : p < ops.size := by omega
        have hop := Array.getElem?_eq_getElem hpl
        have hcp := S.at_p _ hop
        obtain ⟨m, hm, hpm⟩ := D.ord p i _ o h hop ho (confl_loud hcp h0)
        exact absurd (anc_in D.anc S.closed i m o hm ho hedge p hpm) (S.hi p _ (Nat.le_refl _) hop hcp)
    have hwd := wanted_ok (ops := ops) (o := o) (env := E i) (a := a) (φ := φ) (W := Wr φ (G p) Z) (w := w) (fun t ht => S.reads D T ho hLi hedge t ht)
    obtain ⟨v, hE, hT⟩ := T i o ho
    -- the step at the place of a writing operation
    have atp : kl o = 2 → ∀ (φ' : Place) (cv : Value) (w' : World), Inv base Z φ' (G (i + 1)) w' → Step base (G p).length φ (Wr φ (G p) Z) w φ' (Wr φ' (G (i + 1)) Z) w' → VRel φ' (Wr φ' (G (i + 1)) Z) w' v cv →
        wpAny P .any ops Q fuel (listed.setIfInBounds i true) (a.put o.dst cv) w' := fun hc φ' cv w' I' hst hv => by
      have hip := loudp hc
      obtain ⟨p', q1, q2, q3, q4⟩ := nextLoud kl ops _ (i + 1) rfl (by omega)
      refine next p' φ' cv w' (S.more hcall K D T ho hLi hedge hd hE q1 q2 q3 q4 (fun j x hj hx hcx => ?_) (fun j x hj hx hcx => ⟨S.hi j x (by omega) hx hcx, by omega⟩) I' hst hv (T.len hcall (by omega) (by omega)) fun j x hx hLj hji b hb1 hb2 => ?_)
      · rcases Nat.lt_trichotomy j i with h | h | h
        · exact .inl (S.lo j x (by omega) hx hcx)
        · exact .inr h
        · exact absurd hcx (q3 j x h hj hx)
      · have hjl := (Array.getElem?_eq_some_iff.1 hx).1
        rcases Nat.lt_trichotomy j i with h | h | h
        · have hcj : kl x = 0 := by
            cases hcx : kl x with
            | zero => rfl
            | succ m =>
              obtain ⟨m', hm, hjm⟩ := D.ord j i x o h hx ho (confl_loud' hc (by rw [hcx]; simp))
              exact absurd (anc_in D.anc S.closed i m' o hm ho hedge j hjm) hLj
          obtain ⟨u, _, ⟨_, hh⟩ | ⟨_, _, hh⟩⟩ := T j x hx
          · rw [K.same _ _ _ _ _ _ hcj hh] at hb2; omega
          · rw [hh] at hb2; omega
        · exact absurd h hji
        · exact I'.born b (Nat.le_trans (T.len hcall h (by omega)) hb1)
    have other : kl o ≠ 2 → ∀ (φ' : Place) (cv : Value) (w' : World), Inv base Z φ' (G p) w' → Step base (G p).length φ (Wr φ (G p) Z) w φ' (Wr φ' (G p) Z) w' → VRel φ' (Wr φ' (G p) Z) w' v cv →
        (∀ (j : Nat) (x : Oper), ops[j]? = some x → ¬ listed.getD j false = true → j ≠ i → ∀ b, (G j).length ≤ b → b < (G (j + 1)).length → φ' b = .unborn) →
        wpAny P .any ops Q fuel (listed.setIfInBounds i true) (a.put o.dst cv) w' := fun hc φ' cv w' I' hst hv hu =>
      next p φ' cv w' (S.more hcall K D T ho hLi hedge hd hE (Nat.le_refl _) S.pl (fun j x h1 h2 => by omega) S.at_p (fun j x hj hx hcx => .inl (S.lo j x hj hx hcx)) (fun j x hj hx hcx => ⟨S.hi j x hj hx hcx, fun e => by
        subst e
        rw [ho] at hx
        cases hx
        exact hc hcx⟩) I' hst hv (Nat.le_refl _) hu)
    unfold wpOp
    simp only [ho]
    rcases hT with ⟨hwv, hev⟩ | ⟨hwv, rfl, hG⟩
    · rw [hwv] at hwd
      simp only at hwd
      rw [hwd]
      simp only [if_true]
      refine .inl ?_
      by_cases hc : kl o = 2
      · have hip := loudp hc
        have hr := fun x hx => S.evals D T ho hLi hedge x hx
        rw [← hip] at hr
        have I := S.inv
        rw [← hip] at I
        exact e_op (hcall.e _) I hr hev _ _ fun cv w' ⟨φ', ht⟩ => atp hc φ' cv w' ht.inv (by rw [← hip]; exact ht.step) ht.rel
      · by_cases hc0 : kl o = 0
        · rcases hfree i o v ho hc0 hwv hev with hp0 | hfr
          case inr =>
            have hev' := hfr p S.pl
            exact q_op (hcall.q _ (K.loud _ hc).1) S.inv (fun x hx => S.evals D T ho hLi hedge x hx) (K.loud _ hc).2 hev' (.refl _) (fun b h1 h2 => by omega) _ _ fun cv w' ⟨φ', hp⟩ => other hc φ' cv w' hp.inv (hp.step _) hp.rel fun j x hx hLj hji b hb1 hb2 => by
              rw [hp.same b (by rcases Nat.lt_or_ge b (G p).length with h | h; exact .inl h; exact .inr h)]
              exact S.unb j x hx hLj b hb1 hb2
          obtain ⟨hH, hdo⟩ := q_plain (H := G i) S.inv (fun x hx => S.evals D T ho hLi hedge x hx) hp0 hev
          exact hdo 0 0 _ _ fun cv w' ⟨φ', hp⟩ => other hc φ' cv w' hp.inv (hp.step _) hp.rel fun j x hx hLj hji b hb1 hb2 => by
            rw [hp.same b (.inr (Nat.zero_le _))]
            exact S.unb j x hx hLj b hb1 hb2
        · have hip := plainp hc hc0
          have hquiet : ∀ j x, i + 1 ≤ j → j < p → ops[j]? = some x → kl x ≠ 2 := fun j x h1 h2 hx hcx => by
            have hLj := S.lo j x h2 hx hcx
            obtain ⟨m, hm, hjm⟩ := D.ord i j o x (by omega) ho hx (confl_loud' hcx hc0)
            exact hLi (anc_in D.anc S.closed j m x hm hx (S.closed j x hx hLj) i hjm)
          have hle : Le (G (i + 1)) (G p) := T.leTo' hcall K hip S.pl hquiet
          exact q_op (hcall.q _ (K.loud _ hc).1) S.inv (fun x hx => S.evals D T ho hLi hedge x hx) (K.loud _ hc).2 hev hle (fun b hb1 hb2 => S.unb i o ho hLi b hb1 hb2) _ _ fun cv w' ⟨φ', hp⟩ =>
            other hc φ' cv w' hp.inv (hp.step _) hp.rel fun j x hx hLj hji b hb1 hb2 => by
              have hjl := (Array.getElem?_eq_some_iff.1 hx).1
              rw [hp.same b (by
                rcases Nat.lt_or_ge j i with h | h
                · exact .inl (Nat.lt_of_lt_of_le hb2 (T.len hcall h (by omega)))
                · exact .inr (Nat.le_trans (T.len hcall (by omega) (by omega)) hb1))]
              exact S.unb j x hx hLj b hb1 hb2
    · rw [hwv] at hwd
      simp only at hwd
      rw [hwd]
      simp only [Bool.false_eq_true, if_false]
      have hvr : ∀ {φ : Place} {W : Nat → Prop}, VRel φ W w (.tuple []) undef := .tuple [] #[] rfl (by simp)
      by_cases hc : kl o = 2
      · have hip := loudp hc
        exact atp hc φ undef w (by rw [hG, hip]; exact S.inv) (by rw [hG, hip]; exact .refl ..) hvr
      · exact other hc φ undef w S.inv (.refl ..) hvr fun j x hx hLj hji b hb1 hb2 => S.unb j x hx hLj b hb1 hb2

end

end Go.Abs

namespace Go.Abs
open Go.RowKit
set_option linter.unusedVariables false
set_option linter.unusedSimpArgs false

variable {P : Program}

section
variable {call : Op → CallV} {ld : FuncId → Bool} {ops : Array Oper} {n base h0 : Nat} {Z : Nat → Prop} {φ : Place} {H H' : Heap} {env env' : Env} {a : Act} {w : World}

theorem St.drew (S : St n base Z φ env H a w) : St n base Z φ env H a w.drew :=
  ⟨S.inv.drew, S.rel.mono (h0 := H.length) Ext.drew (fun _ => S.inv.lt), S.size, S.defers⟩

theorem clsF_ok {fl : List Nat} : KOk P ld (clsF P ld fl) where
  loud o h := by
    unfold clsF at h
    split at h
    · rename_i hf
      unfold isFree at hf
      rw [Bool.and_eq_true] at hf
      obtain ⟨dst, op, type, pos, after, guard⟩ := o
      cases op <;> first | (simp [readOp] at hf; done) | exact ⟨rfl, by simp [cls]⟩
    · exact ⟨loud_of h, cls_of h⟩
  same o call env H r H' h he := by
    unfold clsF at h
    split at h
    · rename_i hf
      unfold isFree at hf
      rw [Bool.and_eq_true] at hf
      obtain ⟨dst, op, type, pos, after, guard⟩ := o
      cases op <;> first | (simp [readOp] at hf; done) | skip
      case load => simp only [evOp, Option.map_eq_some_iff] at he; obtain ⟨z, _, he⟩ := he; cases he; rfl
      case nilCheck =>
        simp only [evOp] at he
        split at he
        · split at he <;> first | (cases he; rfl) | cases he
        · cases he; rfl
        · cases he; rfl
        · cases he; rfl
        · cases he
      case fieldAddr => simp only [evOp, Option.map_eq_some_iff] at he; obtain ⟨z, _, he⟩ := he; cases he; rfl
      case indexAddr => simp only [evOp, Option.map_eq_some_iff] at he; obtain ⟨z, _, he⟩ := he; cases he; rfl
    · exact evOp_same (cls_zero h) he

theorem free_ok {fl : List Nat} {E : Nat → Env} {G : Nat → Heap} (h : freeAll P call fl ops env H = true) (hs : ∀ j, 0 ≤ j → j ≤ ops.size → (states P call ops ops.toList env H)[j - 0]? = some (E j, G j)) (T : Tr P call ops E G) :
    ∀ (i : Nat) (o : Oper) (v : V), ops[i]? = some o → clsF P ld fl o = 0 → wantedV ops (E i) o = .yes → evOp P (call o.op) (E i) (G i) o = some (v, G (i + 1)) → cls P o = 0 ∨ ∀ k, k ≤ ops.size → evOp P (call o.op) (E i) (G k) o = some (v, G k) := fun i o v ho hk hw he => by
  by_cases hf : isFree fl o = true
  case neg =>
    unfold clsF at hk
    rw [if_neg hf] at hk
    exact .inl (cls_zero hk)
  right
  intro k hks
  have hi := (Array.getElem?_eq_some_iff.1 ho).1
  have h1 : freeOk P call fl ops (states P call ops ops.toList env H) = true := by
    unfold freeAll at h
    split at h
    · unfold isFree at hf
      rw [Bool.and_eq_true] at hf
      have := hf.2
      split at this <;> simp at this
    · exact h
  unfold freeOk at h1
  rw [List.all_eq_true] at h1
  have h2 := h1 (o, E i, G i) (List.mem_of_getElem? (i := i) (by
    rw [List.getElem?_zip_eq_some]
    exact ⟨by simpa using ho, hs i (Nat.zero_le _) (by omega)⟩))
  simp only [hf, hw, Bool.not_true, Bool.false_or, List.all_eq_true] at h2
  have h3 := h2 (E k, G k) (List.mem_of_getElem? (i := k) (hs k (Nat.zero_le _) hks))
  simp only at h3
  unfold sameR at h3
  rw [he] at h3
  split at h3
  · rename_i a b ha hb
    cases hb
    have e1 := beqV_eq _ _ h3
    obtain ⟨a1, a2⟩ := a
    simp only at e1
    subst e1
    have e2 := (clsF_ok (P := P) (ld := ld) (fl := fl)).same o _ _ _ _ _ hk ha
    rw [ha, e2]
  · cases h3

theorem region_ok {id : Nat} {draw : Bool} (hm : P.follows .mixedOrders = true) (hE : draw = false → ∀ o, ECall P (call o)) (hQ : draw = true → LCall P ld call) (hds : dstsOk n ops = true) {fl : List Nat} (hd : draw = true → dOk (clsF P ld fl) ops = true) (hfr : freeAll P call fl ops env H = true)
    (S : St n base Z φ env H a w) (hh : h0 ≤ H.length) (h : evOps P call ops ops.toList env H = some (env', H')) :
    (Code.region id ops draw).wp P (fun e a' w' => e = .normal ∧ Moves n base Z h0 φ H w env' H' a' w') a w := by
  cases draw with
  | false =>
    apply wp_region
    have := seq_ops (Q := fun e a' w' => e = .normal ∧ Moves n base Z h0 φ H w env' H' a' w') (h0 := h0) (hE rfl) hds ops.toList 0 env H φ a w env' H' (by simp) S hh h (fun a' w' hm => ⟨rfl, hm⟩)
    rw [List.range_eq_range']
    simpa using this
  | true =>
    apply wp_region_any hm
    have hq := hQ rfl
    obtain ⟨E, G, e1, e2, e3, e4, e6, T⟩ := trace (P := P) (call := call) (ops := ops) ops.toList 0 env H env' H' (by simp) (Nat.zero_le _) h
    have T' : Tr P call ops E G := fun k o ho => T k o (Nat.zero_le _) ho
    have D := dOk_spec (hd rfl)
    have S' := S.drew
    have hL : ∀ i, ¬ (Array.replicate ops.size false).getD i false = true := fun i => by
      simp [Array.getElem?_replicate]
      split <;> simp
    obtain ⟨p, q1, q2, q3, q4⟩ := nextLoud (clsF P ld fl) ops _ 0 rfl (Nat.zero_le _)
    have hle : Le (G 0) (G p) := T'.leTo' hq (clsF_ok) q1 q2 q3
    have I0 : Inv base Z φ (G 0) w.drew := by rw [e2]; exact S'.inv
    refine any_ops (φ0 := φ) (W0 := Wr φ H Z) (w0 := w) (h0 := h0) hq (clsF_ok) (free_ok hfr e6 T') D T' hds rfl (fun φ' a' w' hs hst hlen => ⟨rfl, φ', by rw [e3, e4] at hs; exact hs, by rw [e4] at hst; exact hst, by rw [e4] at hlen; exact hlen⟩) ops.size _ a _ p φ (by simp) ?_ ⟨fun j o hj hL' => absurd hL' (hL j), q2, fun j o hj ho hc => absurd hc (q3 j o (Nat.zero_le _) hj ho), fun j o _ _ _ => hL j, q4, I0.le hle, fun t _ => ?_, fun t j o _ _ hL' => absurd hL' (hL j), fun j o hj _ b hb1 hb2 => ?_, S'.size, S'.defers, ?_, ?_⟩
    · exact Nat.le_trans (List.length_filter_le _ _) (by simp)
    · rw [e1]
      have := S'.rel t
      rw [← e2] at this
      exact frz_rel I0 hle this
    · have hjl := (Array.getElem?_eq_some_iff.1 hj).1
      have := T'.len hq (Nat.zero_le j) (by omega)
      exact I0.born b (by omega)
    · have hle' : Le H (G p) := by rw [← e2]; exact hle
      exact Step.drew.trans (Step.frz (wr_le hle' fun b => S'.inv.lt))
    · have := hle.1
      rw [e2] at this
      omega

/-- The blocks renamed. -/
def moved (h0 : Nat) (K : List Nat) (φ : Place) : Place := fun b => if b < h0 then φ b else match K[b - h0]? with
  | some c => φ c
  | none => .unborn

theorem renL_at {ρ : Nat → Option Nat} : ∀ {cs : List V} {i : Nat}, (renL ρ cs)[i]? = (cs[i]?).map (ren ρ)
  | [], i => by simp [renL]
  | c :: cs, 0 => by simp [renL]
  | c :: cs, i + 1 => by simp [renL]; exact renL_at

theorem renL_length {ρ : Nat → Option Nat} : ∀ {cs : List V}, (renL ρ cs).length = cs.length
  | [] => rfl
  | c :: cs => by simp [renL, renL_length]

theorem renL_map {ρ : Nat → Option Nat} : ∀ {cs : List V}, renL ρ cs = cs.map (ren ρ)
  | [] => rfl
  | c :: cs => by simp [renL, renL_map]

theorem ren_agg {ρ : Nat → Option Nat} {e : V} (h : ∀ cs, e ≠ .agg cs) : ∀ cs, ren ρ e ≠ .agg cs := fun cs => by
  cases e <;> simp only [ren] <;> first | exact absurd rfl (h _) | exact fun h => (by cases h) | (split <;> exact fun h => (by cases h))

theorem ren_cells {ρ : Nat → Option Nat} {e : V} : (ren ρ e).cells = e.cells.map (ren ρ) := by
  by_cases ha : ∃ cs, e = .agg cs
  · obtain ⟨cs, rfl⟩ := ha
    simp [ren, V.cells, renL_map]
  · have h1 : ∀ cs, e ≠ .agg cs := fun cs h => ha ⟨cs, h⟩
    have hc : ∀ e : V, (∀ cs, e ≠ .agg cs) → e.cells = [e] := fun e h => by cases e <;> first | rfl | exact absurd rfl (h _)
    rw [hc _ (ren_agg h1), hc e h1]
    rfl

/-- Values under a renaming: where the new name stands, the old block is. -/
theorem VRel.ren {φ φ' : Place} {W W' : Nat → Prop} {w : World} {ρ : Nat → Option Nat} (hρ : ∀ b c, ρ b = some c → φ b ≠ .unborn → φ' c = φ b) (hW : ∀ c, W' c → W c) {x : V} {v : Value} (h : VRel φ W w x v) : VRel φ' W' w (ren ρ x) v := by
  induction h with
  | undef v => exact .undef v
  | bool b => exact .bool b
  | int k n => exact .int k n
  | str s => exact .str s
  | nils => exact .nils
  | nilm => exact .nilm
  | nilx k v h => exact .nilx k v h
  | agg cs vs hl h1 _ ih =>
    refine .agg _ vs (by rw [renL_length]; exact hl) h1 fun i c v hc hv => ?_
    rw [renL_at, Option.map_eq_some_iff] at hc
    obtain ⟨c0, hc0, rfl⟩ := hc
    exact ih i c0 v hc0 hv
  | tuple cs vs hl _ ih =>
    refine .tuple _ vs (by rw [renL_length]; exact hl) fun i c v hc hv => ?_
    rw [renL_at, Option.map_eq_some_iff] at hc
    obtain ⟨c0, hc0, rfl⟩ := hc
    exact ih i c0 v hc0 hv
  | fn f cs vs hl _ ih =>
    refine .fn f _ vs (by rw [renL_length]; exact hl) fun i c v hc hv => ?_
    rw [renL_at, Option.map_eq_some_iff] at hc
    obtain ⟨c0, hc0, rfl⟩ := hc
    exact ih i c0 v hc0 hv
  | sl es a cap s vals hcap h0' hp hs hWa hc hv ih =>
    have h := VRel.sl es a cap s vals hcap h0' hp hs hWa hc hv
    have hp' : pureV (.sl es) = true := rfl
    have h2 : VRel pure0 W' w (.sl es) _ := (h.toPure hp').mono (h0 := 0) (Ext.frz hW) (fun _ h => absurd rfl h)
    exact h2.ofPure
  | slnil => exact .slnil
  | own b tot off len v hv h0' h1 h2 h3 =>
    simp only [Abs.ren]
    cases hb : ρ b with
    | none => exact .undef v
    | some c =>
      have he := hρ b c hb h1
      exact .own c tot off len v hv h0' (by rw [he]; exact h1) (by rw [he]; exact h2) (by rw [he]; exact h3)
  | ptr b tot i off v hv h1 h2 h3 =>
    simp only [Abs.ren]
    cases hb : ρ b with
    | none => exact .undef v
    | some c =>
      have he := hρ b c hb h1
      exact .ptr c tot i off v hv (by rw [he]; exact h1) (by rw [he]; exact h2) (by rw [he]; exact h3)
  | meth f cs vs hl _ ih =>
    refine .meth f _ vs (by rw [renL_length]; exact hl) fun i c v hc hv => ?_
    rw [renL_at, Option.map_eq_some_iff] at hc
    obtain ⟨c0, hc0, rfl⟩ := hc
    exact ih i c0 v hc0 hv
  | view b tot i off len v hv h1 h2 h3 =>
    simp only [Abs.ren]
    cases hb : ρ b with
    | none => exact .undef v
    | some c =>
      have he := hρ b c hb h1
      exact .view c tot i off len v hv (by rw [he]; exact h1) (by rw [he]; exact h2) (by rw [he]; exact h3)
  | rop e a vals h0' hWa hc hv ih =>
    simp only [Abs.ren]
    refine .rop _ a vals (by rw [ren_cells]; simpa using h0') (fun h => hWa (hW _ h)) (fun j c hj => ?_) (fun j c hj => ?_)
    · rw [ren_cells, List.getElem?_map, Option.map_eq_some_iff] at hj
      obtain ⟨c0, hc0, rfl⟩ := hj
      exact hc j c0 hc0
    · rw [ren_cells, List.getElem?_map, Option.map_eq_some_iff] at hj
      obtain ⟨c0, hc0, rfl⟩ := hj
      exact ih j c0 hc0
  | mapr ks vs r es clock hWr hh h1 h2 hp hq hk hv ihk ihv =>
    have h := VRel.mapr ks vs r es clock hWr hh h1 h2 hp hq hk hv
    have h2 : VRel pure0 W' w (.mapr ks vs) _ := (h.toPure rfl).mono (h0 := 0) (Ext.frz hW) (fun _ h => absurd rfl h)
    exact h2.ofPure
  | mapn => exact .mapn
  | map b v hv h1 h3 =>
    simp only [Abs.ren]
    cases hb : ρ b with
    | none => exact .undef v
    | some c =>
      have he := hρ b c hb h1
      exact .map c v hv (by rw [he]; exact h1) (by rw [he]; exact h3)

end

end Go.Abs

namespace Go.Abs
open Go.RowKit
set_option linter.unusedVariables false
set_option linter.unusedSimpArgs false

variable {P : Program}

theorem indexOf_spec {b : Nat} : ∀ {K : List Nat} {i c : Nat}, indexOf b K i = some c → i ≤ c ∧ K[c - i]? = some b
  | [], i, c, h => by simp [indexOf] at h
  | k :: K, i, c, h => by
    simp only [indexOf] at h
    split at h
    · rename_i hb
      cases h
      simp [hb]
    · obtain ⟨h1, h2⟩ := indexOf_spec h
      refine ⟨by omega, ?_⟩
      have : c - i = (c - (i + 1)) + 1 := by omega
      rw [this]
      simpa using h2

theorem blocksOf_spec {H : Heap} : ∀ {K : List Nat} {r : Heap}, blocksOf H K = some r → r.length = K.length ∧ ∀ (i c : Nat), K[i]? = some c → r[i]? = H[c]?
  | [], r, h => by simp [blocksOf] at h; subst h; simp
  | k :: K, r, h => by
    simp only [blocksOf] at h
    cases hk : H[k]? with
    | none => simp [hk] at h
    | some x =>
      cases hr : blocksOf H K with
      | none => simp [hk, hr] at h
      | some r' =>
        simp [hk, hr] at h
        subst h
        obtain ⟨h1, h2⟩ := blocksOf_spec hr
        refine ⟨by simp [h1], fun i c hc => ?_⟩
        cases i with
        | zero => simp at hc; subst hc; simp [hk]
        | succ i => simpa using h2 i c (by simpa using hc)

theorem nodup_spec : ∀ {K : List Nat}, nodup K = true → ∀ (i j c : Nat), K[i]? = some c → K[j]? = some c → i = j
  | [], _, i, j, c, h, _ => by simp at h
  | k :: K, hn, i, j, c, hi, hj => by
    simp only [nodup, Bool.and_eq_true, Bool.not_eq_true'] at hn
    obtain ⟨h1, h2⟩ := hn
    have hnot : k ∉ K := by simpa using h1
    cases i with
    | zero =>
      cases j with
      | zero => rfl
      | succ j =>
        simp at hi hj
        subst hi
        exact absurd (List.mem_of_getElem? hj) hnot
    | succ i =>
      cases j with
      | zero =>
        simp at hi hj
        subst hj
        exact absurd (List.mem_of_getElem? hi) hnot
      | succ j =>
        have := nodup_spec h2 i j c (by simpa using hi) (by simpa using hj)
        omega

/-- Where a block was, before it was renamed. -/
def orig (h0 : Nat) (K : List Nat) (b : Nat) : Option Nat := if b < h0 then some b else K[b - h0]?

theorem moved_eq (h0 : Nat) (K : List Nat) (φ : Place) (b : Nat) : moved h0 K φ b = match orig h0 K b with | some c => φ c | none => .unborn := by
  unfold moved orig
  split
  · rfl
  · rfl

theorem renB_wr {ρ : Nat → Option Nat} {x : Blk} : (renB ρ x).wr = x.wr := by cases x <;> rfl

theorem BlkRel.ren {φ φ' : Place} {W W' : Nat → Prop} {w : World} {ρ : Nat → Option Nat} (hρ : ∀ b c, ρ b = some c → φ b ≠ .unborn → φ' c = φ b) (hW : ∀ c, W' c → W c) {x : Blk} {c s n : Nat} (h : BlkRel φ W w x c s n) : BlkRel φ' W' w (renB ρ x) c s n := by
  cases x with
  | dat wr sz es => exact ⟨h.1, h.2.1, h.2.2.mono (h0 := 0) (Ext.frz hW) (fun _ h => absurd rfl h) rfl⟩
  | map wr ks vs => exact ⟨h.1, h.2.mono (h0 := 0) (φ := pure0) (φ' := pure0) (Ext.frz hW) rfl⟩
  | dead => exact trivial
  | arr t sz es =>
    refine ⟨by rw [renL_length]; exact h.1, h.2.1, ?_, h.2.2.2⟩
    obtain ⟨h0, cs, t, fr, h1, h2, h3, h4⟩ := h.2.2.1
    refine ⟨h0, cs, t, fr, h1, by rw [renL_length]; exact h2, h3, fun i e' he => ?_⟩
    rw [renL_at, Option.map_eq_some_iff] at he
    obtain ⟨e, he, rfl⟩ := he
    obtain ⟨p1, p2⟩ := h4 i e he
    rw [ren_cells]
    refine ⟨by simpa using p1, fun j x hx => ?_⟩
    rw [List.getElem?_map, Option.map_eq_some_iff] at hx
    obtain ⟨x0, hx0, rfl⟩ := hx
    obtain ⟨v, q1, q2, q3⟩ := p2 j x0 hx0
    exact ⟨v, q1, q2, q3.ren hρ hW⟩
  | box e =>
    refine ⟨h.1, ?_⟩
    obtain ⟨h0, cs, t, fr, h1, h2, h3, h4⟩ := h.2
    refine ⟨h0, cs, t, fr, h1, by simpa using h2, h3, fun i e' he => ?_⟩
    cases i with
    | succ i => simp at he
    | zero =>
      simp at he
      subst he
      obtain ⟨p1, p2⟩ := h4 0 e rfl
      rw [ren_cells]
      refine ⟨by simpa using p1, fun j x hx => ?_⟩
      rw [List.getElem?_map, Option.map_eq_some_iff] at hx
      obtain ⟨x0, hx0, rfl⟩ := hx
      obtain ⟨v, q1, q2, q3⟩ := p2 j x0 hx0
      exact ⟨v, q1, q2, q3.ren hρ hW⟩

section
variable {base h0 : Nat} {Z : Nat → Prop} {φ : Place} {H H' : Heap} {w : World} {K : List Nat}

structure Packed (base h0 : Nat) (Z : Nat → Prop) (φ : Place) (H H' : Heap) (w : World) (K : List Nat) : Prop where
  inv : Inv base Z (moved h0 K φ) H' w
  rel : ∀ x v, VRel φ (Wr φ H Z) w x v → VRel (moved h0 K φ) (Wr (moved h0 K φ) H' Z) w (ren (toK h0 K) x) v
  step : Step base h0 φ (Wr φ H Z) w (moved h0 K φ) (Wr (moved h0 K φ) H' Z) w
  len : h0 ≤ H'.length

theorem pack_ok (I : Inv base Z φ H w) (hh : h0 ≤ H.length) (h : pack h0 K H = some H') : Packed base h0 Z φ H H' w K := by
  unfold pack at h
  split at h
  case isFalse => cases h
  rename_i hc
  simp only [Bool.and_eq_true, List.all_eq_true, decide_eq_true_eq] at hc
  obtain ⟨hn, hall⟩ := hc
  cases hr : blocksOf H K with
  | none => rw [hr] at h; cases h
  | some r =>
    rw [hr] at h
    simp only at h
    cases h
    obtain ⟨r1, r2⟩ := blocksOf_spec hr
    have hlen : ((H.take h0 ++ r).map (renB (toK h0 K))).length = h0 + K.length := by simp [r1]; omega
    have horg : ∀ b, ((H.take h0 ++ r).map (renB (toK h0 K)))[b]? = ((orig h0 K b).bind (H[·]?)).map (renB (toK h0 K)) := fun b => by
      rw [List.getElem?_map]
      congr 1
      unfold orig
      split
      · rename_i hb
        rw [List.getElem?_append_left (by simp; omega), List.getElem?_take, if_pos hb]
        rfl
      · rename_i hb
        rw [List.getElem?_append_right (by simp; omega)]
        have : b - (H.take h0).length = b - h0 := by simp; omega
        rw [this]
        cases hk : K[b - h0]? with
        | none => simp; have := List.getElem?_eq_none_iff.1 hk; omega
        | some c => exact r2 _ c hk
    have hinj : ∀ b b' c, orig h0 K b = some c → orig h0 K b' = some c → b = b' := fun b b' c h1 h2 => by
      unfold orig at h1 h2
      split at h1
      · cases h1
        split at h2
        · cases h2; rfl
        · have := hall _ (List.mem_of_getElem? h2); omega
      · split at h2
        · cases h2
          have := hall _ (List.mem_of_getElem? h1); omega
        · have := nodup_spec hn _ _ _ h1 h2
          omega
    have hρ : ∀ b c, toK h0 K b = some c → φ b ≠ .unborn → moved h0 K φ c = φ b := fun b c hb _ => by
      unfold toK at hb
      split at hb
      · rename_i hlt
        cases hb
        simp [moved, hlt]
      · obtain ⟨h1, h2⟩ := indexOf_spec hb
        unfold moved
        rw [if_neg (by omega), h2]
    have hborn : ∀ b l, moved h0 K φ b = l → l ≠ .unborn → ∃ c, orig h0 K b = some c ∧ φ c = l := fun b l hb hl => by
      rw [moved_eq] at hb
      cases ho : orig h0 K b with
      | none => rw [ho] at hb; exact absurd hb.symm hl
      | some c => rw [ho] at hb; exact ⟨c, rfl, hb⟩
    have hW : ∀ c, Wr (moved h0 K φ) ((H.take h0 ++ r).map (renB (toK h0 K))) Z c → Wr φ H Z c := fun c hc => by
      rcases hc with hc | ⟨b, s, n, x, p1, p2, p3⟩
      · exact .inl hc
      · obtain ⟨o, q1, q2⟩ := hborn b _ p1 (by simp)
        rw [horg, q1] at p2
        simp only [Option.bind_some, Option.map_eq_some_iff] at p2
        obtain ⟨x0, e1, e2⟩ := p2
        exact .inr ⟨o, s, n, x0, q2, e1, by rw [← e2, renB_wr] at p3; exact p3⟩
    have hblk : ∀ b o x, orig h0 K b = some o → H[o]? = some x → ((H.take h0 ++ r).map (renB (toK h0 K)))[b]? = some (renB (toK h0 K) x) := fun b o x h1 h2 => by
      rw [horg, h1]; simp [h2]
    refine ⟨⟨I.hz, I.hb, fun b hb => ?_, fun b b' c s n s' n' h1 h2 => ?_, fun b c s n hb => ?_, fun b c s n hb => ?_, fun b hb => ?_⟩, fun x v hx => hx.ren hρ hW, ⟨⟨fun b hb hu => ?_, fun c _ hc => hW c hc, fun _ _ _ => rfl, fun _ _ h => h, Nat.le_refl _⟩, .refl ..⟩, by rw [hlen]; omega⟩
    · rw [hlen] at hb
      unfold moved
      rw [if_neg (by omega), List.getElem?_eq_none (by omega)]
    · obtain ⟨o, q1, q2⟩ := hborn b _ h1 (by simp)
      obtain ⟨o', q1', q2'⟩ := hborn b' _ h2 (by simp)
      have := I.inj _ _ _ _ _ _ _ q2 q2'
      subst this
      exact hinj _ _ _ q1 q1'
    · obtain ⟨o, q1, q2⟩ := hborn b _ hb (by simp)
      exact I.rng _ _ _ _ q2
    · obtain ⟨o, q1, q2⟩ := hborn b _ hb (by simp)
      obtain ⟨x, hx, hrel⟩ := I.blk _ _ _ _ q2
      exact ⟨_, hblk b o x q1 hx, hrel.ren hρ hW⟩
    · obtain ⟨o, q1, q2⟩ := hborn b _ hb (by simp)
      rcases I.nil _ q2 with ⟨wr, s, hx, hs⟩ | ⟨t, s, hx, hs⟩
      · exact .inl ⟨wr, s, hblk b o _ q1 hx, hs⟩
      · exact .inr ⟨t, s, hblk b o _ q1 hx, hs⟩
    · have : moved h0 K φ b = φ b := by simp [moved, hb]
      rw [this]
      exact .refl hu

/-- A loop's head. -/
theorem atHead_ok {n : Nat} {ks : List Nat} {env env' : Env} {a : Act} (S : St n base Z φ env H a w) (hh : h0 ≤ H.length) (h : atHead h0 ks env H = some (env', H')) :
    ∃ φ', St n base Z φ' env' H' a w ∧ Step base h0 φ (Wr φ H Z) w φ' (Wr φ' H' Z) w ∧ h0 ≤ H'.length := by
  unfold atHead at h
  simp only at h
  split at h
  · rename_i H2 hp
    cases h
    have hk := pack_ok S.inv hh hp
    refine ⟨_, ⟨hk.inv, fun t => ?_, S.size, S.defers⟩, hk.step, hk.len⟩
    have : ∀ (l : List Nat), Env.get (l.map fun i => (i, ren (toK h0 (above h0 (reach H (H.length * (H.length + 1) + 100) (refsH (H.take h0) ++ refsOf env ks) []))) (env.get i))) t = .undef ∨
        Env.get (l.map fun i => (i, ren (toK h0 (above h0 (reach H (H.length * (H.length + 1) + 100) (refsH (H.take h0) ++ refsOf env ks) []))) (env.get i))) t = ren (toK h0 (above h0 (reach H (H.length * (H.length + 1) + 100) (refsH (H.take h0) ++ refsOf env ks) []))) (env.get t) := fun l => by
      induction l with
      | nil => exact .inl rfl
      | cons i l ih =>
        simp only [List.map_cons, Env.get]
        by_cases hi : t = i
        · rw [if_pos hi, hi]; exact .inr rfl
        · rw [if_neg hi]; exact ih
    rcases this ks with h | h
    · rw [h]; exact .undef _
    · rw [h]; exact hk.rel _ _ (S.rel t)
  · cases h

end

end Go.Abs

namespace Go.Abs
open Go.RowKit
set_option linter.unusedVariables false
set_option linter.unusedSimpArgs false

variable {P : Program}

theorem hasRoL_at : ∀ {cs : List V} {i : Nat} {c : V}, hasRoL cs = false → cs[i]? = some c → hasRo c = false
  | [], i, c, _, hc => by simp at hc
  | d :: cs, i, c, h, hc => by
    simp only [hasRoL, Bool.or_eq_false_iff] at h
    cases i with
    | zero => simp at hc; rw [← hc]; exact h.1
    | succ i => exact hasRoL_at h.2 (by simpa using hc)

theorem hasRo_cell {e : V} (h : hasRo e = false) {j : Nat} {c : V} (hc : e.cells[j]? = some c) : hasRo c = false := by
  by_cases ha : ∃ cs, e = .agg cs
  · obtain ⟨cs, rfl⟩ := ha
    exact hasRoL_at (cs := cs) (by simpa only [hasRo] using h) hc
  · rw [single_cell (fun cs he => ha ⟨cs, he⟩) hc]; exact h

/-- What leads to no memory that was there is related whatever may be written. -/
theorem VRel.noRo {φ : Place} {W W' : Nat → Prop} {w : World} {x : V} {v : Value} (h : VRel φ W w x v) (hn : hasRo x = false) : VRel φ W' w x v := by
  induction h with
  | undef v => exact .undef v
  | bool b => exact .bool b
  | int k n => exact .int k n
  | str s => exact .str s
  | nils => exact .nils
  | nilm => exact .nilm
  | nilx k v h => exact .nilx k v h
  | agg cs vs hl h1 _ ih => exact .agg cs vs hl h1 fun i c v hc hv => ih i c v hc hv (hasRoL_at (by simpa only [hasRo] using hn) hc)
  | tuple cs vs hl _ ih => exact .tuple cs vs hl fun i c v hc hv => ih i c v hc hv (hasRoL_at (by simpa only [hasRo] using hn) hc)
  | fn f cs vs hl _ ih => exact .fn f cs vs hl fun i c v hc hv => ih i c v hc hv (hasRoL_at (by simpa only [hasRo] using hn) hc)
  | meth f cs vs hl _ ih => exact .meth f cs vs hl fun i c v hc hv => ih i c v hc hv (hasRoL_at (by simpa only [hasRo] using hn) hc)
  | view b tot i off len v hv h1 h2 h3 => exact .view b tot i off len v hv h1 h2 h3
  | sl es a cap s vals hcap h0' hp hs hWa hc hv ih =>
    have : es = [] := by
      cases es with
      | nil => rfl
      | cons e es => simp [hasRo] at hn
    subst this
    exact .sl [] a cap s vals hcap h0' hp hs (fun h => absurd rfl h) hc (by simp)
  | slnil => exact .slnil
  | own b tot off len v hv h0' h1 h2 h3 => exact .own b tot off len v hv h0' h1 h2 h3
  | ptr b tot i off v hv h1 h2 h3 => exact .ptr b tot i off v hv h1 h2 h3
  | rop e a vals h0' hWa hc hv ih => simp [hasRo] at hn
  | mapr ks vs r es clock hWr hh h1 h2 hp hq hk hv ihk ihv => simp [hasRo] at hn
  | mapn => simp [hasRo] at hn
  | map b v hv h1 h3 => exact .map b v hv h1 h3

theorem Row.noRo {φ : Place} {W W' : Nat → Prop} {w : World} {c s : Nat} {es : List V} (h : Row φ W w c s es) (hn : hasRoL es = false) : Row φ W' w c s es := by
  obtain ⟨h0, cs, t, fr, h1, h2, h3, h4⟩ := h
  refine ⟨h0, cs, t, fr, h1, h2, h3, fun i e he => ⟨(h4 i e he).1, fun j x hx => ?_⟩⟩
  obtain ⟨v, p1, p2, p3⟩ := (h4 i e he).2 j x hx
  exact ⟨v, p1, p2, p3.noRo (hasRo_cell (hasRoL_at hn he) hx)⟩

theorem BlkRel.noRo {φ : Place} {W W' : Nat → Prop} {w : World} {x : Blk} {c s n : Nat} (h : BlkRel φ W w x c s n) (hn : hasRoB x = false) : BlkRel φ W' w x c s n := by
  cases x with
  | dat wr sz es => exact ⟨h.1, h.2.1, h.2.2.noRo (by simpa only [hasRoB] using hn)⟩
  | box e => exact ⟨h.1, h.2.noRo (by simpa [hasRoB, hasRoL] using hn)⟩
  | arr t sz es => exact ⟨h.1, h.2.1, h.2.2.1.noRo (by simpa only [hasRoB] using hn), h.2.2.2⟩
  | dead => exact trivial
  | map wr ks vs =>
    simp only [hasRoB, Bool.or_eq_false_iff] at hn
    obtain ⟨es, clock, h1, h2, h3, h4, h5⟩ := h.2
    exact ⟨h.1, es, clock, h1, h2, h3, fun i k x a b => (h4 i k x a b).noRo (hasRoL_at hn.1 a), fun i k x a b => (h5 i k x a b).noRo (hasRoL_at hn.2 a)⟩

section
variable {base : Nat} {Z : Nat → Prop} {φ φc : Place} {H HF H' : Heap} {w w' : World} {r : V} {v : Value}

def inPlace (φ φc : Place) (lo n : Nat) : Place := fun b => if lo ≤ b ∧ b < lo + n then φc (b - lo) else φ b

/-- What a call left that knew nothing of the blocks here, set among them. -/
theorem adopt {Hs : Heap} (I : Inv base Z φ HF w) (hlen : Hs.length = H.length) (hle : Le (Hs ++ H'.map (renB (shift H.length))) HF) (hu : ∀ b, H.length ≤ b → b < H.length + H'.length → φ b = .unborn)
    (Ic : ∀ b c s n, φc b = .at c s n → ∃ x, H'[b]? = some x ∧ BlkRel φc (Wr φc H' (Wr φ HF Z)) w' x c s n) (Inil : ∀ b, φc b = .nil → (∃ wr s, H'[b]? = some (.dat wr s []) ∧ 0 < s) ∨ ∃ t s, H'[b]? = some (.arr t s []) ∧ 0 < s)
    (Iinj : ∀ b b' c s n s' n', φc b = .at c s n → φc b' = .at c s' n' → b = b') (Irng : ∀ b c s n, φc b = .at c s n → w.heap.size ≤ c ∧ c < w'.heap.size) (Iborn : ∀ b, H'.length ≤ b → φc b = .unborn)
    (hr : VRel φc (Wr φc H' (Wr φ HF Z)) w' r v) (hb : Below w.heap.size w w') (hs : ∀ c x, w.shape? c = some x → w'.shape? c = some x) :
    POK base Z φ HF w H.length (H.length + H'.length) (ren (shift H.length) r) v (inPlace φ φc H.length H'.length) w' := by
  have old : ∀ b, ¬ (H.length ≤ b ∧ b < H.length + H'.length) → inPlace φ φc H.length H'.length b = φ b := fun b h => by unfold inPlace; rw [if_neg h]
  have new : ∀ i, i < H'.length → inPlace φ φc H.length H'.length (i + H.length) = φc i := fun i hi => by
    unfold inPlace
    rw [if_pos (by omega)]; congr 1; omega
  have hblk : ∀ i x, H'[i]? = some x → ∃ y, HF[i + H.length]? = some y ∧ (renB (shift H.length) x).le y := fun i x hx => hle.2 _ _ (by
    rw [List.getElem?_append_right (by omega), List.getElem?_map]
    have : i + H.length - Hs.length = i := by omega
    rw [this, hx]
    rfl)
  have cases_ : ∀ b l, inPlace φ φc H.length H'.length b = l → l ≠ .unborn → φ b = l ∧ ¬ (H.length ≤ b ∧ b < H.length + H'.length) ∨ ∃ i, b = i + H.length ∧ φc i = l := fun b l h hl => by
    by_cases hc : H.length ≤ b ∧ b < H.length + H'.length
    · right
      refine ⟨b - H.length, by omega, ?_⟩
      unfold inPlace at h
      rw [if_pos hc] at h
      exact h
    · left
      rw [old b hc] at h
      exact ⟨h, hc⟩
  have hW : ∀ c, Wr (inPlace φ φc H.length H'.length) HF Z c → Wr φ HF Z c ∨ ∃ i s n x, φc i = .at c s n ∧ H'[i]? = some x ∧ x.wr = true := fun c hc => by
    rcases hc with hc | ⟨b, s, n, x, p1, p2, p3⟩
    · exact .inl (.inl hc)
    · rcases cases_ b _ p1 (by simp) with ⟨q1, _⟩ | ⟨i, rfl, q1⟩
      · exact .inl (.inr ⟨b, s, n, x, q1, p2, p3⟩)
      · obtain ⟨x0, e1, _⟩ := Ic i _ _ _ q1
        obtain ⟨y, e2, e3⟩ := hblk i x0 e1
        rw [p2] at e2
        cases e2
        have := Blk.le_wr e3 p3
        rw [renB_wr] at this
        exact .inr ⟨i, s, n, x0, q1, e1, this⟩
  have hW' : ∀ c, Wr (inPlace φ φc H.length H'.length) HF Z c → Wr φc H' (Wr φ HF Z) c := fun c hc => (hW c hc).elim .inl fun ⟨i, s, n, x, p1, p2, p3⟩ => .inr ⟨i, s, n, x, p1, p2, p3⟩
  have hρ : ∀ b c, shift H.length b = some c → φc b ≠ .unborn → inPlace φ φc H.length H'.length c = φc b := fun b c h hne => by
    simp only [shift, Option.some.injEq] at h
    rw [← h, new]
    rcases Nat.lt_or_ge b H'.length with h1 | h1
    · exact h1
    · exact absurd (Iborn b h1) hne
  have hsize : w.heap.size ≤ w'.heap.size := hb.size
  have ext : ∀ h0, Ext h0 φ (Wr φ HF Z) w (inPlace φ φc H.length H'.length) (Wr (inPlace φ φc H.length H'.length) HF Z) w' := fun h0 => by
    refine ⟨fun b _ hu' => ?_, fun c hc hw => ?_, fun c hc _ => hb.block c hc, hs, hsize⟩
    · rw [old b (fun h => hu' (hu b h.1 h.2))]
      exact .refl hu'
    · rcases hW c hw with h | ⟨i, s, n, x, p1, p2, p3⟩
      · exact h
      · have := (Irng i _ _ _ p1).1; omega
  refine ⟨⟨I.hz, Nat.le_trans I.hb hsize, fun b hb' => ?_, fun b b' c s n s' n' h1 h2 => ?_, fun b c s n h1 => ?_, fun b c s n h1 => ?_, fun b h1 => ?_⟩, hr.ren hρ hW', fun h0 => ⟨ext h0, hb.mono I.hb⟩, fun b hb' => old b (by omega)⟩
  · rw [old b (by have := hle.1; simp [hlen] at this; omega)]
    exact I.born b hb'
  · rcases cases_ b _ h1 (by simp) with ⟨q1, _⟩ | ⟨i, rfl, q1⟩ <;> rcases cases_ b' _ h2 (by simp) with ⟨q2, _⟩ | ⟨i', rfl, q2⟩
    · exact I.inj _ _ _ _ _ _ _ q1 q2
    · have := (I.rng _ _ _ _ q1).2
      have := (Irng _ _ _ _ q2).1
      omega
    · have := (I.rng _ _ _ _ q2).2
      have := (Irng _ _ _ _ q1).1
      omega
    · rw [Iinj _ _ _ _ _ _ _ q1 q2]
  · rcases cases_ b _ h1 (by simp) with ⟨q1, _⟩ | ⟨i, rfl, q1⟩
    · have := I.rng _ _ _ _ q1
      exact ⟨this.1, by omega⟩
    · have := Irng _ _ _ _ q1
      exact ⟨Nat.le_trans I.hb this.1, this.2⟩
  · rcases cases_ b _ h1 (by simp) with ⟨q1, _⟩ | ⟨i, rfl, q1⟩
    · obtain ⟨x, hx, hrel⟩ := I.blk _ _ _ _ q1
      exact ⟨x, hx, hrel.mono (ext HF.length) (fun _ => I.lt) (hb.block c (I.rng _ _ _ _ q1).2)⟩
    · obtain ⟨x, hx, hrel⟩ := Ic _ _ _ _ q1
      obtain ⟨y, hy, hly⟩ := hblk i x hx
      exact ⟨y, hy, (hrel.ren hρ hW').le hly⟩
  · rcases cases_ b _ h1 (by simp) with ⟨q1, _⟩ | ⟨i, rfl, q1⟩
    · exact I.nil b q1
    · rcases Inil _ q1 with ⟨wr, s, hx, hs0⟩ | ⟨wr, s, hx, hs0⟩
      · obtain ⟨y, hy, hly⟩ := hblk i _ hx
        cases y <;> simp only [renB, Blk.le] at hly
        obtain ⟨rfl, rfl, _⟩ := hly
        exact .inl ⟨_, _, hy, hs0⟩
      · obtain ⟨y, hy, hly⟩ := hblk i _ hx
        cases y <;> simp only [renB, renL, Blk.le] at hly
        obtain ⟨rfl, rfl, rfl⟩ := hly
        exact .inr ⟨_, _, hy, hs0⟩

end

end Go.Abs

namespace Go.Abs
open Go.RowKit
set_option linter.unusedVariables false
set_option linter.unusedSimpArgs false

variable {P : Program}

def FnOk (P : Program) (f : FuncId) : Prop := ∃ fn, P.funcs[f]? = some fn ∧ fn.name ≠ "runtime.NumGoroutine" ∧ fn.body ≠ none

/-- What a call over nothing of the caller's own must leave. -/
def Contract (P : Program) (f : FuncId) (asx : List V) (r : V) (H' : Heap) : Prop :=
  ∀ base Z w cargs, Inv base Z pure0 [] w → ArgsRel pure0 (Wr pure0 [] Z) w asx cargs → Calls P f cargs w (fun e w' => ∃ v, e = .returned v ∧ Turns base Z pure0 [] w H' r v w')

theorem inv_empty {Z : Nat → Prop} {w : World} (hz : ∀ c, Z c → c < w.heap.size) : Inv w.heap.size Z pure0 [] w :=
  { hz := hz
    hb := Nat.le_refl _
    born := fun _ _ => rfl
    inj := fun b b' c s n s' n' h _ => Loc.noConfusion h
    rng := fun b c s n h => Loc.noConfusion h
    blk := fun b c s n h => Loc.noConfusion h
    nil := fun b h => Loc.noConfusion h }

theorem ArgsRel.append {φ : Place} {W : Nat → Prop} {w : World} {xs ys : List V} {cx cy : Array Value} (h : ArgsRel φ W w xs cx) (k : ArgsRel φ W w ys cy) : ArgsRel φ W w (xs ++ ys) (cx ++ cy) := by
  refine ⟨by simp [h.1, k.1], fun i x c hx hc => ?_⟩
  rcases Nat.lt_or_ge i xs.length with hi | hi
  · rw [List.getElem?_append_left hi] at hx
    rw [Array.getElem?_append_left (by rw [← h.1]; exact hi)] at hc
    exact h.2 i x c hx hc
  · rw [List.getElem?_append_right hi] at hx
    rw [Array.getElem?_append_right (by rw [← h.1]; exact hi), ← h.1] at hc
    exact k.2 _ x c hx hc

theorem fn_rel {φ : Place} {W : Nat → Prop} {w : World} {f : Nat} {cs : List V} {cf : Value} (h : VRel φ W w (.fn f cs) cf) : ∃ vs, cf = .func (.func f) #[] vs ∧ ArgsRel φ W w cs vs := by
  cases h
  exact ⟨_, rfl, ‹_›, ‹_›⟩

theorem meth_rel {φ : Place} {W : Nat → Prop} {w : World} {f : Nat} {cs : List V} {cf : Value} (h : VRel φ W w (.meth f cs) cf) : ∃ vs, cf = .func (.func f) vs #[] ∧ ArgsRel φ W w cs vs := by
  cases h
  exact ⟨_, rfl, ‹_›, ‹_›⟩
/-- A method's value is called as its function is. -/
theorem meth_enters {cf : Value} {vs cxs : Array Value} {f : Nat} {w : World} {R : Value → World → Prop} (hcf : cf = .func (.func f) vs #[]) (h : Enters P (.func (.func f) #[] #[]) (vs ++ cxs) w R) : Enters P cf cxs w R := by
  obtain ⟨f', first, caps, fn, h1, h2, h3, h4, h5⟩ := h
  cases h1
  refine ⟨f, vs, #[], fn, hcf, h2, h3, h4, ?_⟩
  simpa using h5
theorem fn_nil {φ : Place} {W : Nat → Prop} {w : World} (f : Nat) : VRel φ W w (.fn f []) (.func (.func f) #[] #[]) := .fn f [] #[] rfl (by simp)

section
variable {base : Nat} {Z : Nat → Prop} {φ : Place} {H HF H' : Heap} {w : World}

theorem pure_call {f : FuncId} {xs cs asx : List V} {bs : List Nat} {r : V} (hf : FnOk P f) (hs : sealL H (xs ++ cs) = some (asx, bs)) (hc : Contract P f asx r H') :
    Le H ((if hasRo r || H'.any hasRoB then freeze H bs else H) ++ H'.map (renB (shift H.length))) ∧
    ∀ base Z φ HF w cf cxs, Inv base Z φ HF w → VRel φ (Wr φ HF Z) w (.fn f cs) cf → ArgsRel φ (Wr φ HF Z) w xs cxs → Le ((if hasRo r || H'.any hasRoB then freeze H bs else H) ++ H'.map (renB (shift H.length))) HF →
      (∀ b, H.length ≤ b → b < ((if hasRo r || H'.any hasRoB then freeze H bs else H) ++ H'.map (renB (shift H.length))).length → φ b = .unborn) →
      Enters P cf cxs w (Leaves base Z φ HF w H.length ((if hasRo r || H'.any hasRoB then freeze H bs else H) ++ H'.map (renB (shift H.length))).length (ren (shift H.length) r)) := by
  have hlen : (if hasRo r || H'.any hasRoB then freeze H bs else H).length = H.length := by split <;> simp [freeze_length]
  have hle0 : Le H (if hasRo r || H'.any hasRoB then freeze H bs else H) := by split; exact freeze_le .. ; exact .refl _
  refine ⟨hle0.trans (.append ..), fun base Z φ HF w cf cxs I hcf hxs hle hu => ?_⟩
  obtain ⟨fn, hf1, hf2, hf3⟩ := hf
  obtain ⟨vs, rfl, hvs⟩ := fn_rel hcf
  have hall := hxs.append hvs
  obtain ⟨hsl, hsa⟩ := sealL_at hs
  have hlenO : ((if hasRo r || H'.any hasRoB then freeze H bs else H) ++ H'.map (renB (shift H.length))).length = H.length + H'.length := by rw [List.length_append, hlen, List.length_map]
  refine ⟨f, #[], vs, fn, rfl, hf1, hf2, hf3, ?_⟩
  rw [Array.empty_append]
  have hcell : ∀ b c s n, φ b = .at c s n → c < w.heap.size := fun b c s n h => (I.rng b c s n h).2
  have hwr : ∀ c, Wr φ HF Z c → c < w.heap.size := fun c h => by
    rcases h with h | ⟨b, s, n, x, h1, _, _⟩
    · exact Nat.lt_of_lt_of_le (I.hz c h) I.hb
    · exact hcell _ _ _ _ h1
  have fin : ∀ (Z' : Nat → Prop), (Z' = Wr φ HF Z ∨ ((hasRo r || H'.any hasRoB) = false ∧ Z' = fun _ => False)) → ArgsRel pure0 Z' w asx (cxs ++ vs) →
      Calls P f (cxs ++ vs) w (fun e w' => ∃ v, e = .returned v ∧ Leaves base Z φ HF w H.length ((if hasRo r || H'.any hasRoB then freeze H bs else H) ++ H'.map (renB (shift H.length))).length (ren (shift H.length) r) v w') := fun Z' hZ hargs => by
    have I' : Inv w.heap.size Z' pure0 [] w := inv_empty fun c h => by
      rcases hZ with rfl | ⟨_, rfl⟩
      · exact hwr c h
      · exact h.elim
    have hfz : ∀ c, Wr pure0 [] Z' c → Z' c := fun c h => by
      rcases h with h | ⟨b, s, n, x, h1, _⟩
      · exact h
      · cases h1
    refine Calls.mono (hc w.heap.size Z' w _ I' ⟨hargs.1, fun i x c a b => (hargs.2 i x c a b).mono (h0 := 0) (Ext.frz (w := w) fun c h => hfz c h) (fun _ h => absurd rfl h)⟩) fun e w' hR => ?_
    · obtain ⟨v, he, φc, ht⟩ := hR
      refine ⟨v, he, inPlace φ φc H.length H'.length, ?_⟩
      rw [hlenO]
      refine adopt (Hs := if hasRo r || H'.any hasRoB then freeze H bs else H) (φc := φc) I hlen hle (fun b h1 h2 => hu b h1 (by rw [hlenO]; exact h2)) (fun b c s n hb => ?_) ht.inv.nil ht.inv.inj ht.inv.rng ht.inv.born ?_ ht.step.below ht.step.ext.shape
      · obtain ⟨x, hx, hrel⟩ := ht.inv.blk b c s n hb
        refine ⟨x, hx, ?_⟩
        rcases hZ with rfl | ⟨hro, rfl⟩
        · exact hrel
        · simp only [Bool.or_eq_false_iff, List.any_eq_false] at hro
          exact hrel.noRo (by simpa using hro.2 x (List.mem_of_getElem? hx))
      · rcases hZ with rfl | ⟨hro, rfl⟩
        · exact ht.rel
        · simp only [Bool.or_eq_false_iff] at hro
          exact ht.rel.noRo hro.1
  have argsOf : ∀ (Z' : Nat → Prop), (∀ x c x' b', x ∈ xs ++ cs → VRel φ (Wr φ HF Z) w x c → sealV H x = some (x', b') → (∀ b ∈ b', b ∈ bs) → VRel pure0 Z' w x' c) → ArgsRel pure0 Z' w asx (cxs ++ vs) := fun Z' hz => by
    refine ⟨by rw [hsl]; exact hall.1, fun i x c hx hcx => ?_⟩
    have hil : i < (xs ++ cs).length := by rw [← hsl]; exact (List.getElem?_eq_some_iff.1 hx).1
    have hxi := List.getElem?_eq_getElem hil
    obtain ⟨x', b', h1, h2, h3⟩ := hsa i _ hxi
    rw [hx] at h2
    cases h2
    exact hz _ c x b' (List.mem_of_getElem? hxi) (hall.2 i _ c hxi hcx) h1 h3
  by_cases hro : (hasRo r || H'.any hasRoB) = true
  · rw [if_pos hro] at hle
    exact fin _ (.inl rfl) (argsOf _ fun x c x' b' _ hx h1 h3 => seal_in I ((Le.append _ _).trans hle) h3 (sealL_notBox hs) hx h1)
  · have hro' : (hasRo r || H'.any hasRoB) = false := by simpa using hro
    rw [if_neg hro] at hle
    exact fin _ (.inr ⟨hro', rfl⟩) (argsOf _ fun x c x' b' _ hx h1 h3 => seal_ok I ((Le.append _ _).trans hle) (W' := fun _ => False) (fun _ h => h.elim) hx x' b' h1 fun _ _ _ _ _ _ h => h)

end

end Go.Abs

namespace Go.Abs
open Go.RowKit
set_option linter.unusedVariables false
set_option linter.unusedSimpArgs false

section loop
variable {P : Program} {Q : Exit → Act → World → Prop} {a : Act} {w : World}

/-- A loop whose rounds are counted down by something that the state need not show. -/
theorem wp_loopJ {c : Code} (J : Nat → Act → World → Prop) (round : ∀ n a w, J n a w → c.wp P (Exit.then (fun a' w' => ∃ m, m < n ∧ J m a' w') Q) a w) {n : Nat} (h₀ : J n a w) : (Code.loop c).wp P Q a w := by
  intro b k cs
  have key : ∀ n a w, J n a w →
      ∃ e a' w', Q e a' w' ∧ Arrives P (lone (b.at a (.code c :: .inLoop c :: k)) cs w) b k cs e a' w' := by
    intro n
    induction n using Nat.strongRecOn with
    | _ n ih =>
      intro a w hJ
      obtain ⟨e, a₁, w₁, hq, harr⟩ := round n a w hJ b (.inLoop c :: k) cs
      cases e with
      | normal =>
        obtain ⟨m, hlt, hJ₁⟩ := hq
        obtain ⟨e₂, a₂, w₂, hq₂, harr₂⟩ := ih m hlt a₁ w₁ hJ₁
        exact ⟨e₂, a₂, w₂, hq₂, .of_steps (Steps.trans harr (.one step_inLoop)) harr₂⟩
      | exit id => exact ⟨_, a₁, w₁, hq, .pass (x := .inLoop c) rfl (fun _ _ => .inl (by simp)) harr⟩
      | goto l => exact ⟨_, a₁, w₁, hq, .pass (x := .inLoop c) rfl (fun _ _ => .inl (by simp)) harr⟩
      | ret => exact ⟨_, a₁, w₁, hq, .pass (x := .inLoop c) rfl (fun _ _ => .inl (by simp)) harr⟩
      | panic ch => exact ⟨_, a₁, w₁, hq, .pass (x := .inLoop c) rfl (fun _ _ => .inl (by simp)) harr⟩
      | outgrown => exact ⟨_, a₁, w₁, hq, .pass (x := .inLoop c) rfl (fun _ _ => .inl (by simp)) harr⟩
  obtain ⟨e, a', w', hq, harr⟩ := key n a w h₀
  exact ⟨e, a', w', hq, .of_steps (.one step_loop) harr⟩

end loop

/-- What a context must keep. -/
structure Good (C : Ctx) : Prop where
  mixed : C.P.follows .mixedOrders = true
  body : ∀ f b, C.body f = some b → ∃ fn, C.P.funcs[f]? = some fn ∧ fn.name ≠ "runtime.NumGoroutine" ∧ fn.body = some b.code ∧ fn.results.toList = b.results ∧ fn.ntmps = b.ntmps ∧ codeOk C.P C.loud (C.free f) b.ntmps b.code = true
  ext : ∀ f g, C.ext f = some g → FnOk C.P f ∧ ∀ asx r H', g asx = some (r, H') → Contract C.P f asx r H'
  extE : ∀ f g, C.extE f = some g → FnOk C.P f ∧ ∀ args H r H', g args H = some (r, H') → ∀ base Z φ w cargs, Inv base Z φ H w → ArgsRel φ (Wr φ H Z) w args cargs →
    Calls C.P f cargs w (fun e w' => ∃ v, e = .returned v ∧ Turns base Z φ H w H' r v w')

def X.toExit : X → Exit
  | .normal => .normal
  | .exit id => .exit id
  | .ret => .ret

section
variable {P : Program} {base : Nat} {Z : Nat → Prop} {φ : Place} {H HF : Heap} {w : World}

theorem loadAt_as {t : TypeId} {cv v : Value} (h : (Instr.loadAt t cv).run P w = .ok v w) : (do loadVar t (← asAddr cv) : Sem Value).run P w = .ok v w := by
  cases cv with
  | pointer p =>
    cases p with
    | some a => simpa [Instr.loadAt, Instr.sureAddr, asAddr] using h
    | none => simp [Instr.loadAt, Instr.sureAddr, stuck] at h
  | _ => simp [Instr.loadAt, Instr.sureAddr, stuck] at h

theorem results_list {env : Env} {tmps : Array Value} (I : Inv base Z φ H w) (hr : EnvRel φ (Wr φ H Z) w env tmps) : ∀ (rs : List ResultVar) (vs : List V), resultsV P env H rs = some vs →
    ∃ cvs : List Value, (rs.mapM fun (r : ResultVar) => (match r with | .tmp t => pure (tmps.getD t undef) | .cell a t => do loadVar t (← asAddr (tmps.getD a undef)) : Sem Value)).run P w = .ok cvs w ∧ vs.length = cvs.length ∧
      ∀ (i : Nat) (x : V) (c : Value), vs[i]? = some x → cvs[i]? = some c → VRel φ (Wr φ H Z) w x c
  | [], vs, h => by simp only [resultsV] at h; cases h; exact ⟨[], by simp, rfl, by simp⟩
  | .tmp t :: r, vs, h => by
    simp only [resultsV, Option.map_eq_some_iff] at h
    obtain ⟨vs', h1, rfl⟩ := h
    obtain ⟨cvs, p1, p2, p3⟩ := results_list I hr r vs' h1
    refine ⟨tmps.getD t undef :: cvs, by rw [List.mapM_cons, Sem.run_bind]; show Result.andThen (.ok _ w) _ = _; simp only [Result.andThen]; rw [Sem.run_bind, p1]; rfl, by simp [p2], fun i x c hx hc => ?_⟩
    cases i with
    | zero => simp only [List.getElem?_cons_zero, Option.some.injEq] at hx hc; rw [← hx, ← hc]; exact hr t
    | succ i => exact p3 i x c (by simpa using hx) (by simpa using hc)
  | .cell a t :: r, vs, h => by
    simp only [resultsV] at h
    split at h
    · rename_i v vs' h0 h1
      cases h
      obtain ⟨cvs, p1, p2, p3⟩ := results_list I hr r vs' h1
      obtain ⟨cv, q1, q2⟩ := r_load (P := P) I (.refl _) (hr a) h0
      have q3 := loadAt_as q1
      refine ⟨cv :: cvs, by rw [List.mapM_cons, Sem.run_bind]; simp only; rw [q3]; simp only [Result.andThen]; rw [Sem.run_bind, p1]; rfl, by simp [p2], fun i x c hx hc => ?_⟩
      cases i with
      | zero => simp only [List.getElem?_cons_zero, Option.some.injEq] at hx hc; rw [← hx, ← hc]; exact q2
      | succ i => exact p3 i x c (by simpa using hx) (by simpa using hc)
    · cases h

theorem results_ok {env : Env} {tmps : Array Value} {fn : Func} {vs : List V} (I : Inv base Z φ H w) (hr : EnvRel φ (Wr φ H Z) w env tmps) (h : resultsV P env H fn.results.toList = some vs) :
    ∃ v, (results fn tmps).run P w = .ok v w ∧ VRel φ (Wr φ H Z) w (resV vs) v := by
  obtain ⟨cvs, h1, h2, h3⟩ := results_list I hr _ _ h
  have hrun : ∀ k : Array Value → Sem Value, ((fn.results.mapM fun (r : ResultVar) => (match r with | .tmp t => pure (tmps.getD t undef) | .cell a t => do loadVar t (← asAddr (tmps.getD a undef)) : Sem Value)) >>= k).run P w = (k cvs.toArray).run P w := fun k => by
    rw [Array.mapM_eq_mapM_toList, Sem.run_bind, Sem.run_map, h1]
    rfl
  unfold results
  refine ⟨if h : cvs.toArray.size = 1 then cvs.toArray[0] else .tuple cvs.toArray, (hrun _).trans rfl, ?_⟩
  by_cases h1 : cvs.length = 1
  · rw [dif_pos (by simpa using h1)]
    obtain ⟨x, rfl⟩ := List.length_eq_one_iff.1 (h2.trans h1)
    obtain ⟨c, rfl⟩ := List.length_eq_one_iff.1 h1
    exact h3 0 x c rfl rfl
  · rw [dif_neg (by simpa using h1)]
    have : resV vs = .tuple vs := by
      match vs, h2 with
      | [], _ => rfl
      | [x], h2 => exact absurd h2.symm h1
      | x :: y :: r, _ => rfl
    rw [this]
    exact .tuple _ _ (by simp [h2]) fun i c v hc hv => h3 i c v hc (by simpa using hv)

theorem argEnv_get : ∀ (args : List V) (i t : Nat), (argEnv args i).get t = if i ≤ t then (args[t - i]?).getD .undef else .undef
  | [], i, t => by simp [argEnv, Env.get]
  | v :: vs, i, t => by
    simp only [argEnv, Env.get]
    by_cases h : t = i
    · subst h; simp
    · rw [if_neg h, argEnv_get vs (i + 1) t]
      by_cases hle : i ≤ t
      · rw [if_pos hle, if_pos (by omega)]
        have : t - i = (t - (i + 1)) + 1 := by omega
        rw [this]
        simp
      · rw [if_neg hle, if_neg (by omega)]

theorem args_env {W : Nat → Prop} {args : List V} {cargs : Array Value} {m : Nat} (h : ArgsRel φ W w args cargs) : EnvRel φ W w (argEnv args 0) (cargs ++ Array.replicate m undef) := fun t => by
  rw [argEnv_get, if_pos (Nat.zero_le _), Nat.sub_zero]
  cases hx : args[t]? with
  | none => exact .undef _
  | some x =>
    have hl := (List.getElem?_eq_some_iff.1 hx).1
    rw [h.1] at hl
    have hc : cargs[t]? = some cargs[t] := Array.getElem?_eq_getElem hl
    have : (cargs ++ Array.replicate m undef).getD t undef = cargs[t] := by
      simp [Array.getElem?_append_left hl, hl]
    rw [this]
    exact h.2 t x _ hx hc

theorem expo_ok {base0 : Nat} {φ0 : Place} {H0 : Heap} {w0 : World} {r r' : V} {H' : Heap} {v : Value} (I : Inv base Z φ H w) (hst : Step base H0.length φ0 (Wr φ0 H0 Z) w0 φ (Wr φ H Z) w) (hh : H0.length ≤ H.length) (hr : VRel φ (Wr φ H Z) w r v) (h : expo H0.length r H = some (r', H')) :
    Turns base Z φ0 H0 w0 H' r' v w := by
  unfold expo at h
  simp only at h
  split at h
  · rename_i H2 hp
    cases h
    have hk := pack_ok I hh hp
    exact ⟨_, hk.inv, hk.rel _ _ hr, hst.trans hk.step, hk.len⟩
  · cases h

end

end Go.Abs

namespace Go.Abs
open Go.RowKit
set_option linter.unusedVariables false
set_option linter.unusedSimpArgs false

variable {C : Ctx}

/-- What is shown of each fuel. -/
structure AllOk (C : Ctx) (n : Nat) : Prop where
  b : ∀ f args H r H', evB C n f args H = some (r, H') → FnOk C.P f ∧ ∀ base Z φ w cargs, Inv base Z φ H w → ArgsRel φ (Wr φ H Z) w args cargs →
    Calls C.P f cargs w (fun e w' => ∃ v, e = .returned v ∧ Turns base Z φ H w H' r v w')
  q : QCall C.P (evF C n true)
  e : ECall C.P (evF C n false)
  c : ∀ m f h0 c env H x env' H', evC C n f h0 c env H = some (x, env', H') → codeOk C.P C.loud (C.free f) m c = true → ∀ base Z φ a w, St m base Z φ env H a w → h0 ≤ H.length →
    c.wp C.P (fun e a' w' => e = x.toExit ∧ Moves m base Z h0 φ H w env' H' a' w') a w

theorem lenF_some {c : CallV} {x : V} {xs : List V} {H : Heap} {r : V} {H' : Heap} (h : lenF c x xs H = some (r, H')) : c x xs H = some (r, H') ∧ H.length ≤ H'.length := by
  unfold lenF at h
  split at h
  · rename_i r1 H1 h1
    split at h
    · rename_i hl; cases h; exact ⟨h1, hl⟩
    · cases h
  · cases h

theorem head_ok {P : Program} {ko : Option (List Nat)} {m base h0 : Nat} {Z : Nat → Prop} {φ : Place} {env env1 : Env} {H H1 : Heap} {a : Act} {w : World} (S : St m base Z φ env H a w) (hh : h0 ≤ H.length)
    (h : (match ko with | some ks => atHead h0 ks env H | none => some (env, H)) = some (env1, H1)) : ∃ φ1, St m base Z φ1 env1 H1 a w ∧ Step base h0 φ (Wr φ H Z) w φ1 (Wr φ1 H1 Z) w ∧ h0 ≤ H1.length := by
  cases ko with
  | none => cases h; exact ⟨φ, S, .refl .., hh⟩
  | some ks => exact atHead_ok S hh h

theorem all_ok (G : Good C) : ∀ n, AllOk C n := by
  intro n
  induction n using Nat.strongRecOn with
  | _ n ih =>
    cases n with
    | zero =>
      refine ⟨fun f args H r H' h => ?_, fun H xf xs r H' h => ?_, fun H xf xs r H' h => ?_, fun m f h0 c env H x env' H' h => ?_⟩
      · simp [evB] at h
      · simp [evF] at h
      · simp [evF] at h
      · simp [evC] at h
    | succ n =>
      have hn := ih n (Nat.lt_succ_self n)
      have callq : ∀ d H xf xs r H', evF C (n + 1) d xf xs H = some (r, H') → (∃ f cs, xf = .meth f cs ∧ evF C n d (.fn f []) (cs ++ xs) H = some (r, H')) ∨ ∃ f cs, xf = .fn f cs ∧ ((∃ asx bs r0 H0, sealL H (xs ++ cs) = some (asx, bs) ∧ FnOk C.P f ∧ Contract C.P f asx r0 H0 ∧ r = ren (shift H.length) r0 ∧ H' = (if hasRo r0 || H0.any hasRoB then freeze H bs else H) ++ H0.map (renB (shift H.length))) ∨
          (d = false ∧ (evB C n f (xs ++ cs) H = some (r, H') ∨ ∃ g, C.extE f = some g ∧ g (xs ++ cs) H = some (r, H')))) := fun d H xf xs r H' h => by
        cases xf <;> simp only [evF] at h <;> try (cases h; done)
        case meth f cs => exact .inl ⟨f, cs, rfl, h⟩
        rename_i f cs
        refine .inr ⟨f, cs, rfl, ?_⟩
        split at h
        · rename_i g hg
          right
          cases d with
          | true => simp at hg
          | false => exact ⟨rfl, .inr ⟨g, by simpa using hg, h⟩⟩
        split at h
        · rename_i asx bs hs
          left
          split at h
          · rename_i r0 H0 hr
            cases h
            refine ⟨asx, bs, r0, H0, sealD_some hs, ?_⟩
            split at hr
            · rename_i g hg
              obtain ⟨h1, h2⟩ := G.ext f g hg
              exact ⟨h1, h2 _ _ _ hr, rfl, rfl⟩
            · obtain ⟨h1, h2⟩ := hn.b _ _ _ _ _ hr
              exact ⟨h1, fun base Z w cargs I hx => h2 base Z pure0 w cargs I hx, rfl, rfl⟩
          · cases h
        · right
          cases d with
          | true => simp at h
          | false => exact ⟨rfl, .inl (by simpa using h)⟩
      refine ⟨fun f args H r H' h => ?_, fun H xf xs r H' h => ?_, fun H xf xs r H' h => ?_, fun m f h0 c env H x env' H' h hc base Z φ a w S hh => ?_⟩
      · -- a function's body
        simp only [evB] at h
        split at h
        · cases h
        rename_i bd hbd
        obtain ⟨fn, g1, g2, g3, g4, g5, g6⟩ := G.body f bd hbd
        refine ⟨⟨fn, g1, g2, by rw [g3]; simp⟩, fun base Z φ w cargs I hx => ?_⟩
        split at h
        case isFalse => cases h
        rename_i hnt
        have S : St bd.ntmps base Z φ (argEnv args 0) H { tmps := cargs ++ Array.replicate (fn.ntmps - cargs.size) undef, defers := [] } w :=
          ⟨I, args_env hx, by simp [g5]; have := hx.1; omega, rfl⟩
        have fin : ∀ (x : X) (env1 : Env) (H1 : Heap), evC C n f H.length bd.code (argEnv args 0) H = some (x, env1, H1) → x.toExit = .normal ∨ x.toExit = .ret →
            (match resultsV C.P env1 H1 bd.results with | some vs => expo H.length (resV vs) H1 | none => none) = some (r, H') →
            Calls C.P f cargs w (fun e w' => ∃ v, e = .returned v ∧ Turns base Z φ H w H' r v w') := fun x env1 H1 hev hxe hres => by
          refine calls_of_wp g1 g3 (wp_mono (hn.c _ _ _ _ _ _ _ _ _ hev g6 base Z φ _ w S (Nat.le_refl _)) fun e a' w' he => ?_)
          obtain ⟨he, φ1, S1, hst, hlen⟩ := he
          split at hres
          case h_2 => cases hres
          rename_i vs hvs
          rw [← g4] at hvs
          obtain ⟨v, p1, p2⟩ := results_ok S1.inv S1.rel hvs
          have ht := expo_ok (base0 := base) S1.inv hst hlen p2 hres
          have hp : a'.defers = [] ∧ ∃ v, (results fn a'.tmps).run C.P w' = .ok v w' ∧ (∃ u, Ending.returned v = .returned u ∧ Turns base Z φ H w H' r u w') := ⟨S1.defers, v, p1, v, rfl, ht⟩
          rw [he]
          rcases hxe with hxe | hxe
          · rw [hxe]; exact hp
          · rw [hxe]; exact hp
        split at h
        · rename_i env1 H1 hev; exact fin _ _ _ hev (.inl rfl) h
        · rename_i env1 H1 hev; exact fin _ _ _ hev (.inr rfl) h
        · cases h
      · -- a call that must not write
        obtain ⟨f, cs, rfl, hm⟩ | ⟨f, cs, rfl, ⟨asx, bs, r0, H0, h1, h2, h3, rfl, rfl⟩ | ⟨hd, _⟩⟩ := callq _ _ _ _ _ _ h
        · obtain ⟨hle, hp⟩ := hn.q _ _ _ _ _ hm
          refine ⟨hle, fun base Z φ HF w cf cxs I hcf hxs hle' hu => ?_⟩
          obtain ⟨vs, hv, hvs⟩ := meth_rel hcf
          exact meth_enters hv (hp base Z φ HF w _ _ I (fn_nil f) (hvs.append hxs) hle' hu)
        · exact pure_call h2 h1 h3
        · cases hd
      · -- any call
        obtain ⟨f, cs, rfl, hm⟩ | ⟨f, cs, rfl, ⟨asx, bs, r0, H0, h1, h2, h3, rfl, rfl⟩ | ⟨_, hb⟩⟩ := callq _ _ _ _ _ _ h
        · intro base Z φ w cf cxs I hcf hxs
          obtain ⟨vs, hv, hvs⟩ := meth_rel hcf
          exact meth_enters hv (hn.e _ _ _ _ _ hm base Z φ w _ _ I (fn_nil f) (hvs.append hxs))
        · intro base Z φ w cf cxs I hf hx
          obtain ⟨hle, hp⟩ := pure_call h2 h1 h3
          obtain ⟨f', first, caps, fn, p1, p2, p3, p4, p5⟩ := hp base Z φ _ w cf cxs (I.le hle) (frz_rel I hle hf) ⟨hx.1, fun i x c a b => frz_rel I hle (hx.2 i x c a b)⟩ (.refl _) (unborn_new I)
          exact ⟨f', first, caps, fn, p1, p2, p3, p4, Calls.mono p5 fun e w' ⟨v, he, hl⟩ => ⟨v, he, leaves_turns I hle hl⟩⟩
        · intro base Z φ w cf cxs I hf hx
          have hb : FnOk C.P f ∧ ∀ base Z φ w cargs, Inv base Z φ H w → ArgsRel φ (Wr φ H Z) w (xs ++ cs) cargs → Calls C.P f cargs w (fun e w' => ∃ v, e = .returned v ∧ Turns base Z φ H w H' r v w') := by
            rcases hb with hb | ⟨g, hg, hb⟩
            · exact hn.b _ _ _ _ _ hb
            · obtain ⟨h1, h2⟩ := G.extE f g hg
              exact ⟨h1, h2 _ _ _ _ hb⟩
          obtain ⟨⟨fn, p2, p3, p4⟩, hb⟩ := hb
          obtain ⟨vs, rfl, hvs⟩ := fn_rel hf
          exact ⟨f, #[], vs, fn, rfl, p2, p3, p4, by rw [Array.empty_append]; exact hb base Z φ w _ I (hx.append hvs)⟩
      · -- code
        cases c <;> simp only [evC] at h <;> try (cases h; done)
        case skip => cases h; exact wp_skip ⟨rfl, .still S hh⟩
        case region id ops draw =>
          split at h
          case isFalse => cases h
          rename_i hfr
          simp only [Option.map_eq_some_iff] at h
          obtain ⟨⟨env1, H1⟩, h1, h⟩ := h
          cases h
          simp only [codeOk, Bool.and_eq_true, Bool.or_eq_true, Bool.not_eq_true'] at hc
          refine region_ok (ld := C.loud) G.mixed (fun hd o => ?_) (fun hd => ?_) hc.1 (fun hd => ?_) hfr S hh h1
          · unfold pickC; rw [hd]; exact hn.e
          · rw [hd]
            refine ⟨fun o ho => ?_, fun o => ?_, fun o x xs H r H' h => ?_⟩
            · unfold pickC; rw [ho]; exact hn.q
            · unfold pickC
              cases loudOp C.loud o with
              | true => exact fun H xf xs r H' h => hn.e _ _ _ _ _ (lenF_some h).1
              | false => exact hn.q.toE
            · unfold pickC at h
              cases hl : loudOp C.loud o with
              | true => rw [hl] at h; exact (lenF_some h).2
              | false => rw [hl] at h; exact (hn.q _ _ _ _ _ h).1.1
          · rcases hc.2 with h | h
            · rw [hd] at h; cases h
            · exact h
        case seq c1 c2 =>
          simp only [codeOk, Bool.and_eq_true] at hc
          apply wp_seq
          have go : ∀ x1 env1 H1, evC C n f h0 c1 env H = some (x1, env1, H1) → (x1.toExit = .normal → evC C n f h0 c2 env1 H1 = some (x, env', H')) → (x1.toExit ≠ .normal → (x1, env1, H1) = (x, env', H')) →
              c1.wp C.P (Exit.then (c2.wp C.P fun e a' w' => e = x.toExit ∧ Moves m base Z h0 φ H w env' H' a' w') fun e a' w' => e = x.toExit ∧ Moves m base Z h0 φ H w env' H' a' w') a w := fun x1 env1 H1 h1 hnorm hother => by
            refine wp_mono (hn.c m _ _ _ _ _ _ _ _ h1 hc.1 base Z φ a w S hh) fun e a1 w1 he => ?_
            obtain ⟨he, φ1, S1, hst, hlen⟩ := he
            by_cases hx1 : x1.toExit = .normal
            · rw [he, hx1]
              exact wp_mono (hn.c m _ _ _ _ _ _ _ _ (hnorm hx1) hc.2 base Z φ1 a1 w1 S1 hlen) fun e a2 w2 he2 => ⟨he2.1, he2.2.trans hst⟩
            · have := hother hx1
              cases this
              rw [he]
              cases x with
              | normal => exact absurd rfl hx1
              | exit id => exact ⟨rfl, φ1, S1, hst, hlen⟩
              | ret => exact ⟨rfl, φ1, S1, hst, hlen⟩
          split at h
          · rename_i env1 H1 h1
            exact go _ _ _ h1 (fun _ => h) (fun hne => absurd rfl hne)
          · rename_i hne
            refine go _ _ _ h (fun hx => ?_) (fun _ => rfl)
            cases x with
            | normal => exact absurd h (hne _ _)
            | exit id => cases hx
            | ret => cases hx
        case cond cnd c1 c2 =>
          simp only [codeOk, Bool.and_eq_true] at hc
          split at h
          · rename_i t ht
            have hr := S.rel.eval cnd
            rw [ht] at hr
            refine wp_cond (isBool_of hr) (hn.c m _ _ _ _ _ _ _ _ h (by cases t; exact hc.2; exact hc.1) base Z φ a w S hh)
          · cases h
        case block id c1 =>
          simp only [codeOk] at hc
          apply wp_block
          split at h
          · rename_i j env1 H1 h1
            cases h
            refine wp_mono (hn.c m _ _ _ _ _ _ _ _ h1 hc base Z φ a w S hh) fun e a1 w1 he => ?_
            rw [he.1]
            show if j = id then _ else _
            by_cases hj : j = id
            · rw [if_pos hj]; exact ⟨by rw [if_pos hj]; rfl, he.2⟩
            · rw [if_neg hj]; exact ⟨by rw [if_neg hj]; rfl, he.2⟩
          · rename_i hne
            refine wp_mono (hn.c m _ _ _ _ _ _ _ _ h hc base Z φ a w S hh) fun e a1 w1 he => ?_
            rw [he.1]
            cases x with
            | normal => exact ⟨rfl, he.2⟩
            | exit id => exact absurd h (hne _ _ _)
            | ret => exact ⟨rfl, he.2⟩
        case loop c1 =>
          simp only [codeOk] at hc
          have h' : evC C (n + 1) f h0 (.loop c1) env H = some (x, env', H') := by simp only [evC]; exact h
          refine wp_loopJ (fun k a1 w1 => k ≤ n + 1 ∧ ∃ φ1 env1 H1, St m base Z φ1 env1 H1 a1 w1 ∧ Step base h0 φ (Wr φ H Z) w φ1 (Wr φ1 H1 Z) w1 ∧ h0 ≤ H1.length ∧ evC C k f h0 (.loop c1) env1 H1 = some (x, env', H')) (fun k a1 w1 hJ => ?_) (n := n + 1) ⟨Nat.le_refl _, φ, env, H, S, .refl .., hh, h'⟩
          obtain ⟨hk, φ1, env1, H1, S1, hst1, hl1, hev⟩ := hJ
          cases k with
          | zero => simp [evC] at hev
          | succ k =>
            simp only [evC] at hev
            split at hev
            · rename_i env2 H2 hhead
              obtain ⟨φ2, S2, hst2, hl2⟩ := head_ok (P := C.P) S1 hl1 hhead
              have hik := ih k (by omega)
              split at hev
              · rename_i env3 H3 hb
                refine wp_mono (hik.c m _ _ _ _ _ _ _ _ hb hc base Z φ2 a1 w1 S2 hl2) fun e a3 w3 he => ?_
                obtain ⟨he, φ3, S3, hst3, hl3⟩ := he
                rw [he]
                exact ⟨k, Nat.lt_succ_self k, by omega, φ3, env3, H3, S3, (hst1.trans hst2).trans hst3, hl3, hev⟩
              · rename_i hne
                refine wp_mono (hik.c m _ _ _ _ _ _ _ _ hev hc base Z φ2 a1 w1 S2 hl2) fun e a3 w3 he => ?_
                obtain ⟨he, φ3, S3, hst3, hl3⟩ := he
                rw [he]
                cases x with
                | normal => exact absurd hev (hne _ _)
                | exit id => exact ⟨rfl, φ3, S3, (hst1.trans hst2).trans hst3, hl3⟩
                | ret => exact ⟨rfl, φ3, S3, (hst1.trans hst2).trans hst3, hl3⟩
            · cases hev
        case exit id => cases h; exact wp_exit ⟨rfl, .still S hh⟩
        case ret => cases h; exact wp_ret ⟨rfl, .still S hh⟩

end Go.Abs

namespace Go.Abs
open Go.RowKit
set_option linter.unusedVariables false
set_option linter.unusedSimpArgs false

theorem evOp_call {P : Program} {c1 c2 : CallV} {env : Env} {H : Heap} {o : Oper} {r : V × Heap} (h : evOp P c1 env H o = some r) (hc : ∀ f xs, c1 f xs H = some r → c2 f xs H = some r) : evOp P c2 env H o = some r := by
  obtain ⟨dst, op, type, pos, after, guard⟩ := o
  cases op
  case call c =>
    obtain ⟨callee, args, ats⟩ := c
    cases callee
    · simp only [evOp] at h ⊢; exact hc _ _ h
    · exact h
    · exact h
  case makeFunc fn _ _ => cases fn <;> exact h
  case makeMap t r => cases r <;> exact h
  case slice t x lo hi mx => cases mx <;> exact h
  all_goals exact h

theorem evOps_call {P : Program} {c1 c2 : Op → CallV} {ops : Array Oper} (hc : ∀ o f xs H r, c1 o f xs H = some r → c2 o f xs H = some r) : ∀ (l : List Oper) (env : Env) (H : Heap) (r : Env × Heap), evOps P c1 ops l env H = some r → evOps P c2 ops l env H = some r
  | [], env, H, r, h => h
  | o :: l, env, H, r, h => by
    simp only [evOps] at h ⊢
    cases hw : wantedV ops env o with
    | stuck => rw [hw] at h; cases h
    | no => rw [hw] at h; exact evOps_call hc l _ _ _ h
    | yes =>
      rw [hw] at h
      simp only at h ⊢
      cases he : evOp P (c1 o.op) env H o with
      | none => rw [he] at h; cases h
      | some vh =>
        rw [he] at h
        rw [evOp_call he fun f xs => hc _ f xs H vh]
        exact evOps_call hc l _ _ _ h

theorem pickC_mono {ld : FuncId → Bool} {draw : Bool} {c1 c2 : Bool → CallV} (hc : ∀ d f xs H r, c1 d f xs H = some r → c2 d f xs H = some r) {o : Op} {f : V} {xs : List V} {H : Heap} {r : V × Heap} (h : pickC ld draw c1 o f xs H = some r) : pickC ld draw c2 o f xs H = some r := by
  unfold pickC at h ⊢
  split at h
  · rename_i hb
    rw [if_pos hb]
    unfold lenF at h ⊢
    cases hx : c1 false f xs H with
    | none => rw [hx] at h; cases h
    | some x => rw [hx] at h; rw [hc _ _ _ _ _ hx]; exact h
  · rename_i hb
    rw [if_neg hb]
    exact hc _ _ _ _ _ h

theorem evOp_read {P : Program} {c1 c2 : CallV} {env : Env} {H : Heap} {o : Oper} (h : readOp o.op = true) : evOp P c1 env H o = evOp P c2 env H o := by
  obtain ⟨dst, op, type, pos, after, guard⟩ := o
  cases op <;> first | rfl | (simp [readOp] at h; done)
theorem states_call {P : Program} {c1 c2 : Op → CallV} {ops : Array Oper} (hc : ∀ o f xs H r, c1 o f xs H = some r → c2 o f xs H = some r) : ∀ (l : List Oper) (env : Env) (H : Heap) (r : Env × Heap), evOps P c1 ops l env H = some r → states P c1 ops l env H = states P c2 ops l env H
  | [], env, H, r, h => rfl
  | o :: l, env, H, r, h => by
    simp only [evOps, states] at h ⊢
    cases hw : wantedV ops env o with
    | stuck =>
      rw [hw] at h
      all_goals cases h
    | no =>
      rw [hw] at h
      all_goals exact congrArg _ (states_call hc l _ _ _ h)
    | yes =>
      rw [hw] at h
      simp only at h ⊢
      cases he : evOp P (c1 o.op) env H o with
      | none => rw [he] at h; cases h
      | some vh =>
        rw [he] at h
        rw [evOp_call he fun f xs => hc _ f xs H vh]
        exact congrArg _ (states_call hc l _ _ _ h)
theorem freeOk_call {P : Program} {c1 c2 : Op → CallV} {fl : List Nat} {ops : Array Oper} {S : List (Env × Heap)} : freeOk P c1 fl ops S = freeOk P c2 fl ops S := by
  unfold freeOk
  congr 1
  funext x
  by_cases hf : isFree fl x.1 = true
  · have hr : readOp x.1.op = true := by unfold isFree at hf; rw [Bool.and_eq_true] at hf; exact hf.1
    have e : ∀ (E : Env) (H : Heap), evOp P (c1 x.1.op) E H x.1 = evOp P (c2 x.1.op) E H x.1 := fun E H => evOp_read hr
    simp only [e]
  · simp [show isFree fl x.1 = false by simpa using hf]
theorem freeAll_call {P : Program} {c1 c2 : Op → CallV} {fl : List Nat} {ops : Array Oper} {env : Env} {H : Heap} {r : Env × Heap} (hc : ∀ o f xs H r, c1 o f xs H = some r → c2 o f xs H = some r) (h : evOps P c1 ops ops.toList env H = some r) :
    freeAll P c1 fl ops env H = freeAll P c2 fl ops env H := by
  unfold freeAll
  cases fl with
  | nil => rfl
  | cons => simp only; rw [states_call hc _ _ _ _ h, freeOk_call]

structure Mono (C : Ctx) (n : Nat) : Prop where
  b : ∀ f args H r, evB C n f args H = some r → evB C (n + 1) f args H = some r
  f : ∀ d x xs H r, evF C n d x xs H = some r → evF C (n + 1) d x xs H = some r
  c : ∀ f h0 c env H r, evC C n f h0 c env H = some r → evC C (n + 1) f h0 c env H = some r

theorem mono (C : Ctx) : ∀ n, Mono C n
  | 0 => ⟨fun f args H r h => by simp [evB] at h, fun d x xs H r h => by simp [evF] at h, fun f h0 c env H r h => by simp [evC] at h⟩
  | n + 1 => by
    have ih := mono C n
    refine ⟨fun f args H r h => ?_, fun d x xs H r h => ?_, fun f h0 c env H r h => ?_⟩
    · rw [evB] at h ⊢
      split at h
      · cases h
      rename_i bd hb
      try rw [hb]
      try simp only
      split at h
      case isFalse => cases h
      rename_i hl
      rw [if_pos hl]
      cases he : evC C n f H.length bd.code (argEnv args 0) H with
      | none => rw [he] at h; cases h
      | some x => rw [he] at h; rw [ih.c _ _ _ _ _ _ he]; exact h
    · cases x with
      | meth f cs => rw [evF] at h ⊢; exact ih.f _ _ _ _ _ h
      | fn f cs =>
        rw [evF] at h ⊢
        cases hE : (if d = true then none else C.extE f) with
        | some g => rw [hE] at h; exact h
        | none =>
        rw [hE] at h
        simp only at h ⊢
        split at h
        · rename_i asx bs hs
          try simp only
          cases he : C.ext f with
          | some g => rw [he] at h; exact h
          | none =>
            rw [he] at h
            simp only at h ⊢
            cases hb : evB C n f asx [] with
            | none => rw [hb] at h; cases h
            | some x => rw [hb] at h; rw [ih.b _ _ _ _ hb]; exact h
        · rename_i hs
          try simp only
          split at h
          · cases h
          · rename_i hd; rw [if_neg hd]; exact ih.b _ _ _ _ h
      | _ => simp [evF] at h
    · rw [evC.eq_def] at h ⊢
      cases c <;> simp only at h ⊢ <;> try exact h
      case region id ops draw =>
        split at h
        case isFalse => cases h
        rename_i hfr
        rw [Option.map_eq_some_iff] at h
        obtain ⟨x, h1, h2⟩ := h
        rw [if_pos (by rw [← freeAll_call (fun o f xs H r => pickC_mono fun d f xs H r => ih.f d f xs H r) h1]; exact hfr), Option.map_eq_some_iff]
        exact ⟨x, evOps_call (fun o f xs H r => pickC_mono fun d f xs H r => ih.f d f xs H r) _ _ _ _ h1, h2⟩
      case seq a b =>
        cases ha : evC C n f h0 a env H with
        | none => rw [ha] at h; cases h
        | some x =>
          rw [ha] at h
          rw [ih.c _ _ _ _ _ _ ha]
          obtain ⟨x, e, H1⟩ := x
          cases x with
          | normal => exact ih.c _ _ _ _ _ _ h
          | exit id => exact h
          | ret => exact h
      case cond cnd a b =>
        cases hv : evO env cnd <;> rw [hv] at h <;> try (cases h; done)
        exact ih.c _ _ _ _ _ _ h
      case block id b =>
        cases ha : evC C n f h0 b env H with
        | none => rw [ha] at h; cases h
        | some x => rw [ha] at h; rw [ih.c _ _ _ _ _ _ ha]; exact h
      case loop b =>
        split at h
        · rename_i e1 H1 hh
          try simp only
          cases ha : evC C n f h0 b e1 H1 with
          | none => rw [ha] at h; cases h
          | some x =>
            rw [ha] at h
            rw [ih.c _ _ _ _ _ _ ha]
            obtain ⟨x, e, H2⟩ := x
            cases x with
            | normal => exact ih.c _ _ _ _ _ _ h
            | exit id => exact h
            | ret => exact h
        · cases h

theorem mono_le {α : Type} {s : Nat → Option α} (hm : ∀ n a, s n = some a → s (n + 1) = some a) {n m : Nat} (h : n ≤ m) {a : α} (ha : s n = some a) : s m = some a := by
  induction h with
  | refl => exact ha
  | step _ ih => exact hm _ _ ih

open Classical in
/-- What a rising run ends in. -/
noncomputable def lim {α : Type} (s : Nat → Option α) : Option α := if h : ∃ a n, s n = some a then some h.choose else none

theorem lim_eq {α : Type} {s : Nat → Option α} (hm : ∀ n a, s n = some a → s (n + 1) = some a) {a : α} : lim s = some a ↔ ∃ n, s n = some a := by
  unfold lim
  constructor
  · intro h
    split at h
    · rename_i hx
      obtain ⟨n, hn⟩ := hx.choose_spec
      cases h
      exact ⟨n, hn⟩
    · cases h
  · rintro ⟨n, hn⟩
    have hx : ∃ a n, s n = some a := ⟨a, n, hn⟩
    rw [dif_pos hx]
    obtain ⟨m, hm'⟩ := hx.choose_spec
    have h1 := mono_le hm (Nat.le_max_left n m) hn
    have h2 := mono_le hm (Nat.le_max_right n m) hm'
    rw [h1] at h2
    exact h2.symm

noncomputable def bodyW (C : Ctx) (f : FuncId) (args : List V) (H : Heap) : Option (V × Heap) := lim fun n => evB C n f args H
noncomputable def callW (C : Ctx) (d : Bool) (x : V) (xs : List V) (H : Heap) : Option (V × Heap) := lim fun n => evF C n d x xs H
noncomputable def codeW (C : Ctx) (f : FuncId) (h0 : Nat) (c : Code) (env : Env) (H : Heap) : Option (X × Env × Heap) := lim fun n => evC C n f h0 c env H

section
variable {C : Ctx}

theorem bodyW_iff {f : FuncId} {args : List V} {H : Heap} {r : V × Heap} : bodyW C f args H = some r ↔ ∃ n, evB C n f args H = some r := lim_eq fun n a h => (mono C n).b _ _ _ _ h
theorem callW_iff {d : Bool} {x : V} {xs : List V} {H : Heap} {r : V × Heap} : callW C d x xs H = some r ↔ ∃ n, evF C n d x xs H = some r := lim_eq fun n a h => (mono C n).f _ _ _ _ _ h
theorem codeW_iff {f : FuncId} {h0 : Nat} {c : Code} {env : Env} {H : Heap} {r : X × Env × Heap} : codeW C f h0 c env H = some r ↔ ∃ n, evC C n f h0 c env H = some r := lim_eq fun n a h => (mono C n).c _ _ _ _ _ _ h

theorem up_f {n m : Nat} (h : n ≤ m) {d : Bool} {x : V} {xs : List V} {H : Heap} {r : V × Heap} (hr : evF C n d x xs H = some r) : evF C m d x xs H = some r := mono_le (s := fun n => evF C n d x xs H) (fun n a h => (mono C n).f _ _ _ _ _ h) h hr
theorem up_c {n m : Nat} (h : n ≤ m) {f : FuncId} {h0 : Nat} {c : Code} {env : Env} {H : Heap} {r : X × Env × Heap} (hr : evC C n f h0 c env H = some r) : evC C m f h0 c env H = some r := mono_le (s := fun n => evC C n f h0 c env H) (fun n a h => (mono C n).c _ _ _ _ _ _ h) h hr

theorem pickC_W {ld : FuncId → Bool} {draw : Bool} {o : Op} {f : V} {xs : List V} {H : Heap} {r : V × Heap} (h : pickC ld draw (callW C) o f xs H = some r) : ∃ n, pickC ld draw (evF C n) o f xs H = some r := by
  unfold pickC at h ⊢
  split at h
  · rename_i hb
    unfold lenF at h
    cases hx : callW C false f xs H with
    | none => rw [hx] at h; cases h
    | some x =>
      rw [hx] at h
      obtain ⟨n, hn⟩ := callW_iff.1 hx
      exact ⟨n, by rw [if_pos hb]; unfold lenF; rw [hn]; exact h⟩
  · rename_i hb
    obtain ⟨n, hn⟩ := callW_iff.1 h
    exact ⟨n, by rw [if_neg hb]; exact hn⟩

theorem evOp_W {ld : FuncId → Bool} {d : Bool} {env : Env} {H : Heap} {o : Oper} {r : V × Heap} (h : evOp C.P (pickC ld d (callW C) o.op) env H o = some r) : ∃ n, evOp C.P (pickC ld d (evF C n) o.op) env H o = some r := by
  by_cases hv : ∃ f args ats, o.op = .call ⟨.value f, args, ats⟩
  · obtain ⟨f, args, ats, ho⟩ := hv
    obtain ⟨dst, op, type, pos, after, guard⟩ := o
    simp only at ho
    subst ho
    simp only [evOp] at h ⊢
    exact pickC_W h
  · refine ⟨0, ?_⟩
    obtain ⟨dst, op, type, pos, after, guard⟩ := o
    cases op
    case call c =>
      obtain ⟨callee, args, ats⟩ := c
      cases callee
      · exact absurd ⟨_, _, _, rfl⟩ hv
      · exact h
      · exact h
    case makeFunc fn _ _ => cases fn <;> exact h
    case makeMap t r => cases r <;> exact h
    case slice t x lo hi mx => cases mx <;> exact h
    all_goals exact h

theorem evOps_W {ld : FuncId → Bool} {d : Bool} {ops : Array Oper} : ∀ (l : List Oper) (env : Env) (H : Heap) (r : Env × Heap), evOps C.P (pickC ld d (callW C)) ops l env H = some r → ∃ n, evOps C.P (pickC ld d (evF C n)) ops l env H = some r
  | [], env, H, r, h => ⟨0, h⟩
  | o :: l, env, H, r, h => by
    simp only [evOps] at h ⊢
    cases hw : wantedV ops env o with
    | stuck => rw [hw] at h; cases h
    | no => rw [hw] at h; exact evOps_W l _ _ _ h
    | yes =>
      rw [hw] at h
      simp only at h ⊢
      cases he : evOp C.P (pickC ld d (callW C) o.op) env H o with
      | none => rw [he] at h; cases h
      | some vh =>
        rw [he] at h
        obtain ⟨n1, h1⟩ := evOp_W he
        obtain ⟨n2, h2⟩ := evOps_W l _ _ _ h
        refine ⟨max n1 n2, ?_⟩
        rw [evOp_call h1 fun f xs hf => pickC_mono (fun d f xs H r hf => up_f (Nat.le_max_left n1 n2) hf) hf]
        exact evOps_call (fun o f xs H r hf => pickC_mono (fun d f xs H r hf => up_f (Nat.le_max_right n1 n2) hf) hf) l _ _ _ h2

theorem evOps_W_iff {ld : FuncId → Bool} {d : Bool} {ops : Array Oper} {l : List Oper} {env : Env} {H : Heap} {r : Env × Heap} : evOps C.P (pickC ld d (callW C)) ops l env H = some r ↔ ∃ n, evOps C.P (pickC ld d (evF C n)) ops l env H = some r :=
  ⟨evOps_W l env H r, fun ⟨n, h⟩ => evOps_call (fun o f xs H r hf => pickC_mono (fun d f xs H r hf => callW_iff.2 ⟨n, hf⟩) hf) l _ _ _ h⟩

theorem bodyW_def {f : FuncId} {args : List V} {H : Heap} : bodyW C f args H = match C.body f with
    | none => none
    | some fn => if args.length ≤ fn.ntmps then match codeW C f H.length fn.code (argEnv args 0) H with
        | some (.normal, env, H') | some (.ret, env, H') => match resultsV C.P env H' fn.results with
          | some vs => expo H.length (resV vs) H'
          | none => none
        | _ => none
      else none := by
  apply Option.ext
  intro r
  rw [bodyW_iff]
  constructor
  · rintro ⟨n, h⟩
    cases n with
    | zero => simp [evB] at h
    | succ n =>
      rw [evB] at h
      split at h
      · cases h
      rename_i bd hb
      try rw [hb]
      try simp only
      split at h
      case isFalse => cases h
      rename_i hl
      rw [if_pos hl]
      cases he : evC C n f H.length bd.code (argEnv args 0) H with
      | none => rw [he] at h; cases h
      | some x => rw [he] at h; rw [codeW_iff.2 ⟨n, he⟩]; exact h
  · intro h
    split at h
    · cases h
    rename_i bd hb
    split at h
    case isFalse => cases h
    rename_i hl
    cases he : codeW C f H.length bd.code (argEnv args 0) H with
    | none => rw [he] at h; cases h
    | some x =>
      rw [he] at h
      obtain ⟨n, hn⟩ := codeW_iff.1 he
      exact ⟨n + 1, by rw [evB, hb]; simp only; rw [if_pos hl, hn]; exact h⟩

theorem callW_def {d : Bool} {f : FuncId} {cs xs : List V} {H : Heap} : callW C d (.fn f cs) xs H = match (if d then none else C.extE f) with
  | some g => g (xs ++ cs) H
  | none => match sealD C d f H (xs ++ cs) with
    | some (asx, bs) =>
      match (match C.ext f with | some g => g asx | none => bodyW C f asx []) with
      | some (r, H') => some (ren (shift H.length) r, (if hasRo r || H'.any hasRoB then freeze H bs else H) ++ H'.map (renB (shift H.length)))
      | none => none
    | none => if d then none else bodyW C f (xs ++ cs) H := by
  apply Option.ext
  intro r
  rw [callW_iff]
  cases hE : (if d = true then none else C.extE f) with
  | some g =>
    constructor
    · rintro ⟨n, h⟩
      cases n with
      | zero => simp [evF] at h
      | succ n => rw [evF, hE] at h; exact h
    · intro h
      exact ⟨1, by rw [evF, hE]; exact h⟩
  | none =>
  simp only
  constructor
  · rintro ⟨n, h⟩
    cases n with
    | zero => simp [evF] at h
    | succ n =>
      rw [evF, hE] at h
      simp only at h
      split at h
      · rename_i asx bs hs
        try rw [hs]
        try simp only
        cases he : C.ext f with
        | some g => rw [he] at h; exact h
        | none =>
          rw [he] at h
          simp only at h ⊢
          cases hb : evB C n f asx [] with
          | none => rw [hb] at h; cases h
          | some x => rw [hb] at h; rw [bodyW_iff.2 ⟨n, hb⟩]; exact h
      · rename_i hs
        try rw [hs]
        try simp only
        split at h
        · cases h
        · rename_i hd; rw [if_neg hd]; exact bodyW_iff.2 ⟨n, h⟩
  · intro h
    split at h
    · rename_i asx bs hs
      cases he : C.ext f with
      | some g => rw [he] at h; exact ⟨1, by rw [evF, hE]; simp only; rw [hs]; simp only; rw [he]; exact h⟩
      | none =>
        rw [he] at h
        simp only at h
        cases hb : bodyW C f asx [] with
        | none => rw [hb] at h; cases h
        | some x =>
          rw [hb] at h
          obtain ⟨n, hn⟩ := bodyW_iff.1 hb
          exact ⟨n + 1, by rw [evF, hE]; simp only; rw [hs]; simp only; rw [he]; simp only; rw [hn]; exact h⟩
    · rename_i hs
      split at h
      · cases h
      · rename_i hd
        obtain ⟨n, hn⟩ := bodyW_iff.1 h
        exact ⟨n + 1, by rw [evF, hE]; simp only; rw [hs]; simp only; rw [if_neg hd]; exact hn⟩

/-- A loop's head. -/
def headE (C : Ctx) (f : FuncId) (h0 : Nat) (b : Code) (env : Env) (H : Heap) : Option (Env × Heap) := match C.keep f (loopKey b) with
  | some ks => atHead h0 ks env H
  | none => some (env, H)

theorem evC_loop {n : Nat} {f : FuncId} {h0 : Nat} {b : Code} {env : Env} {H : Heap} : evC C (n + 1) f h0 (.loop b) env H = match headE C f h0 b env H with
    | some (env, H) => match evC C n f h0 b env H with
      | some (.normal, env', H') => evC C n f h0 (.loop b) env' H'
      | r => r
    | none => none := by
  rw [evC]
  unfold headE
  cases C.keep f (loopKey b) <;> rfl

/-- The state behind a loop's head. -/
noncomputable def loopW (C : Ctx) (f : FuncId) (h0 : Nat) (b : Code) (env : Env) (H : Heap) : Option (X × Env × Heap) := match codeW C f h0 b env H with
  | some (.normal, env', H') => codeW C f h0 (.loop b) env' H'
  | r => r

theorem codeW_skip {f : FuncId} {h0 : Nat} {env : Env} {H : Heap} : codeW C f h0 .skip env H = some (.normal, env, H) := codeW_iff.2 ⟨1, by rw [evC]⟩
theorem codeW_exit {f : FuncId} {h0 id : Nat} {env : Env} {H : Heap} : codeW C f h0 (.exit id) env H = some (.exit id, env, H) := codeW_iff.2 ⟨1, by rw [evC]⟩
theorem codeW_ret {f : FuncId} {h0 : Nat} {env : Env} {H : Heap} : codeW C f h0 .ret env H = some (.ret, env, H) := codeW_iff.2 ⟨1, by rw [evC]⟩

theorem codeW_region {f : FuncId} {h0 id : Nat} {ops : Array Oper} {draw : Bool} {env : Env} {H : Heap} : codeW C f h0 (.region id ops draw) env H = if freeAll C.P (pickC C.loud draw (callW C)) (C.free f id) ops env H then (evOps C.P (pickC C.loud draw (callW C)) ops ops.toList env H).map fun (env', H') => (.normal, env', H') else none := by
  apply Option.ext
  intro r
  rw [codeW_iff]
  have up : ∀ n, ∀ o f xs H r, pickC C.loud draw (evF C n) o f xs H = some r → pickC C.loud draw (callW C) o f xs H = some r := fun n o f xs H r hf => pickC_mono (fun d f xs H r hf => callW_iff.2 ⟨n, hf⟩) hf
  constructor
  · rintro ⟨n, h⟩
    cases n with
    | zero => simp [evC] at h
    | succ n =>
      rw [evC] at h
      split at h
      case isFalse => cases h
      rename_i hfr
      rw [Option.map_eq_some_iff] at h
      obtain ⟨x, h1, h2⟩ := h
      rw [if_pos (by rw [← freeAll_call (up n) h1]; exact hfr), Option.map_eq_some_iff]
      exact ⟨x, evOps_W_iff.2 ⟨n, h1⟩, h2⟩
  · intro h
    split at h
    case isFalse => cases h
    rename_i hfr
    rw [Option.map_eq_some_iff] at h
    obtain ⟨x, h1, h2⟩ := h
    obtain ⟨n, hn⟩ := evOps_W_iff.1 h1
    exact ⟨n + 1, by rw [evC, if_pos (by rw [freeAll_call (up n) hn]; exact hfr), Option.map_eq_some_iff]; exact ⟨x, hn, h2⟩⟩

theorem codeW_seq {f : FuncId} {h0 : Nat} {a b : Code} {env : Env} {H : Heap} : codeW C f h0 (.seq a b) env H = match codeW C f h0 a env H with
    | some (.normal, env', H') => codeW C f h0 b env' H'
    | r => r := by
  apply Option.ext
  intro r
  rw [codeW_iff]
  constructor
  · rintro ⟨n, h⟩
    cases n with
    | zero => simp [evC] at h
    | succ n =>
      rw [evC] at h
      cases ha : evC C n f h0 a env H with
      | none => rw [ha] at h; cases h
      | some x =>
        rw [ha] at h
        rw [codeW_iff.2 ⟨n, ha⟩]
        obtain ⟨x, e, H1⟩ := x
        cases x with
        | normal => exact codeW_iff.2 ⟨n, h⟩
        | exit id => exact h
        | ret => exact h
  · intro h
    cases ha : codeW C f h0 a env H with
    | none => rw [ha] at h; cases h
    | some x =>
      rw [ha] at h
      obtain ⟨n, hn⟩ := codeW_iff.1 ha
      obtain ⟨x, e, H1⟩ := x
      cases x with
      | normal =>
        obtain ⟨m, hm⟩ := codeW_iff.1 h
        exact ⟨max n m + 1, by rw [evC, up_c (Nat.le_max_left n m) hn]; exact up_c (Nat.le_max_right n m) hm⟩
      | exit id => exact ⟨n + 1, by rw [evC, hn]; exact h⟩
      | ret => exact ⟨n + 1, by rw [evC, hn]; exact h⟩

theorem codeW_cond {f : FuncId} {h0 : Nat} {c : Operand} {a b : Code} {env : Env} {H : Heap} : codeW C f h0 (.cond c a b) env H = match evO env c with
    | .bool t => codeW C f h0 (if t then a else b) env H
    | _ => none := by
  apply Option.ext
  intro r
  rw [codeW_iff]
  constructor
  · rintro ⟨n, h⟩
    cases n with
    | zero => simp [evC] at h
    | succ n =>
      rw [evC] at h
      cases hv : evO env c <;> rw [hv] at h <;> try (cases h; done)
      exact codeW_iff.2 ⟨n, h⟩
  · intro h
    cases hv : evO env c <;> rw [hv] at h <;> try (cases h; done)
    obtain ⟨n, hn⟩ := codeW_iff.1 h
    exact ⟨n + 1, by rw [evC, hv]; exact hn⟩

theorem codeW_block {f : FuncId} {h0 id : Nat} {b : Code} {env : Env} {H : Heap} : codeW C f h0 (.block id b) env H = match codeW C f h0 b env H with
    | some (.exit j, env', H') => some (if j = id then .normal else .exit j, env', H')
    | r => r := by
  apply Option.ext
  intro r
  rw [codeW_iff]
  constructor
  · rintro ⟨n, h⟩
    cases n with
    | zero => simp [evC] at h
    | succ n =>
      rw [evC] at h
      cases ha : evC C n f h0 b env H with
      | none => rw [ha] at h; cases h
      | some x => rw [ha] at h; rw [codeW_iff.2 ⟨n, ha⟩]; exact h
  · intro h
    cases ha : codeW C f h0 b env H with
    | none => rw [ha] at h; cases h
    | some x =>
      rw [ha] at h
      obtain ⟨n, hn⟩ := codeW_iff.1 ha
      exact ⟨n + 1, by rw [evC, hn]; exact h⟩

theorem codeW_loop {f : FuncId} {h0 : Nat} {b : Code} {env : Env} {H : Heap} : codeW C f h0 (.loop b) env H = match headE C f h0 b env H with
    | some (env, H) => loopW C f h0 b env H
    | none => none := by
  apply Option.ext
  intro r
  rw [codeW_iff]
  constructor
  · rintro ⟨n, h⟩
    cases n with
    | zero => simp [evC] at h
    | succ n =>
      rw [evC_loop] at h
      split at h
      · rename_i e1 H1 hh
        try simp only
        unfold loopW
        cases ha : evC C n f h0 b e1 H1 with
        | none => rw [ha] at h; cases h
        | some x =>
          rw [ha] at h
          rw [codeW_iff.2 ⟨n, ha⟩]
          obtain ⟨x, e, H2⟩ := x
          cases x with
          | normal => exact codeW_iff.2 ⟨n, h⟩
          | exit id => exact h
          | ret => exact h
      · cases h
  · intro h
    split at h
    · rename_i e1 H1 hh
      unfold loopW at h
      cases ha : codeW C f h0 b e1 H1 with
      | none => rw [ha] at h; cases h
      | some x =>
        rw [ha] at h
        obtain ⟨n, hn⟩ := codeW_iff.1 ha
        obtain ⟨x, e, H2⟩ := x
        cases x with
        | normal =>
          obtain ⟨m, hm⟩ := codeW_iff.1 h
          exact ⟨max n m + 1, by rw [evC_loop, hh]; simp only; rw [up_c (Nat.le_max_left n m) hn]; exact up_c (Nat.le_max_right n m) hm⟩
        | exit id => exact ⟨n + 1, by rw [evC_loop, hh]; simp only; rw [hn]; exact h⟩
        | ret => exact ⟨n + 1, by rw [evC_loop, hh]; simp only; rw [hn]; exact h⟩
    · cases h

end

end Go.Abs

namespace Go.Abs
open Go.RowKit
set_option linter.unusedVariables false
set_option linter.unusedSimpArgs false

/-- Code runs, and in the end Q holds. -/
def Runs (C : Ctx) (f : FuncId) (h0 : Nat) (c : Code) (env : Env) (H : Heap) (Q : X → Env → Heap → Prop) : Prop :=
  ∃ x env' H', codeW C f h0 c env H = some (x, env', H') ∧ Q x env' H'

def Ops (C : Ctx) (d : Bool) (ops : Array Oper) (l : List Oper) (env : Env) (H : Heap) (N : Env → Heap → Prop) : Prop :=
  ∃ env' H', evOps C.P (pickC C.loud d (callW C)) ops l env H = some (env', H') ∧ N env' H'

def Next (N : Env → Heap → Prop) (Q : X → Env → Heap → Prop) : X → Env → Heap → Prop
  | .normal, e, h => N e h
  | x, e, h => Q x e h

def InBlock (id : Nat) (Q : X → Env → Heap → Prop) : X → Env → Heap → Prop
  | .exit j, e, h => Q (if j = id then .normal else .exit j) e h
  | x, e, h => Q x e h

section
variable {C : Ctx} {f : FuncId} {h0 : Nat} {env : Env} {H : Heap} {Q : X → Env → Heap → Prop} {N : Env → Heap → Prop} {d : Bool} {ops : Array Oper}

theorem runs_skip (h : Q .normal env H) : Runs C f h0 .skip env H Q := ⟨_, _, _, codeW_skip, h⟩
theorem runs_ret (h : Q .ret env H) : Runs C f h0 .ret env H Q := ⟨_, _, _, codeW_ret, h⟩
theorem runs_exit {id : Nat} (h : Q (.exit id) env H) : Runs C f h0 (.exit id) env H Q := ⟨_, _, _, codeW_exit, h⟩

theorem runs_seq {a b : Code} (h : Runs C f h0 a env H (Next (fun e h => Runs C f h0 b e h Q) Q)) : Runs C f h0 (.seq a b) env H Q := by
  obtain ⟨x, e, h1, h2, h3⟩ := h
  cases x with
  | normal =>
    obtain ⟨x', e', h', p1, p2⟩ := h3
    exact ⟨x', e', h', by rw [codeW_seq, h2]; exact p1, p2⟩
  | exit id => exact ⟨_, _, _, by rw [codeW_seq, h2], h3⟩
  | ret => exact ⟨_, _, _, by rw [codeW_seq, h2], h3⟩

theorem runs_block {id : Nat} {b : Code} (h : Runs C f h0 b env H (InBlock id Q)) : Runs C f h0 (.block id b) env H Q := by
  obtain ⟨x, e, h1, h2, h3⟩ := h
  cases x with
  | normal => exact ⟨_, _, _, by rw [codeW_block, h2], h3⟩
  | exit id => exact ⟨_, _, _, by rw [codeW_block, h2], h3⟩
  | ret => exact ⟨_, _, _, by rw [codeW_block, h2], h3⟩

theorem runs_cond {c : Operand} {a b : Code} {t : Bool} (hc : evO env c = .bool t) (ht : t = true → Runs C f h0 a env H Q) (hf : t = false → Runs C f h0 b env H Q) : Runs C f h0 (.cond c a b) env H Q := by
  have key : Runs C f h0 (if t then a else b) env H Q := by cases t; exact hf rfl; exact ht rfl
  obtain ⟨x, e, h1, h2, h3⟩ := key
  exact ⟨x, e, h1, by rw [codeW_cond, hc]; exact h2, h3⟩

theorem runs_region {id : Nat} (hf : C.free f id = []) (h : Ops C d ops ops.toList env H (Q .normal)) : Runs C f h0 (.region id ops d) env H Q := by
  obtain ⟨e, h1, h2, h3⟩ := h
  exact ⟨_, _, _, by rw [codeW_region, hf, h2]; rfl, h3⟩

theorem runs_loop {b : Code} (J : Nat → Env → Heap → Prop) {e0 : Env} {H0 : Heap} {n : Nat} (hh : headE C f h0 b env H = some (e0, H0)) (hJ : J n e0 H0)
    (round : ∀ n e h, J n e h → Runs C f h0 b e h (Next (fun e' h' => ∃ m e1 h1, headE C f h0 b e' h' = some (e1, h1) ∧ m < n ∧ J m e1 h1) Q)) : Runs C f h0 (.loop b) env H Q := by
  have key : ∀ n e h, J n e h → ∃ x e' h', loopW C f h0 b e h = some (x, e', h') ∧ Q x e' h' := by
    intro n
    induction n using Nat.strongRecOn with
    | _ n ih =>
      intro e h hJ
      obtain ⟨x, e1, h1, p1, p2⟩ := round n e h hJ
      cases x with
      | normal =>
        obtain ⟨m, e2, h2, q1, q2, q3⟩ := p2
        obtain ⟨x', e', h', r1, r2⟩ := ih m q2 e2 h2 q3
        refine ⟨x', e', h', ?_, r2⟩
        unfold loopW
        rw [p1]
        simp only
        rw [codeW_loop, q1]
        exact r1
      | exit id => exact ⟨_, _, _, by unfold loopW; rw [p1], p2⟩
      | ret => exact ⟨_, _, _, by unfold loopW; rw [p1], p2⟩
  obtain ⟨x, e', h', r1, r2⟩ := key n e0 H0 hJ
  exact ⟨x, e', h', by rw [codeW_loop, hh]; exact r1, r2⟩

theorem Runs.mono {c : Code} {Q' : X → Env → Heap → Prop} (h : Runs C f h0 c env H Q) (hq : ∀ x e h, Q x e h → Q' x e h) : Runs C f h0 c env H Q' := by
  obtain ⟨x, e, h1, p1, p2⟩ := h
  exact ⟨x, e, h1, p1, hq _ _ _ p2⟩

/-- How a body ends. -/
def Ends (C : Ctx) (rs : List ResultVar) (h0 : Nat) (R : V → Heap → Prop) : X → Env → Heap → Prop
  | .exit _, _, _ => False
  | _, env, H => ∃ vs r H', resultsV C.P env H rs = some vs ∧ expo h0 (resV vs) H = some (r, H') ∧ R r H'

/-- A function's body runs. -/
def Body.Gives (C : Ctx) (f : FuncId) (args : List V) (H : Heap) (R : V → Heap → Prop) : Prop := ∃ r H', bodyW C f args H = some (r, H') ∧ R r H'

theorem gives_body {fn : Body} {args : List V} {R : V → Heap → Prop} (hb : C.body f = some fn) (hl : args.length ≤ fn.ntmps) (h : Runs C f H.length fn.code (argEnv args 0) H (Ends C fn.results H.length R)) : Body.Gives C f args H R := by
  obtain ⟨x, e, h1, p1, p2⟩ := h
  unfold Body.Gives
  rw [bodyW_def, hb]
  simp only
  rw [if_pos hl, p1]
  cases x with
  | exit id => exact p2.elim
  | normal =>
    obtain ⟨vs, r, H', q1, q2, q3⟩ := p2
    simp only
    rw [q1]
    exact ⟨r, H', q2, q3⟩
  | ret =>
    obtain ⟨vs, r, H', q1, q2, q3⟩ := p2
    simp only
    rw [q1]
    exact ⟨r, H', q2, q3⟩

end

end Go.Abs

