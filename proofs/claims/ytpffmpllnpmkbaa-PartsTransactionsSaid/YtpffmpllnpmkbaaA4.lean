/- Proved here: part 4 of a sound evaluator for the model: what it computes of a call, the call does. No condition. -/
import Derived.Test.YtpffmpllnpmkbaaA3
namespace Go.Abs
open Go.RowKit
set_option linter.unusedVariables false
set_option linter.unusedSimpArgs false

variable {P : Program}

section
variable {base : Nat} {Z : Nat → Prop} {φ : Place} {H HF : Heap} {w : World} {lo hi : Nat} {x y : V} {cv cu cx : Value} {W : Nat → Prop}

theorem leaves_turns {H' : Heap} {r : V} {v : Value} {w' : World} (I : Inv base Z φ H w) (hle : Le H H') (h : Leaves base Z φ H' w lo hi r v w') : Turns base Z φ H w H' r v w' :=
  let ⟨φ', h⟩ := h; ⟨φ', h.toE I hle⟩

theorem unborn_new (I : Inv base Z φ H w) {n : Nat} : ∀ b, H.length ≤ b → b < n → φ b = .unborn := fun b h _ => I.born b h

/-- Any operation, where nothing else is left out. -/
theorem e_op {o : Oper} {env : Env} {a : Act} {r : V} {H' : Heap} {call : CallV} (hcall : ECall P call) (I : Inv base Z φ H w) (hr : ∀ x ∈ o.op.operands, VRel φ (Wr φ H Z) w (evO env x) (a.eval x))
    (h : evOp P call env H o = some (r, H')) : Does P o a w (Turns base Z φ H w H' r) := by
  by_cases hv : ∃ f args ats, o.op = .call ⟨.value f, args, ats⟩
  · obtain ⟨f, args, ats, ho⟩ := hv
    obtain ⟨dst, op, type, pos, after, guard⟩ := o
    simp only at ho
    subst ho
    simp only [evOp] at h
    exact Does.enter rfl rfl (hcall _ _ _ _ _ h base Z φ w _ _ I (hr f (by simp [Op.operands, Call.operands])) (args_of fun x hx => hr x (by simp [Op.operands, Call.operands, hx])))
  have h' : evOp P (fun _ _ _ => none) env H o = some (r, H') := by
    obtain ⟨dst, op, type, pos, after, guard⟩ := o
    cases op
    case call c =>
      obtain ⟨callee, args, ats⟩ := c
      cases callee
      · exact absurd ⟨_, _, _, rfl⟩ hv
      all_goals simpa only [evOp] using h
    case makeFunc fn _ _ => cases fn <;> exact h
    case makeMap t r => cases r <;> exact h
    case slice t x lo hi mx => cases mx <;> exact h
    all_goals exact h
  have hq0 : QCall P (fun _ _ _ => none) := fun H xf xs r H' h => by cases h
  by_cases hq : cls P o = 2
  case neg =>
    have hle := evOp_le hq0 hq h'
    exact (q_op hq0 (I.le hle) (fun x hx => frz_rel I hle (hr x hx)) hq h' (.refl _) (unborn_new I)).mono fun v w' hl => leaves_turns I hle hl
  clear h
  obtain ⟨dst, op, type, pos, after, guard⟩ := o
  cases op <;> try (simp [cls] at hq; done)
  case convert s d x =>
    simp only [cls] at hq
    split at hq <;> cases hq
  case store t x y =>
    simp only [evOp, Option.map_eq_some_iff] at h'
    obtain ⟨z, hz, h'⟩ := h'
    cases h'
    exact Does.semu rfl (e_store I (hr x (by simp [Op.operands])) (hr y (by simp [Op.operands])) hz)
  case mapUpdate t m k x =>
    simp only [evOp, Option.map_eq_some_iff] at h'
    obtain ⟨z, hz, h'⟩ := h'
    cases h'
    exact Does.semu rfl (e_mapUpdate I (hr m (by simp [Op.operands])) (hr k (by simp [Op.operands])) (hr x (by simp [Op.operands])) hz)
  case call c =>
    obtain ⟨callee, args, ats⟩ := c
    cases callee <;> try (simp [cls] at hq; done)
    rename_i b
    have hargs := args_of (φ := φ) (W := Wr φ H Z) (w := w) (env := env) (a := a) (args := args) (fun x hx => hr x (by simp [Op.operands, Call.operands, hx]))
    cases b <;> try (simp [cls] at hq; done)
    all_goals
      simp only [evOp] at h'
      generalize hxs : args.toList.map (evO env) = xs at h' hargs
      unfold builtinV at h'
      split at h' <;> first
        | (cases h'; done)
        | contradiction
        | skip
    · split at h'
      · rename_i s x hb t u hts
        split at h'
        · cases h'
        · rename_i hu
          obtain ⟨c, d, e1, e2, e3⟩ := len_two hargs rfl
          have ht : ats = #[t, u] := by rw [← Array.toList_inj]; simpa using hts
          exact Does.sem (s := Builtin.append_ #[t, u] type #[c, d]) (by simp only [execOp, resolve, invoke, builtin, pure_bind, e1, ht]) (e_append I e2 e3 (by simpa using fun e => hu (.inl e)) (by
            cases hn : (P.underlying u).isNone with
            | false => rfl
            | true => exact absurd (.inr hn) hu) h')
      · cases h'
    · split at h'
      · rename_i s x hb t u hts
        obtain ⟨c, d, e1, e2, e3⟩ := len_two hargs rfl
        have ht : ats = #[t, u] := by rw [← Array.toList_inj]; simpa using hts
        exact Does.sem (s := Builtin.copy_ #[t, u] type #[c, d]) (by simp only [execOp, resolve, invoke, builtin, pure_bind, e1, ht]) (e_copy I e2 e3 h')
      · cases h'

/-- The slots of a call. -/
def EnvRel (φ : Place) (W : Nat → Prop) (w : World) (env : Env) (tmps : Array Value) : Prop := ∀ t, VRel φ W w (env.get t) (tmps.getD t undef)

theorem EnvRel.eval {env : Env} {a : Act} (h : EnvRel φ W w env a.tmps) (x : Operand) : VRel φ W w (evO env x) (a.eval x) := evO_ok x fun t _ => h t

theorem EnvRel.mono {h0 : Nat} {φ' : Place} {W' : Nat → Prop} {w' : World} {env : Env} {tmps : Array Value} (E : Ext h0 φ W w φ' W' w') (hb : ∀ b, φ b ≠ .unborn → b < h0) (h : EnvRel φ W w env tmps) : EnvRel φ' W' w' env tmps :=
  fun t => (h t).mono E hb

theorem EnvRel.put {env : Env} {a : Act} (h : EnvRel φ W w env a.tmps) {d : Option Nat} {v : Value} (hv : VRel φ W w x v) (hd : ∀ i, d = some i → i < a.tmps.size) : EnvRel φ W w (env.put d x) (a.put d v).tmps := by
  cases d with
  | none => exact h
  | some i =>
    intro t
    have hi := hd i rfl
    simp only [Env.put, Env.get, Act.put]
    by_cases ht : t = i
    · subst ht
      rw [if_pos rfl]
      simpa [hi] using hv
    · rw [if_neg ht]
      have : (a.tmps.setIfInBounds i v).getD t undef = a.tmps.getD t undef := by simp [Array.getElem?_setIfInBounds_ne (Ne.symm ht)]
      rw [this]
      exact h t

theorem put_size {a : Act} {d : Option Nat} {v : Value} : (a.put d v).tmps.size = a.tmps.size := by cases d <;> simp [Act.put]
theorem put_defers {a : Act} {d : Option Nat} {v : Value} : (a.put d v).defers = a.defers := by cases d <;> rfl

theorem wanted_ok {ops : Array Oper} {env : Env} {a : Act} {o : Oper} (h : ∀ t ∈ o.looksAt ops, VRel φ W w (env.get t) (a.tmps.getD t undef)) :
    match wantedV ops env o with
    | .yes => Region.wanted o (yielded ops a.tmps) = true
    | .no => Region.wanted o (yielded ops a.tmps) = false
    | .stuck => True := by
  unfold wantedV Region.wanted
  cases hg : o.guard with
  | none => rfl
  | some gw =>
    obtain ⟨j, want⟩ := gw
    simp only
    cases hd : (ops[j]?).bind (·.dst) with
    | none => simp [yielded, hd]
    | some d =>
      simp only
      have hr := h d (by simp [Oper.looksAt, hg, hd])
      have hget : a.tmps.getD d undef = ((a.tmps[d]?).getD undef) := by simp
      rw [hget] at hr
      cases hv : env.get d <;> simp only [hv] at hr ⊢
      case bool b =>
        cases ht : a.tmps[d]? with
        | none => rw [ht] at hr; cases hr
        | some u =>
          rw [ht] at hr
          cases hr
          by_cases hb : b = want
          · rw [if_pos hb]; simp [yielded, hd, ht, hb]
          · rw [if_neg hb]; simp [yielded, hd, ht, hb]
      case tuple vs =>
        cases vs with
        | nil =>
          cases ht : a.tmps[d]? with
          | none => simp [yielded, hd, ht]
          | some u =>
            rw [ht] at hr
            cases hr
            simp [yielded, hd, ht]
        | cons => trivial

end

end Go.Abs

namespace Go.Abs
open Go.RowKit
set_option linter.unusedVariables false
set_option linter.unusedSimpArgs false

variable {P : Program}

/-- The state of a call. -/
structure St (n base : Nat) (Z : Nat → Prop) (φ : Place) (env : Env) (H : Heap) (a : Act) (w : World) : Prop where
  inv : Inv base Z φ H w
  rel : EnvRel φ (Wr φ H Z) w env a.tmps
  size : n ≤ a.tmps.size
  defers : a.defers = []

def Moves (n base : Nat) (Z : Nat → Prop) (h0 : Nat) (φ : Place) (H : Heap) (w : World) (env' : Env) (H' : Heap) (a' : Act) (w' : World) : Prop :=
  ∃ φ', St n base Z φ' env' H' a' w' ∧ Step base h0 φ (Wr φ H Z) w φ' (Wr φ' H' Z) w' ∧ h0 ≤ H'.length

section
variable {n base h0 : Nat} {Z : Nat → Prop} {φ : Place} {H HF : Heap} {w : World} {env : Env} {a : Act}

theorem Moves.still (S : St n base Z φ env H a w) (hh : h0 ≤ H.length) : Moves n base Z h0 φ H w env H a w := ⟨φ, S, .refl .., hh⟩

theorem Moves.trans {φ1 : Place} {H1 H2 : Heap} {w1 w2 : World} {env2 : Env} {a2 : Act} (h : Step base h0 φ (Wr φ H Z) w φ1 (Wr φ1 H1 Z) w1) (k : Moves n base Z h0 φ1 H1 w1 env2 H2 a2 w2) : Moves n base Z h0 φ H w env2 H2 a2 w2 :=
  let ⟨φ2, s, t, l⟩ := k; ⟨φ2, s, h.trans t, l⟩

/-- One operation. -/
theorem St.turn {φ' : Place} {H' : Heap} {r : V} {v : Value} {w' : World} {d : Option Nat} (S : St n base Z φ env H a w) (hd : ∀ i, d = some i → i < n) (h : EOK base Z φ H w H' r v φ' w') : St n base Z φ' (env.put d r) H' (a.put d v) w' where
  inv := h.inv
  rel := EnvRel.put (S.rel.mono h.step.ext (fun _ => S.inv.lt)) h.rel fun i hi => Nat.lt_of_lt_of_le (hd i hi) S.size
  size := by rw [put_size]; exact S.size
  defers := by rw [put_defers]; exact S.defers

theorem St.skip {d : Option Nat} (S : St n base Z φ env H a w) (hd : ∀ i, d = some i → i < n) : St n base Z φ (env.put d (.tuple [])) H (a.put d undef) w where
  inv := S.inv
  rel := S.rel.put (.tuple [] #[] rfl (by simp)) fun i hi => Nat.lt_of_lt_of_le (hd i hi) S.size
  size := by rw [put_size]; exact S.size
  defers := by rw [put_defers]; exact S.defers

theorem drop_cons {α : Type} {l : List α} {k : Nat} {o : α} {r : List α} (h : l.drop k = o :: r) : l[k]? = some o ∧ l.drop (k + 1) = r ∧ k < l.length := by
  have h1 : k < l.length := by
    rcases Nat.lt_or_ge k l.length with h1 | h1
    · exact h1
    · rw [List.drop_eq_nil_of_le h1] at h; cases h
  rw [List.drop_eq_getElem_cons h1] at h
  cases h
  exact ⟨List.getElem?_eq_getElem h1, rfl, h1⟩

/-- Operations in the order in which they stand. -/
theorem seq_ops {call : CallV} {ops : Array Oper} {Q : Exit → Act → World → Prop} (hcall : ECall P call) (hd : dstsOk n ops = true) : ∀ (l : List Oper) (k : Nat) (env : Env) (H : Heap) (φ : Place) (a : Act) (w : World) (env' : Env) (H' : Heap),
    ops.toList.drop k = l → St n base Z φ env H a w → h0 ≤ H.length → evOps P call ops l env H = some (env', H') →
    (∀ a' w', Moves n base Z h0 φ H w env' H' a' w' → Q .normal a' w') → wpOps P ops Q (List.range' k (ops.size - k)) a w
  | [], k, env, H, φ, a, w, env', H', hl, S, hh, h, hQ => by
    have hk : ops.size - k = 0 := by
      have := congrArg List.length hl
      simpa using this
    rw [hk]
    simp only [evOps] at h
    cases h
    exact hQ a w (.still S hh)
  | o :: r, k, env, H, φ, a, w, env', H', hl, S, hh, h, hQ => by
    obtain ⟨h1, h2, h3⟩ := drop_cons hl
    rw [Array.length_toList] at h3
    rw [Array.getElem?_toList] at h1
    have hk : ops.size - k = (ops.size - (k + 1)) + 1 := by omega
    have ho := Array.all_eq_true_iff_forall_mem.1 hd o (Array.mem_of_getElem? h1)
    have hdo : ∀ i, o.dst = some i → i < n := fun i hi => by simpa [hi] using ho
    rw [hk, List.range'_succ, wpOps_cons]
    unfold wpOp
    simp only [h1]
    have hw := wanted_ok (ops := ops) (o := o) (env := env) (a := a) (φ := φ) (W := Wr φ H Z) (w := w) (fun t _ => S.rel t)
    simp only [evOps] at h
    cases hwv : wantedV ops env o with
    | stuck => rw [hwv] at h; cases h
    | no =>
      rw [hwv] at h hw
      simp only at hw h
      rw [hw]
      simp only [Bool.false_eq_true, if_false]
      exact seq_ops hcall hd r (k + 1) _ H φ _ w env' H' h2 (S.skip hdo) hh h hQ
    | yes =>
      rw [hwv] at h hw
      simp only at hw h
      rw [hw]
      simp only [if_true]
      cases hev : evOp P call env H o with
      | none => rw [hev] at h; cases h
      | some vh =>
        obtain ⟨v, H1⟩ := vh
        rw [hev] at h
        simp only at h
        refine .inl (e_op hcall S.inv (fun x _ => S.rel.eval x) hev _ _ fun cv w1 ht => ?_)
        obtain ⟨φ1, ht⟩ := ht
        exact seq_ops hcall hd r (k + 1) _ H1 φ1 _ w1 env' H' h2 (S.turn hdo ht) (Nat.le_trans hh ht.len) h fun a' w' hm => hQ a' w' (hm.trans (ht.step.mono hh))

end

end Go.Abs

namespace Go.Abs
open Go.RowKit
set_option linter.unusedVariables false
set_option linter.unusedSimpArgs false

variable {P : Program}

theorem QCall.toE {call : CallV} (h : QCall P call) : ECall P call := fun H xf xs r H' hc base Z φ w cf cxs I hf hx => by
  obtain ⟨hle, h⟩ := h _ _ _ _ _ hc
  obtain ⟨f, caps, fn, h1, h2, h3, h4, h5⟩ := h base Z φ H' w cf cxs (I.le hle) (frz_rel I hle hf) ⟨hx.1, fun i x c a b => frz_rel I hle (hx.2 i x c a b)⟩ (.refl _) (unborn_new I)
  exact ⟨f, caps, fn, h1, h2, h3, h4, Calls.mono h5 fun e w' ⟨v, he, hl⟩ => ⟨v, he, leaves_turns I hle hl⟩⟩

/-- The states of a region, operation by operation. -/
def Tr (P : Program) (call : CallV) (ops : Array Oper) (E : Nat → Env) (G : Nat → Heap) : Prop :=
  ∀ k o, ops[k]? = some o → ∃ v, E (k + 1) = (E k).put o.dst v ∧ ((wantedV ops (E k) o = .yes ∧ evOp P call (E k) (G k) o = some (v, G (k + 1))) ∨ (wantedV ops (E k) o = .no ∧ v = .tuple [] ∧ G (k + 1) = G k))

theorem trace {call : CallV} {ops : Array Oper} : ∀ (l : List Oper) (k : Nat) (env : Env) (H : Heap) (env' : Env) (H' : Heap), ops.toList.drop k = l → k ≤ ops.size → evOps P call ops l env H = some (env', H') →
    ∃ (E : Nat → Env) (G : Nat → Heap), E k = env ∧ G k = H ∧ E ops.size = env' ∧ G ops.size = H' ∧ ∀ j o, k ≤ j → ops[j]? = some o → ∃ v, E (j + 1) = (E j).put o.dst v ∧ ((wantedV ops (E j) o = .yes ∧ evOp P call (E j) (G j) o = some (v, G (j + 1))) ∨ (wantedV ops (E j) o = .no ∧ v = .tuple [] ∧ G (j + 1) = G j))
  | [], k, env, H, env', H', hl, hk, h => by
    have hk' : k = ops.size := by
      have := congrArg List.length hl
      simp at this
      omega
    simp only [evOps] at h
    cases h
    exact ⟨fun _ => env, fun _ => H, rfl, rfl, rfl, rfl, fun j o hj ho => by have := (Array.getElem?_eq_some_iff.1 ho).1; omega⟩
  | o :: r, k, env, H, env', H', hl, hk, h => by
    obtain ⟨h1, h2, h3⟩ := drop_cons hl
    rw [Array.length_toList] at h3
    rw [Array.getElem?_toList] at h1
    have key : ∀ v H1, evOps P call ops r (env.put o.dst v) H1 = some (env', H') → ((wantedV ops env o = .yes ∧ evOp P call env H o = some (v, H1)) ∨ (wantedV ops env o = .no ∧ v = .tuple [] ∧ H1 = H)) →
        ∃ (E : Nat → Env) (G : Nat → Heap), E k = env ∧ G k = H ∧ E ops.size = env' ∧ G ops.size = H' ∧ ∀ j o, k ≤ j → ops[j]? = some o → ∃ v, E (j + 1) = (E j).put o.dst v ∧ ((wantedV ops (E j) o = .yes ∧ evOp P call (E j) (G j) o = some (v, G (j + 1))) ∨ (wantedV ops (E j) o = .no ∧ v = .tuple [] ∧ G (j + 1) = G j)) := fun v H1 hr hc => by
      obtain ⟨E, G, e1, e2, e3, e4, e5⟩ := trace r (k + 1) _ _ _ _ h2 (by omega) hr
      refine ⟨fun i => if i = k then env else E i, fun i => if i = k then H else G i, by simp, by simp, by simp only; rw [if_neg (by omega)]; exact e3, by simp only; rw [if_neg (by omega)]; exact e4, fun j o' hj ho' => ?_⟩
      simp only
      by_cases hjk : j = k
      · subst hjk
        rw [h1] at ho'
        cases ho'
        refine ⟨v, by simp [e1], ?_⟩
        simp only [if_pos, if_neg (show ¬ j + 1 = j by omega), e2]
        exact hc
      · obtain ⟨u, p1, p2⟩ := e5 j o' (by omega) ho'
        refine ⟨u, ?_, ?_⟩
        · rw [if_neg (by omega), if_neg hjk]; exact p1
        · rw [if_neg hjk, if_neg hjk, if_neg (by omega)]; exact p2
    simp only [evOps] at h
    cases hwv : wantedV ops env o with
    | stuck => rw [hwv] at h; cases h
    | no => rw [hwv] at h; exact key _ _ h (.inr ⟨hwv, rfl, rfl⟩)
    | yes =>
      rw [hwv] at h
      simp only at h
      cases hev : evOp P call env H o with
      | none => rw [hev] at h; cases h
      | some vh =>
        rw [hev] at h
        exact key vh.1 vh.2 h (.inl ⟨hwv, hev⟩)

/-- A set of operations that holds, with each, those that must be done before it. -/
def Closed (ops : Array Oper) (L : Nat → Prop) : Prop := ∀ j o, ops[j]? = some o → L j → ∀ e ∈ edges o, L e

theorem mem_union {a b : List Nat} {i : Nat} (h : i ∈ union a b) : i ∈ a ∨ i ∈ b := by
  simp only [union, List.mem_append, List.mem_filter] at h
  exact h.imp (·.1) id

theorem mem_joinA {acc : List (List Nat)} : ∀ {es : List Nat} {i : Nat}, i ∈ joinA acc es → ∃ e ∈ es, i = e ∨ ∃ m, acc[e]? = some m ∧ i ∈ m
  | e :: es, i, h => by
    rcases mem_union h with h | h
    · rcases mem_union h with h | h
      · exact ⟨e, by simp, .inl (by simpa using h)⟩
      · cases hm : acc[e]? with
        | none => simp [hm] at h
        | some m => exact ⟨e, by simp, .inr ⟨m, hm, by simpa [hm] using h⟩⟩
    · obtain ⟨e', h1, h2⟩ := mem_joinA h
      exact ⟨e', by simp [h1], h2⟩

def AncOk (ops : Array Oper) (A : List (List Nat)) : Prop :=
  ∀ (j : Nat) (m : List Nat), A[j]? = some m → ∃ o, ops[j]? = some o ∧ ∀ i ∈ m, ∃ e ∈ edges o, i = e ∨ (e < j ∧ ∃ m', A[e]? = some m' ∧ i ∈ m')

theorem ancs_ok {ops : Array Oper} : ∀ (l : List Oper) (acc : List (List Nat)), ops.toList.drop acc.length = l → AncOk ops acc → AncOk ops (ancs l acc) ∧ (ancs l acc).length = acc.length + l.length
  | [], acc, _, h => ⟨h, rfl⟩
  | o :: r, acc, hl, h => by
    obtain ⟨h1, h2, h3⟩ := drop_cons hl
    rw [Array.getElem?_toList] at h1
    simp only [ancs]
    have := ancs_ok r (acc ++ [joinA acc (edges o)]) (by rw [List.length_append]; exact h2) (fun j m hm => by
      rcases Nat.lt_or_ge j acc.length with hj | hj
      · rw [List.getElem?_append_left hj] at hm
        obtain ⟨o', p1, p2⟩ := h j m hm
        refine ⟨o', p1, fun i hi => ?_⟩
        obtain ⟨e, q1, q2⟩ := p2 i hi
        refine ⟨e, q1, q2.imp id fun ⟨hlt, m', q3, q4⟩ => ⟨hlt, m', ?_, q4⟩⟩
        rw [List.getElem?_append_left (List.getElem?_eq_some_iff.1 q3).1]
        exact q3
      · rw [List.getElem?_append_right hj] at hm
        have hj' : j = acc.length := by
          have := (List.getElem?_eq_some_iff.1 hm).1
          simp at this
          omega
        subst hj'
        simp at hm
        subst hm
        refine ⟨o, h1, fun i hi => ?_⟩
        obtain ⟨e, q1, q2⟩ := mem_joinA hi
        refine ⟨e, q1, q2.imp id fun ⟨m', q3, q4⟩ => ⟨(List.getElem?_eq_some_iff.1 q3).1, m', ?_, q4⟩⟩
        rw [List.getElem?_append_left (List.getElem?_eq_some_iff.1 q3).1]
        exact q3)
    refine ⟨this.1, ?_⟩
    rw [this.2]
    simp
    omega

theorem anc_in {ops : Array Oper} {A : List (List Nat)} {L : Nat → Prop} (hA : AncOk ops A) (hc : Closed ops L) : ∀ (j : Nat) (m : List Nat) (o : Oper), A[j]? = some m → ops[j]? = some o → (∀ e ∈ edges o, L e) → ∀ i ∈ m, L i := fun j => by
  induction j using Nat.strongRecOn with
  | _ j ih =>
    intro m o hm ho he i hi
    obtain ⟨o', h1, h2⟩ := hA j m hm
    rw [ho] at h1
    cases h1
    obtain ⟨e, q1, q2⟩ := h2 i hi
    rcases q2 with rfl | ⟨hlt, m', q3, q4⟩
    · exact he _ q1
    · obtain ⟨oe, r1, _⟩ := hA e m' q3
      exact ih e hlt m' oe q3 r1 (hc e oe r1 (he e q1)) i q4

/-- What the check of a region gives. -/
structure DOk (P : Program) (ops : Array Oper) (A : List (List Nat)) : Prop where
  anc : AncOk ops A
  back : ∀ (j : Nat) (o : Oper), ops[j]? = some o → ∀ e ∈ edges o, e < j
  uniq : ∀ (i j : Nat) (x y : Oper) (d : Nat), i < j → ops[i]? = some x → ops[j]? = some y → x.dst = some d → y.dst ≠ some d
  ord : ∀ (i j : Nat) (x y : Oper), i < j → ops[i]? = some x → ops[j]? = some y → confl P ops x y = true → ∃ m, A[j]? = some m ∧ i ∈ m

theorem dOk_spec {ops : Array Oper} (h : dOk P ops = true) : DOk P ops (ancs ops.toList []) := by
  obtain ⟨h1, h2⟩ := ancs_ok (ops := ops) ops.toList [] (by simp) (fun j m hm => by simp at hm)
  have hl : (ancs ops.toList []).length = ops.size := by simpa using h2
  unfold dOk at h
  rw [List.all_eq_true] at h
  have key : ∀ j y, ops[j]? = some y → ∃ an, (ancs ops.toList [])[j]? = some an ∧ (∀ e ∈ edges y, e < j) ∧ ∀ i x, ops[i]? = some x → i < j → (x.dst = none ∨ x.dst ≠ y.dst) ∧ (confl P ops x y = true → i ∈ an) := fun j y hy => by
    have hj := (Array.getElem?_eq_some_iff.1 hy).1
    have ha : (ancs ops.toList [])[j]? = some ((ancs ops.toList [])[j]'(by omega)) := List.getElem?_eq_getElem _
    have hm := h ((y, j), (ancs ops.toList [])[j]'(by omega)) (List.mem_of_getElem? (i := j) (by
      rw [List.getElem?_zip_eq_some]
      exact ⟨by simp [List.getElem?_zipIdx, hy], ha⟩))
    simp only [Bool.and_eq_true, List.all_eq_true] at hm
    refine ⟨_, ha, fun e he => by simpa using hm.1 e he, fun i x hx hij => ?_⟩
    have hx' := hm.2 (x, i) (List.mem_of_getElem? (i := i) (by simp [List.getElem?_zipIdx, hx]))
    simp only [hij, decide_true, Bool.not_true, Bool.false_or, Bool.and_eq_true, Bool.or_eq_true, List.contains_iff_mem] at hx'
    refine ⟨?_, fun hcf => ?_⟩
    · rcases hx'.1 with h | h
      · left; simpa using h
      · right; simpa using h
    · rcases hx'.2 with h | h
      · rw [hcf] at h; cases h
      · exact h
  refine ⟨h1, fun j o ho => ?_, fun i j x y d hij hx hy hd hd' => ?_, fun i j x y hij hx hy hc => ?_⟩
  · obtain ⟨_, _, h3, _⟩ := key j o ho
    exact h3
  · obtain ⟨_, _, _, h4⟩ := key j y hy
    rcases (h4 i x hx hij).1 with h | h
    · rw [hd] at h; cases h
    · exact h (hd.trans hd'.symm)
  · obtain ⟨an, h2, _, h4⟩ := key j y hy
    exact ⟨an, h2, (h4 i x hx hij).2 hc⟩

end Go.Abs

namespace Go.Abs
open Go.RowKit
set_option linter.unusedVariables false
set_option linter.unusedSimpArgs false

variable {P : Program}

/-- The next operation that writes. -/
theorem nextLoud (ops : Array Oper) : ∀ (n k : Nat), ops.size - k = n → k ≤ ops.size → ∃ p, k ≤ p ∧ p ≤ ops.size ∧ (∀ j o, k ≤ j → j < p → ops[j]? = some o → cls P o ≠ 2) ∧ (∀ o, ops[p]? = some o → cls P o = 2)
  | 0, k, hn, hk => ⟨k, Nat.le_refl _, hk, fun j o h1 h2 => by omega, fun o ho => by have := (Array.getElem?_eq_some_iff.1 ho).1; omega⟩
  | n + 1, k, hn, hk => by
    have hlt : k < ops.size := by omega
    by_cases hc : cls P ops[k] = 2
    · exact ⟨k, Nat.le_refl _, hk, fun j o h1 h2 => by omega, fun o ho => by rw [Array.getElem?_eq_getElem hlt] at ho; cases ho; exact hc⟩
    · obtain ⟨p, h1, h2, h3, h4⟩ := nextLoud ops n (k + 1) (by omega) (by omega)
      refine ⟨p, by omega, h2, fun j o hj1 hj2 ho => ?_, h4⟩
      by_cases hj : j = k
      · subst hj
        rw [Array.getElem?_eq_getElem hlt] at ho
        cases ho
        exact hc
      · exact h3 j o (by omega) hj2 ho

section
variable {call : CallV} {ops : Array Oper} {E : Nat → Env} {G : Nat → Heap} {A : List (List Nat)}

theorem Tr.le (hcall : QCall P call) (T : Tr P call ops E G) {k : Nat} {o : Oper} (ho : ops[k]? = some o) (hq : cls P o ≠ 2) : Le (G k) (G (k + 1)) := by
  obtain ⟨v, _, ⟨_, h⟩ | ⟨_, _, h⟩⟩ := T k o ho
  · exact evOp_le hcall hq h
  · rw [h]; exact .refl _

theorem Tr.leTo (hcall : QCall P call) (T : Tr P call ops E G) : ∀ (n k : Nat), k + n ≤ ops.size → (∀ j o, k ≤ j → j < k + n → ops[j]? = some o → cls P o ≠ 2) → Le (G k) (G (k + n))
  | 0, k, _, _ => .refl _
  | n + 1, k, hn, h => by
    have h1 := Tr.leTo hcall T n k (by omega) (fun j o a b => h j o a (by omega))
    have hlt : k + n < ops.size := by omega
    exact h1.trans (T.le hcall (Array.getElem?_eq_getElem hlt) (h (k + n) _ (by omega) (by omega) (Array.getElem?_eq_getElem hlt)))

theorem Tr.leTo' (hcall : QCall P call) (T : Tr P call ops E G) {k m : Nat} (hkm : k ≤ m) (hm : m ≤ ops.size) (h : ∀ j o, k ≤ j → j < m → ops[j]? = some o → cls P o ≠ 2) : Le (G k) (G m) := by
  obtain ⟨d, rfl⟩ := Nat.exists_eq_add_of_le hkm
  exact T.leTo hcall d k hm h

theorem Env.get_put {e : Env} {d : Option Nat} {v : V} {t : Nat} (h : d ≠ some t) : (e.put d v).get t = e.get t := by
  cases d with
  | none => rfl
  | some i =>
    simp only [Env.put, Env.get]
    rw [if_neg (fun hh => h (by rw [hh]))]

theorem Env.get_put_same {e : Env} {d : Nat} {v : V} : (e.put (some d) v).get d = v := by simp [Env.put, Env.get]

theorem Tr.get (T : Tr P call ops E G) {t : Nat} : ∀ (n k : Nat), k + n ≤ ops.size → (∀ j o, k ≤ j → j < k + n → ops[j]? = some o → o.dst ≠ some t) → (E (k + n)).get t = (E k).get t
  | 0, k, _, _ => rfl
  | n + 1, k, hn, h => by
    have h1 := Tr.get T n k (by omega) (fun j o a b => h j o a (by omega))
    have hlt : k + n < ops.size := by omega
    obtain ⟨v, hv, _⟩ := T (k + n) _ (Array.getElem?_eq_getElem hlt)
    rw [← Nat.add_assoc, hv, Env.get_put (h (k + n) _ (by omega) (by omega) (Array.getElem?_eq_getElem hlt)), h1]

theorem Tr.get' (T : Tr P call ops E G) {t k m : Nat} (hkm : k ≤ m) (hm : m ≤ ops.size) (h : ∀ j o, k ≤ j → j < m → ops[j]? = some o → o.dst ≠ some t) : (E m).get t = (E k).get t := by
  obtain ⟨d, rfl⟩ := Nat.exists_eq_add_of_le hkm
  exact T.get d k hm h

variable {n base h0 : Nat} {Z : Nat → Prop} {φ0 : Place} {W0 : Nat → Prop} {w0 : World}

/-- Some of the operations done, in whatever order; p is the next that writes. -/
structure DS (P : Program) (ops : Array Oper) (E : Nat → Env) (G : Nat → Heap) (n base h0 : Nat) (Z : Nat → Prop) (φ0 : Place) (W0 : Nat → Prop) (w0 : World) (L : Nat → Prop) (p : Nat) (φ : Place) (a : Act) (w : World) : Prop where
  closed : Closed ops L
  pl : p ≤ ops.size
  lo : ∀ (j : Nat) (o : Oper), j < p → ops[j]? = some o → cls P o = 2 → L j
  hi : ∀ (j : Nat) (o : Oper), p ≤ j → ops[j]? = some o → cls P o = 2 → ¬ L j
  at_p : ∀ (o : Oper), ops[p]? = some o → cls P o = 2
  inv : Inv base Z φ (G p) w
  r1 : ∀ (t : Nat), (∀ (j : Nat) (o : Oper), ops[j]? = some o → o.dst = some t → ¬ L j) → VRel φ (Wr φ (G p) Z) w ((E 0).get t) (a.tmps.getD t undef)
  r2 : ∀ (t j : Nat) (o : Oper), ops[j]? = some o → o.dst = some t → L j → VRel φ (Wr φ (G p) Z) w ((E ops.size).get t) (a.tmps.getD t undef)
  unb : ∀ (j : Nat) (o : Oper), ops[j]? = some o → ¬ L j → ∀ b, (G j).length ≤ b → b < (G (j + 1)).length → φ b = .unborn
  size : n ≤ a.tmps.size
  defers : a.defers = []
  step : Step base h0 φ0 W0 w0 φ (Wr φ (G p) Z) w
  len : h0 ≤ (G p).length

end

section
variable {call : CallV} {ops : Array Oper} {E : Nat → Env} {G : Nat → Heap} {A : List (List Nat)} {n base h0 : Nat} {Z : Nat → Prop} {φ0 : Place} {W0 : Nat → Prop} {w0 : World} {L : Nat → Prop} {p : Nat} {φ : Place} {a : Act} {w : World}

theorem DOk.uniq' (D : DOk P ops A) {i j : Nat} {x y : Oper} {d : Nat} (hx : ops[i]? = some x) (hy : ops[j]? = some y) (h1 : x.dst = some d) (h2 : y.dst = some d) : i = j := by
  rcases Nat.lt_trichotomy i j with h | h | h
  · exact absurd h2 (D.uniq i j x y d h hx hy h1)
  · exact h
  · exact absurd h1 (D.uniq j i y x d h hy hx h2)

/-- What an operation reads that is ready. -/
theorem DS.reads (D : DOk P ops A) (T : Tr P call ops E G) (S : DS P ops E G n base h0 Z φ0 W0 w0 L p φ a w) {i : Nat} {o : Oper} (ho : ops[i]? = some o) (hi : ¬ L i) (he : ∀ e ∈ edges o, L e) (t : Nat) (ht : t ∈ o.looksAt ops) :
    VRel φ (Wr φ (G p) Z) w ((E i).get t) (a.tmps.getD t undef) := by
  have hlt := (Array.getElem?_eq_some_iff.1 ho).1
  by_cases hw : ∃ (j : Nat) (oj : Oper), ops[j]? = some oj ∧ oj.dst = some t
  · obtain ⟨j, oj, hj, hd⟩ := hw
    have hjl := (Array.getElem?_eq_some_iff.1 hj).1
    rcases Nat.lt_trichotomy j i with h | h | h
    · obtain ⟨m, hm, hjm⟩ := D.ord j i oj o h hj ho (by simp [confl, hd, ht])
      have hLj := anc_in D.anc S.closed i m o hm ho he j hjm
      have hg : (E ops.size).get t = (E i).get t := T.get' (Nat.le_of_lt hlt) (Nat.le_refl _) fun k ok h1 h2 hk hdk => by
        have := D.uniq' hk hj hdk hd
        omega
      rw [← hg]
      exact S.r2 t j oj hj hd hLj
    · subst h
      have hg : (E j).get t = (E 0).get t := T.get' (Nat.zero_le _) (Nat.le_of_lt hlt) fun k ok h1 h2 hk hdk => by
        have := D.uniq' hk hj hdk hd
        omega
      rw [hg]
      exact S.r1 t fun k ok hk hdk => by
        have := D.uniq' hk hj hdk hd
        subst this
        exact hi
    · obtain ⟨m, hm, hjm⟩ := D.ord i j o oj h ho hj (by simp [confl, hd, ht])
      have hg : (E i).get t = (E 0).get t := T.get' (Nat.zero_le _) (Nat.le_of_lt hlt) fun k ok h1 h2 hk hdk => by
        have := D.uniq' hk hj hdk hd
        omega
      rw [hg]
      refine S.r1 t fun k ok hk hdk hL => ?_
      have := D.uniq' hk hj hdk hd
      subst this
      exact hi (anc_in D.anc S.closed k m oj hm hj (S.closed k oj hj hL) i hjm)
  · have hg : (E i).get t = (E 0).get t := T.get' (Nat.zero_le _) (Nat.le_of_lt hlt) fun k ok h1 h2 hk hdk => hw ⟨k, ok, hk, hdk⟩
    rw [hg]
    exact S.r1 t fun k ok hk hdk => absurd ⟨k, ok, hk, hdk⟩ hw

theorem DS.evals (D : DOk P ops A) (T : Tr P call ops E G) (S : DS P ops E G n base h0 Z φ0 W0 w0 L p φ a w) {i : Nat} {o : Oper} (ho : ops[i]? = some o) (hi : ¬ L i) (he : ∀ e ∈ edges o, L e) (x : Operand) (hx : x ∈ o.op.operands) :
    VRel φ (Wr φ (G p) Z) w (evO (E i) x) (a.eval x) :=
  evO_ok x fun t ht => S.reads D T ho hi he t (by
    subst ht
    exact List.mem_append_left _ (List.mem_filterMap.2 ⟨.tmp t, by simpa using hx, rfl⟩))

theorem confl_loud {x y : Oper} (hx : cls P x = 2) (hy : cls P y ≠ 0) : confl P ops x y = true := by simp [confl, hx, hy]
theorem confl_loud' {x y : Oper} (hx : cls P y = 2) (hy : cls P x ≠ 0) : confl P ops x y = true := by simp [confl, hx, hy]

/-- One operation more, whatever it is: what is left to show. -/
theorem DS.more (hcall : QCall P call) (D : DOk P ops A) (T : Tr P call ops E G) (S : DS P ops E G n base h0 Z φ0 W0 w0 L p φ a w) {i : Nat} {o : Oper} (ho : ops[i]? = some o) (hi : ¬ L i) (he : ∀ e ∈ edges o, L e)
    (hd : ∀ d, o.dst = some d → d < n) {v : V} {cv : Value} {φ' : Place} {w' : World} {q p' : Nat} (hE : E (i + 1) = (E i).put o.dst v)
    (hq : q ≤ p') (hp' : p' ≤ ops.size) (hquiet : ∀ j o, q ≤ j → j < p' → ops[j]? = some o → cls P o ≠ 2) (hat : ∀ o, ops[p']? = some o → cls P o = 2)
    (hlo : ∀ (j : Nat) (x : Oper), j < p' → ops[j]? = some x → cls P x = 2 → L j ∨ j = i) (hhi : ∀ (j : Nat) (x : Oper), p' ≤ j → ops[j]? = some x → cls P x = 2 → ¬ L j ∧ j ≠ i)
    (I' : Inv base Z φ' (G q) w') (hst : Step base (G p).length φ (Wr φ (G p) Z) w φ' (Wr φ' (G q) Z) w') (hv : VRel φ' (Wr φ' (G q) Z) w' v cv) (hlen : (G p).length ≤ (G q).length)
    (hunb : ∀ (j : Nat) (x : Oper), ops[j]? = some x → ¬ L j → j ≠ i → ∀ b, (G j).length ≤ b → b < (G (j + 1)).length → φ' b = .unborn) :
    DS P ops E G n base h0 Z φ0 W0 w0 (fun k => L k ∨ k = i) p' φ' (a.put o.dst cv) w' := by
  have hlt := (Array.getElem?_eq_some_iff.1 ho).1
  have hle : Le (G q) (G p') := T.leTo' hcall hq hp' hquiet
  have frz : ∀ {x : V} {c : Value}, VRel φ' (Wr φ' (G q) Z) w' x c → VRel φ' (Wr φ' (G p') Z) w' x c := fun h => frz_rel I' hle h
  have mv : ∀ {x : V} {c : Value}, VRel φ (Wr φ (G p) Z) w x c → VRel φ' (Wr φ' (G p') Z) w' x c := fun h => frz (h.mono hst.ext (fun _ => S.inv.lt))
  have other : ∀ t, o.dst ≠ some t → (a.put o.dst cv).tmps.getD t undef = a.tmps.getD t undef := fun t ht => by
    cases hod : o.dst with
    | none => rfl
    | some d =>
      have : d ≠ t := fun e => ht (by rw [hod, e])
      simp [Act.put, Array.getElem?_setIfInBounds_ne this]
  have same : ∀ t, o.dst = some t → (a.put o.dst cv).tmps.getD t undef = cv := fun t ht => by
    have := Nat.lt_of_lt_of_le (hd t ht) S.size
    simp [Act.put, ht, this]
  have fin : ∀ t, o.dst = some t → (E ops.size).get t = v := fun t ht => by
    have hg : (E ops.size).get t = (E (i + 1)).get t := T.get' (by omega) (Nat.le_refl _) fun k ok h1 h2 hk hdk => by
      have := D.uniq' hk ho hdk ht
      omega
    rw [hg, hE, ht, Env.get_put_same]
  refine ⟨fun j oj hj hL e hme => ?_, hp', hlo, fun j x hj hx hc hL => ?_, hat, I'.le hle, fun t hn => ?_, fun t j oj hj hdj hL => ?_, fun j x hj hL b => hunb j x hj (fun h => hL (.inl h)) (fun h => hL (.inr h)) b, ?_, ?_, ?_, ?_⟩
  · rcases hL with hL | rfl
    · exact .inl (S.closed j oj hj hL e hme)
    · rw [ho] at hj
      cases hj
      exact .inl (he e hme)
  · have := hhi j x hj hx hc
    exact hL.elim this.1 this.2
  · have hot : o.dst ≠ some t := fun h => hn i o ho h (.inr rfl)
    rw [other t hot]
    exact mv (S.r1 t fun j oj hj hdj hL => hn j oj hj hdj (.inl hL))
  · rcases hL with hL | rfl
    · have hot : o.dst ≠ some t := fun h => by
        have := D.uniq' hj ho hdj h
        subst this
        exact hi hL
      rw [other t hot]
      exact mv (S.r2 t j oj hj hdj hL)
    · rw [ho] at hj
      cases hj
      rw [same t hdj, fin t hdj]
      exact frz hv
  · rw [put_size]; exact S.size
  · rw [put_defers]; exact S.defers
  · exact (S.step.trans (hst.mono S.len)).trans (Step.frz (wr_le hle fun b => I'.lt))
  · exact Nat.le_trans S.len (Nat.le_trans hlen hle.1)

end

end Go.Abs

namespace Go.Abs
open Go.RowKit
set_option linter.unusedVariables false
set_option linter.unusedSimpArgs false

variable {P : Program}

theorem evOp_same {o : Oper} {env : Env} {H H' : Heap} {r : V} {call : CallV} (hq : cls P o = 0) (h : evOp P call env H o = some (r, H')) : H' = H := by
  obtain ⟨dst, op, type, pos, after, guard⟩ := o
  cases op <;> try (simp [cls] at hq; done)
  case move x => simp only [evOp] at h; cases h; rfl
  case pick c a b => simp only [evOp] at h; split at h <;> first | (cases h; rfl) | cases h
  case build => simp only [evOp, Option.map_eq_some_iff] at h; obtain ⟨z, _, h⟩ := h; cases h; rfl
  case binOp => simp only [evOp, Option.map_eq_some_iff] at h; obtain ⟨z, _, h⟩ := h; cases h; rfl
  case unOp => simp only [evOp, Option.map_eq_some_iff] at h; obtain ⟨z, _, h⟩ := h; cases h; rfl
  case convert s d x => simp only [evOp] at h; exact (conv_int (by simpa [cls] using hq) h).1
  case makeFunc f first caps =>
    cases f <;> simp only [evOp] at h <;> try (cases h; done)
    split at h <;> first | (cases h; rfl) | cases h
  case field =>
    simp only [evOp] at h
    split at h
    · simp only [Option.map_eq_some_iff] at h; obtain ⟨z, _, h⟩ := h; cases h; rfl
    · cases h
  case index => simp only [evOp, Option.map_eq_some_iff] at h; obtain ⟨z, _, h⟩ := h; cases h; rfl
  case extract =>
    simp only [evOp] at h
    split at h
    · simp only [Option.map_eq_some_iff] at h; obtain ⟨z, _, h⟩ := h; cases h; rfl
    · cases h
  case call c =>
    obtain ⟨callee, args, ats⟩ := c
    cases callee <;> try (simp [cls] at hq; done)
    rename_i b
    cases b <;> try (simp [cls] at hq; done)
    all_goals
      simp only [evOp] at h
      unfold builtinV at h
      split at h <;> first
        | (cases h; done)
        | contradiction
        | (split at h <;> first | (cases h; rfl) | cases h)

theorem evOp_len {o : Oper} {env : Env} {H H' : Heap} {r : V} {call : CallV} (hc : QCall P call) (h : evOp P call env H o = some (r, H')) : H.length ≤ H'.length := by
  by_cases hq : cls P o = 2
  case neg => exact (evOp_le hc hq h).1
  obtain ⟨dst, op, type, pos, after, guard⟩ := o
  cases op <;> try (simp [cls] at hq; done)
  case convert s d x => simp only [cls] at hq; split at hq <;> cases hq
  case store t x y =>
    simp only [evOp, Option.map_eq_some_iff] at h
    obtain ⟨z, hz, h⟩ := h
    cases h
    unfold storeV at hz
    repeat' split at hz
    all_goals first
      | (cases hz; done)
      | (simp only [Option.map_eq_some_iff] at hz; obtain ⟨y, _, hz⟩ := hz; rw [← hz]; simp [freeze_length])
  case mapUpdate t m k x =>
    simp only [evOp, Option.map_eq_some_iff] at h
    obtain ⟨z, hz, h⟩ := h
    cases h
    unfold mapUpdateV at hz
    repeat' split at hz
    all_goals first
      | (cases hz; done)
      | (cases hz; simp [freeze_length])
  case call c =>
    obtain ⟨callee, args, ats⟩ := c
    cases callee <;> try (simp [cls] at hq; done)
    rename_i b
    cases b <;> try (simp [cls] at hq; done)
    all_goals
      simp only [evOp] at h
      unfold builtinV at h
      split at h <;> first
        | (cases h; done)
        | contradiction
        | skip
    · split at h
      · split at h
        · cases h
        · unfold appendV at h
          repeat' split at h
          all_goals first
            | (cases h; done)
            | (cases h; simp)
      · cases h
    · split at h
      · unfold copyV at h
        repeat' split at h
        all_goals first
          | (cases h; done)
          | (cases h; simp)
      · cases h

theorem filter_le {p q : Nat → Bool} : ∀ (l : List Nat), (∀ x, q x = true → p x = true) → (l.filter q).length ≤ (l.filter p).length
  | [], _ => by simp
  | x :: l, h => by
    have := filter_le l h
    simp only [List.filter_cons]
    cases hq : q x with
    | true => simp [h x hq]; exact this
    | false => cases p x <;> simp <;> omega

theorem filter_lt {p q : Nat → Bool} : ∀ (l : List Nat), (∀ x, q x = true → p x = true) → ∀ i ∈ l, p i = true → q i = false → (l.filter q).length < (l.filter p).length
  | x :: l, h, i, hi, hp, hq => by
    simp only [List.filter_cons]
    rcases List.mem_cons.1 hi with rfl | hi
    · have := filter_le l h
      simp [hp, hq]
      omega
    · have := filter_lt l h i hi hp hq
      cases hq' : q x with
      | true => simp [h x hq']; exact this
      | false => cases p x <;> simp <;> omega

section
variable {call : CallV} {ops : Array Oper} {E : Nat → Env} {G : Nat → Heap} {A : List (List Nat)} {n base h0 : Nat} {Z : Nat → Prop} {φ0 : Place} {W0 : Nat → Prop} {w0 : World} {p : Nat} {φ : Place} {a : Act} {w : World}

theorem Tr.len (hcall : QCall P call) (T : Tr P call ops E G) {k m : Nat} (hkm : k ≤ m) (hm : m ≤ ops.size) : (G k).length ≤ (G m).length := by
  induction hkm with
  | refl => exact Nat.le_refl _
  | @step m hkm ih =>
    refine Nat.le_trans (ih (by omega)) ?_
    have hlt : m < ops.size := by omega
    obtain ⟨v, _, ⟨_, h⟩ | ⟨_, _, h⟩⟩ := T m _ (Array.getElem?_eq_getElem hlt)
    · exact evOp_len hcall h
    · rw [h]; exact Nat.le_refl _

/-- How much is left to do. -/
def left (ops : Array Oper) (listed : Array Bool) : Nat := ((List.range ops.size).filter fun k => !listed.getD k false).length

theorem any_ops {Q : Exit → Act → World → Prop} (hcall : QCall P call) (D : DOk P ops A) (T : Tr P call ops E G) (hds : dstsOk n ops = true) (hl0 : φ0 = φ0)
    (hQ : ∀ φ a' w', St n base Z φ (E ops.size) (G ops.size) a' w' → Step base h0 φ0 W0 w0 φ (Wr φ (G ops.size) Z) w' → h0 ≤ (G ops.size).length → Q .normal a' w') :
    ∀ (fuel : Nat) (listed : Array Bool) (a : Act) (w : World) (p : Nat) (φ : Place), listed.size = ops.size → left ops listed ≤ fuel → DS P ops E G n base h0 Z φ0 W0 w0 (fun i => listed.getD i false = true) p φ a w → wpAny P .any ops Q fuel listed a w := by
  have done : ∀ (listed : Array Bool) (a : Act) (w : World) (p : Nat) (φ : Place), listed.size = ops.size → DS P ops E G n base h0 Z φ0 W0 w0 (fun i => listed.getD i false = true) p φ a w → Region.ready .any ops listed = [] → Q .normal a w := fun listed a w p φ hs S hr => by
    have all : ∀ j, j < ops.size → listed.getD j false = true := fun j => by
      induction j using Nat.strongRecOn with
      | _ j ih =>
        intro hj
        cases hb : listed.getD j false with
        | true => rfl
        | false =>
          have ho : ops[j]? = some ops[j] := Array.getElem?_eq_getElem hj
          have : j ∈ Region.ready .any ops listed := mem_ready.2 ⟨by
              simp [hs, hj] at hb ⊢
              exact hb, _, ho, fun e he hbi => by
              have hlt := D.back j _ ho e.on (List.mem_map.2 ⟨e, List.mem_filter.2 ⟨by simpa using he, hbi⟩, rfl⟩)
              exact ih _ hlt (by omega)⟩
          rw [hr] at this
          cases this
    have hp : p = ops.size := by
      rcases Nat.lt_or_ge p ops.size with h | h
      · exact absurd (all p h) (S.hi p _ (Nat.le_refl _) (Array.getElem?_eq_getElem h) (S.at_p _ (Array.getElem?_eq_getElem h)))
      · have := S.pl; omega
    subst hp
    refine hQ φ a w ⟨S.inv, fun t => ?_, S.size, S.defers⟩ S.step S.len
    by_cases hw : ∃ (j : Nat) (oj : Oper), ops[j]? = some oj ∧ oj.dst = some t
    · obtain ⟨j, oj, hj, hd⟩ := hw
      exact S.r2 t j oj hj hd (all j (Array.getElem?_eq_some_iff.1 hj).1)
    · rw [T.get' (t := t) (Nat.zero_le _) (Nat.le_refl _) fun k ok h1 h2 hk hdk => hw ⟨k, ok, hk, hdk⟩]
      exact S.r1 t fun k ok hk hdk => absurd ⟨k, ok, hk, hdk⟩ hw
  intro fuel
  induction fuel with
  | zero =>
    intro listed a w p φ hs hf S
    have hr : Region.ready .any ops listed = [] := by
      cases hr : Region.ready .any ops listed with
      | nil => rfl
      | cons i r =>
        have hi : i ∈ Region.ready .any ops listed := by rw [hr]; simp
        obtain ⟨h1, o, ho, _⟩ := mem_ready.1 hi
        have hlt := (Array.getElem?_eq_some_iff.1 ho).1
        have : i ∈ (List.range ops.size).filter fun k => !listed.getD k false := List.mem_filter.2 ⟨List.mem_range.2 hlt, by
          simp [hs, hlt] at h1 ⊢
          exact h1⟩
        have := List.length_pos_of_mem this
        unfold left at hf
        omega
    exact ⟨hr, done listed a w p φ hs S hr⟩
  | succ fuel ih =>
    intro listed a w p φ hs hf S
    refine ⟨done listed a w p φ hs S, fun i hi => ?_⟩
    obtain ⟨h1, o, ho, he⟩ := mem_ready.1 hi
    have hlt := (Array.getElem?_eq_some_iff.1 ho).1
    have hli : listed.getD i false = false := by simp [hs, hlt] at h1 ⊢; exact h1
    have hLi : ¬ listed.getD i false = true := by rw [hli]; simp
    have hedge : ∀ e ∈ edges o, listed.getD e false = true := fun e hee => by
      obtain ⟨e', h2, rfl⟩ := List.mem_map.1 hee
      obtain ⟨h3, h4⟩ := List.mem_filter.1 h2
      exact he e' (by simpa using h3) h4
    have hd : ∀ d, o.dst = some d → d < n := fun d hdd => by
      have := Array.all_eq_true_iff_forall_mem.1 hds o (Array.mem_of_getElem? ho)
      simpa [hdd] using this
    have hset : (fun k => (listed.setIfInBounds i true).getD k false = true) = (fun k => listed.getD k false = true ∨ k = i) := by
      funext k
      apply propext
      by_cases hk : k = i
      · subst hk; simp [hs, hlt]
      · rw [getD_set_ne false (Ne.symm hk)]; simp [hk]
    have hleft : left ops (listed.setIfInBounds i true) ≤ fuel := by
      have : left ops (listed.setIfInBounds i true) < left ops listed := filter_lt _ (fun x hx => by
        by_cases hk : x = i
        · subst hk; simp [hs, hlt] at hx
        · rw [getD_set_ne false (Ne.symm hk)] at hx; exact hx) i (List.mem_range.2 hlt) (by simpa using hli) (by simp [hs, hlt])
      omega
    have next : ∀ (p' : Nat) (φ' : Place) (cv : Value) (w' : World), DS P ops E G n base h0 Z φ0 W0 w0 (fun k => listed.getD k false = true ∨ k = i) p' φ' (a.put o.dst cv) w' →
        wpAny P .any ops Q fuel (listed.setIfInBounds i true) (a.put o.dst cv) w' := fun p' φ' cv w' S' =>
      ih _ _ _ p' φ' (by simp [hs]) hleft (by rw [hset]; exact S')
    -- where a writing operation stands
    have loudp : cls P o = 2 → i = p := fun hc => by
      rcases Nat.lt_trichotomy i p with h | h | h
      · exact absurd (S.lo i o h ho hc) hLi
      · exact h
      · have hpl : p < ops.size := by omega
        have hop := Array.getElem?_eq_getElem hpl
        have hcp := S.at_p _ hop
        obtain ⟨m, hm, hpm⟩ := D.ord p i _ o h hop ho (confl_loud hcp (by rw [hc]; decide))
        exact absurd (anc_in D.anc S.closed i m o hm ho hedge p hpm) (S.hi p _ (Nat.le_refl _) hop hcp)
    have plainp : cls P o ≠ 2 → cls P o ≠ 0 → i < p := fun hc h0 => by
      rcases Nat.lt_trichotomy i p with h | h | h
      · exact h
      · subst h; exact absurd (S.at_p o ho) hc
      · have hpl : p < ops.size := by omega
        have hop := Array.getElem?_eq_getElem hpl
        have hcp := S.at_p _ hop
        obtain ⟨m, hm, hpm⟩ := D.ord p i _ o h hop ho (confl_loud hcp h0)
        exact absurd (anc_in D.anc S.closed i m o hm ho hedge p hpm) (S.hi p _ (Nat.le_refl _) hop hcp)
    have hwd := wanted_ok (ops := ops) (o := o) (env := E i) (a := a) (φ := φ) (W := Wr φ (G p) Z) (w := w) (fun t ht => S.reads D T ho hLi hedge t ht)
    obtain ⟨v, hE, hT⟩ := T i o ho
    -- the step at the place of a writing operation
    have atp : cls P o = 2 → ∀ (φ' : Place) (cv : Value) (w' : World), Inv base Z φ' (G (i + 1)) w' → Step base (G p).length φ (Wr φ (G p) Z) w φ' (Wr φ' (G (i + 1)) Z) w' → VRel φ' (Wr φ' (G (i + 1)) Z) w' v cv →
        wpAny P .any ops Q fuel (listed.setIfInBounds i true) (a.put o.dst cv) w' := fun hc φ' cv w' I' hst hv => by
      have hip := loudp hc
      obtain ⟨p', q1, q2, q3, q4⟩ := nextLoud (P := P) ops _ (i + 1) rfl (by omega)
      refine next p' φ' cv w' (S.more hcall D T ho hLi hedge hd hE q1 q2 q3 q4 (fun j x hj hx hcx => ?_) (fun j x hj hx hcx => ⟨S.hi j x (by omega) hx hcx, by omega⟩) I' hst hv (T.len hcall (by omega) (by omega)) fun j x hx hLj hji b hb1 hb2 => ?_)
      · rcases Nat.lt_trichotomy j i with h | h | h
        · exact .inl (S.lo j x (by omega) hx hcx)
        · exact .inr h
        · exact absurd hcx (q3 j x h hj hx)
      · have hjl := (Array.getElem?_eq_some_iff.1 hx).1
        rcases Nat.lt_trichotomy j i with h | h | h
        · have hcj : cls P x = 0 := by
            cases hcx : cls P x with
            | zero => rfl
            | succ m =>
              obtain ⟨m', hm, hjm⟩ := D.ord j i x o h hx ho (confl_loud' hc (by rw [hcx]; simp))
              exact absurd (anc_in D.anc S.closed i m' o hm ho hedge j hjm) hLj
          obtain ⟨u, _, ⟨_, hh⟩ | ⟨_, _, hh⟩⟩ := T j x hx
          · rw [evOp_same hcj hh] at hb2; omega
          · rw [hh] at hb2; omega
        · exact absurd h hji
        · exact I'.born b (Nat.le_trans (T.len hcall h (by omega)) hb1)
    have other : cls P o ≠ 2 → ∀ (φ' : Place) (cv : Value) (w' : World), Inv base Z φ' (G p) w' → Step base (G p).length φ (Wr φ (G p) Z) w φ' (Wr φ' (G p) Z) w' → VRel φ' (Wr φ' (G p) Z) w' v cv →
        (∀ (j : Nat) (x : Oper), ops[j]? = some x → ¬ listed.getD j false = true → j ≠ i → ∀ b, (G j).length ≤ b → b < (G (j + 1)).length → φ' b = .unborn) →
        wpAny P .any ops Q fuel (listed.setIfInBounds i true) (a.put o.dst cv) w' := fun hc φ' cv w' I' hst hv hu =>
      next p φ' cv w' (S.more hcall D T ho hLi hedge hd hE (Nat.le_refl _) S.pl (fun j x h1 h2 => by omega) S.at_p (fun j x hj hx hcx => .inl (S.lo j x hj hx hcx)) (fun j x hj hx hcx => ⟨S.hi j x hj hx hcx, fun e => by
        subst e
        rw [ho] at hx
        cases hx
        exact hc hcx⟩) I' hst hv (Nat.le_refl _) hu)
    unfold wpOp
    simp only [ho]
    rcases hT with ⟨hwv, hev⟩ | ⟨hwv, rfl, hG⟩
    · rw [hwv] at hwd
      simp only at hwd
      rw [hwd]
      simp only [if_true]
      refine .inl ?_
      by_cases hc : cls P o = 2
      · have hip := loudp hc
        have hr := fun x hx => S.evals D T ho hLi hedge x hx
        rw [← hip] at hr
        have I := S.inv
        rw [← hip] at I
        exact e_op hcall.toE I hr hev _ _ fun cv w' ⟨φ', ht⟩ => atp hc φ' cv w' ht.inv (by rw [← hip]; exact ht.step) ht.rel
      · by_cases hc0 : cls P o = 0
        · obtain ⟨hH, hdo⟩ := q_plain (H := G i) S.inv (fun x hx => S.evals D T ho hLi hedge x hx) hc0 hev
          exact hdo 0 0 _ _ fun cv w' ⟨φ', hp⟩ => other hc φ' cv w' hp.inv (hp.step _) hp.rel fun j x hx hLj hji b hb1 hb2 => by
            rw [hp.same b (.inr (Nat.zero_le _))]
            exact S.unb j x hx hLj b hb1 hb2
        · have hip := plainp hc hc0
          have hquiet : ∀ j x, i + 1 ≤ j → j < p → ops[j]? = some x → cls P x ≠ 2 := fun j x h1 h2 hx hcx => by
            have hLj := S.lo j x h2 hx hcx
            obtain ⟨m, hm, hjm⟩ := D.ord i j o x (by omega) ho hx (confl_loud' hcx hc0)
            exact hLi (anc_in D.anc S.closed j m x hm hx (S.closed j x hx hLj) i hjm)
          have hle : Le (G (i + 1)) (G p) := T.leTo' hcall hip S.pl hquiet
          exact q_op hcall S.inv (fun x hx => S.evals D T ho hLi hedge x hx) hc hev hle (fun b hb1 hb2 => S.unb i o ho hLi b hb1 hb2) _ _ fun cv w' ⟨φ', hp⟩ =>
            other hc φ' cv w' hp.inv (hp.step _) hp.rel fun j x hx hLj hji b hb1 hb2 => by
              have hjl := (Array.getElem?_eq_some_iff.1 hx).1
              rw [hp.same b (by
                rcases Nat.lt_or_ge j i with h | h
                · exact .inl (Nat.lt_of_lt_of_le hb2 (T.len hcall h (by omega)))
                · exact .inr (Nat.le_trans (T.len hcall (by omega) (by omega)) hb1))]
              exact S.unb j x hx hLj b hb1 hb2
    · rw [hwv] at hwd
      simp only at hwd
      rw [hwd]
      simp only [Bool.false_eq_true, if_false]
      have hvr : ∀ {φ : Place} {W : Nat → Prop}, VRel φ W w (.tuple []) undef := .tuple [] #[] rfl (by simp)
      by_cases hc : cls P o = 2
      · have hip := loudp hc
        exact atp hc φ undef w (by rw [hG, hip]; exact S.inv) (by rw [hG, hip]; exact .refl ..) hvr
      · exact other hc φ undef w S.inv (.refl ..) hvr fun j x hx hLj hji b hb1 hb2 => S.unb j x hx hLj b hb1 hb2

end

end Go.Abs

namespace Go.Abs
open Go.RowKit
set_option linter.unusedVariables false
set_option linter.unusedSimpArgs false

variable {P : Program}

section
variable {call : CallV} {ops : Array Oper} {n base h0 : Nat} {Z : Nat → Prop} {φ : Place} {H H' : Heap} {env env' : Env} {a : Act} {w : World}

theorem St.drew (S : St n base Z φ env H a w) : St n base Z φ env H a w.drew :=
  ⟨S.inv.drew, S.rel.mono (h0 := H.length) Ext.drew (fun _ => S.inv.lt), S.size, S.defers⟩

theorem region_ok {id : Nat} {draw : Bool} (hm : P.follows .mixedOrders = true) (hE : draw = false → ECall P call) (hQ : draw = true → QCall P call) (hds : dstsOk n ops = true) (hd : draw = true → dOk P ops = true)
    (S : St n base Z φ env H a w) (hh : h0 ≤ H.length) (h : evOps P call ops ops.toList env H = some (env', H')) :
    (Code.region id ops draw).wp P (fun e a' w' => e = .normal ∧ Moves n base Z h0 φ H w env' H' a' w') a w := by
  cases draw with
  | false =>
    apply wp_region
    have := seq_ops (Q := fun e a' w' => e = .normal ∧ Moves n base Z h0 φ H w env' H' a' w') (h0 := h0) (hE rfl) hds ops.toList 0 env H φ a w env' H' (by simp) S hh h (fun a' w' hm => ⟨rfl, hm⟩)
    rw [List.range_eq_range']
    simpa using this
  | true =>
    apply wp_region_any hm
    have hq := hQ rfl
    obtain ⟨E, G, e1, e2, e3, e4, T⟩ := trace (P := P) (call := call) (ops := ops) ops.toList 0 env H env' H' (by simp) (Nat.zero_le _) h
    have T' : Tr P call ops E G := fun k o ho => T k o (Nat.zero_le _) ho
    have D := dOk_spec (hd rfl)
    have S' := S.drew
    have hL : ∀ i, ¬ (Array.replicate ops.size false).getD i false = true := fun i => by
      simp [Array.getElem?_replicate]
      split <;> simp
    obtain ⟨p, q1, q2, q3, q4⟩ := nextLoud (P := P) ops _ 0 rfl (Nat.zero_le _)
    have hle : Le (G 0) (G p) := T'.leTo' hq q1 q2 q3
    have I0 : Inv base Z φ (G 0) w.drew := by rw [e2]; exact S'.inv
    refine any_ops (φ0 := φ) (W0 := Wr φ H Z) (w0 := w) (h0 := h0) hq D T' hds rfl (fun φ' a' w' hs hst hlen => ⟨rfl, φ', by rw [e3, e4] at hs; exact hs, by rw [e4] at hst; exact hst, by rw [e4] at hlen; exact hlen⟩) ops.size _ a _ p φ (by simp) ?_ ⟨fun j o hj hL' => absurd hL' (hL j), q2, fun j o hj ho hc => absurd hc (q3 j o (Nat.zero_le _) hj ho), fun j o _ _ _ => hL j, q4, I0.le hle, fun t _ => ?_, fun t j o _ _ hL' => absurd hL' (hL j), fun j o hj _ b hb1 hb2 => ?_, S'.size, S'.defers, ?_, ?_⟩
    · exact Nat.le_trans (List.length_filter_le _ _) (by simp)
    · rw [e1]
      have := S'.rel t
      rw [← e2] at this
      exact frz_rel I0 hle this
    · have hjl := (Array.getElem?_eq_some_iff.1 hj).1
      have := T'.len hq (Nat.zero_le j) (by omega)
      exact I0.born b (by omega)
    · have hle' : Le H (G p) := by rw [← e2]; exact hle
      exact Step.drew.trans (Step.frz (wr_le hle' fun b => S'.inv.lt))
    · have := hle.1
      rw [e2] at this
      omega

/-- The blocks renamed. -/
def moved (h0 : Nat) (K : List Nat) (φ : Place) : Place := fun b => if b < h0 then φ b else match K[b - h0]? with
  | some c => φ c
  | none => .unborn

theorem renL_at {ρ : Nat → Option Nat} : ∀ {cs : List V} {i : Nat}, (renL ρ cs)[i]? = (cs[i]?).map (ren ρ)
  | [], i => by simp [renL]
  | c :: cs, 0 => by simp [renL]
  | c :: cs, i + 1 => by simp [renL]; exact renL_at

theorem renL_length {ρ : Nat → Option Nat} : ∀ {cs : List V}, (renL ρ cs).length = cs.length
  | [] => rfl
  | c :: cs => by simp [renL, renL_length]

theorem renL_map {ρ : Nat → Option Nat} : ∀ {cs : List V}, renL ρ cs = cs.map (ren ρ)
  | [] => rfl
  | c :: cs => by simp [renL, renL_map]

theorem ren_agg {ρ : Nat → Option Nat} {e : V} (h : ∀ cs, e ≠ .agg cs) : ∀ cs, ren ρ e ≠ .agg cs := fun cs => by
  cases e <;> simp only [ren] <;> first | exact absurd rfl (h _) | exact fun h => (by cases h) | (split <;> exact fun h => (by cases h))

theorem ren_cells {ρ : Nat → Option Nat} {e : V} : (ren ρ e).cells = e.cells.map (ren ρ) := by
  by_cases ha : ∃ cs, e = .agg cs
  · obtain ⟨cs, rfl⟩ := ha
    simp [ren, V.cells, renL_map]
  · have h1 : ∀ cs, e ≠ .agg cs := fun cs h => ha ⟨cs, h⟩
    have hc : ∀ e : V, (∀ cs, e ≠ .agg cs) → e.cells = [e] := fun e h => by cases e <;> first | rfl | exact absurd rfl (h _)
    rw [hc _ (ren_agg h1), hc e h1]
    rfl

/-- Values under a renaming: where the new name stands, the old block is. -/
theorem VRel.ren {φ φ' : Place} {W W' : Nat → Prop} {w : World} {ρ : Nat → Option Nat} (hρ : ∀ b c, ρ b = some c → φ b ≠ .unborn → φ' c = φ b) (hW : ∀ c, W' c → W c) {x : V} {v : Value} (h : VRel φ W w x v) : VRel φ' W' w (ren ρ x) v := by
  induction h with
  | undef v => exact .undef v
  | bool b => exact .bool b
  | int k n => exact .int k n
  | str s => exact .str s
  | nils => exact .nils
  | nilm => exact .nilm
  | agg cs vs hl h1 _ ih =>
    refine .agg _ vs (by rw [renL_length]; exact hl) h1 fun i c v hc hv => ?_
    rw [renL_at, Option.map_eq_some_iff] at hc
    obtain ⟨c0, hc0, rfl⟩ := hc
    exact ih i c0 v hc0 hv
  | tuple cs vs hl _ ih =>
    refine .tuple _ vs (by rw [renL_length]; exact hl) fun i c v hc hv => ?_
    rw [renL_at, Option.map_eq_some_iff] at hc
    obtain ⟨c0, hc0, rfl⟩ := hc
    exact ih i c0 v hc0 hv
  | fn f cs vs hl _ ih =>
    refine .fn f _ vs (by rw [renL_length]; exact hl) fun i c v hc hv => ?_
    rw [renL_at, Option.map_eq_some_iff] at hc
    obtain ⟨c0, hc0, rfl⟩ := hc
    exact ih i c0 v hc0 hv
  | sl es a cap s vals hcap h0' hp hs hWa hc hv ih =>
    have h := VRel.sl es a cap s vals hcap h0' hp hs hWa hc hv
    have hp' : pureV (.sl es) = true := rfl
    have h2 : VRel pure0 W' w (.sl es) _ := (h.toPure hp').mono (h0 := 0) (Ext.frz hW) (fun _ h => absurd rfl h)
    exact h2.ofPure
  | slnil => exact .slnil
  | own b tot off len v hv h0' h1 h2 h3 =>
    simp only [Abs.ren]
    cases hb : ρ b with
    | none => exact .undef v
    | some c =>
      have he := hρ b c hb h1
      exact .own c tot off len v hv h0' (by rw [he]; exact h1) (by rw [he]; exact h2) (by rw [he]; exact h3)
  | ptr b tot i off v hv h1 h2 h3 =>
    simp only [Abs.ren]
    cases hb : ρ b with
    | none => exact .undef v
    | some c =>
      have he := hρ b c hb h1
      exact .ptr c tot i off v hv (by rw [he]; exact h1) (by rw [he]; exact h2) (by rw [he]; exact h3)
  | rop e a vals h0' hWa hc hv ih =>
    simp only [Abs.ren]
    refine .rop _ a vals (by rw [ren_cells]; simpa using h0') (fun h => hWa (hW _ h)) (fun j c hj => ?_) (fun j c hj => ?_)
    · rw [ren_cells, List.getElem?_map, Option.map_eq_some_iff] at hj
      obtain ⟨c0, hc0, rfl⟩ := hj
      exact hc j c0 hc0
    · rw [ren_cells, List.getElem?_map, Option.map_eq_some_iff] at hj
      obtain ⟨c0, hc0, rfl⟩ := hj
      exact ih j c0 hc0
  | mapr ks vs r es clock hWr hh h1 h2 hp hq hk hv ihk ihv =>
    have h := VRel.mapr ks vs r es clock hWr hh h1 h2 hp hq hk hv
    have h2 : VRel pure0 W' w (.mapr ks vs) _ := (h.toPure rfl).mono (h0 := 0) (Ext.frz hW) (fun _ h => absurd rfl h)
    exact h2.ofPure
  | mapn => exact .mapn
  | map b v hv h1 h3 =>
    simp only [Abs.ren]
    cases hb : ρ b with
    | none => exact .undef v
    | some c =>
      have he := hρ b c hb h1
      exact .map c v hv (by rw [he]; exact h1) (by rw [he]; exact h3)

end

end Go.Abs

namespace Go.Abs
open Go.RowKit
set_option linter.unusedVariables false
set_option linter.unusedSimpArgs false

variable {P : Program}

theorem indexOf_spec {b : Nat} : ∀ {K : List Nat} {i c : Nat}, indexOf b K i = some c → i ≤ c ∧ K[c - i]? = some b
  | [], i, c, h => by simp [indexOf] at h
  | k :: K, i, c, h => by
    simp only [indexOf] at h
    split at h
    · rename_i hb
      cases h
      simp [hb]
    · obtain ⟨h1, h2⟩ := indexOf_spec h
      refine ⟨by omega, ?_⟩
      have : c - i = (c - (i + 1)) + 1 := by omega
      rw [this]
      simpa using h2

theorem blocksOf_spec {H : Heap} : ∀ {K : List Nat} {r : Heap}, blocksOf H K = some r → r.length = K.length ∧ ∀ (i c : Nat), K[i]? = some c → r[i]? = H[c]?
  | [], r, h => by simp [blocksOf] at h; subst h; simp
  | k :: K, r, h => by
    simp only [blocksOf] at h
    cases hk : H[k]? with
    | none => simp [hk] at h
    | some x =>
      cases hr : blocksOf H K with
      | none => simp [hk, hr] at h
      | some r' =>
        simp [hk, hr] at h
        subst h
        obtain ⟨h1, h2⟩ := blocksOf_spec hr
        refine ⟨by simp [h1], fun i c hc => ?_⟩
        cases i with
        | zero => simp at hc; subst hc; simp [hk]
        | succ i => simpa using h2 i c (by simpa using hc)

theorem nodup_spec : ∀ {K : List Nat}, nodup K = true → ∀ (i j c : Nat), K[i]? = some c → K[j]? = some c → i = j
  | [], _, i, j, c, h, _ => by simp at h
  | k :: K, hn, i, j, c, hi, hj => by
    simp only [nodup, Bool.and_eq_true, Bool.not_eq_true'] at hn
    obtain ⟨h1, h2⟩ := hn
    have hnot : k ∉ K := by simpa using h1
    cases i with
    | zero =>
      cases j with
      | zero => rfl
      | succ j =>
        simp at hi hj
        subst hi
        exact absurd (List.mem_of_getElem? hj) hnot
    | succ i =>
      cases j with
      | zero =>
        simp at hi hj
        subst hj
        exact absurd (List.mem_of_getElem? hi) hnot
      | succ j =>
        have := nodup_spec h2 i j c (by simpa using hi) (by simpa using hj)
        omega

/-- Where a block was, before it was renamed. -/
def orig (h0 : Nat) (K : List Nat) (b : Nat) : Option Nat := if b < h0 then some b else K[b - h0]?

theorem moved_eq (h0 : Nat) (K : List Nat) (φ : Place) (b : Nat) : moved h0 K φ b = match orig h0 K b with | some c => φ c | none => .unborn := by
  unfold moved orig
  split
  · rfl
  · rfl

theorem renB_wr {ρ : Nat → Option Nat} {x : Blk} : (renB ρ x).wr = x.wr := by cases x <;> rfl

theorem BlkRel.ren {φ φ' : Place} {W W' : Nat → Prop} {w : World} {ρ : Nat → Option Nat} (hρ : ∀ b c, ρ b = some c → φ b ≠ .unborn → φ' c = φ b) (hW : ∀ c, W' c → W c) {x : Blk} {c s n : Nat} (h : BlkRel φ W w x c s n) : BlkRel φ' W' w (renB ρ x) c s n := by
  cases x with
  | dat wr sz es => exact ⟨h.1, h.2.1, h.2.2.mono (h0 := 0) (Ext.frz hW) (fun _ h => absurd rfl h) rfl⟩
  | map wr ks vs => exact ⟨h.1, h.2.mono (h0 := 0) (φ := pure0) (φ' := pure0) (Ext.frz hW) rfl⟩
  | box e =>
    refine ⟨h.1, ?_⟩
    obtain ⟨h0, cs, t, fr, h1, h2, h3, h4⟩ := h.2
    refine ⟨h0, cs, t, fr, h1, by simpa using h2, h3, fun i e' he => ?_⟩
    cases i with
    | succ i => simp at he
    | zero =>
      simp at he
      subst he
      obtain ⟨p1, p2⟩ := h4 0 e rfl
      rw [ren_cells]
      refine ⟨by simpa using p1, fun j x hx => ?_⟩
      rw [List.getElem?_map, Option.map_eq_some_iff] at hx
      obtain ⟨x0, hx0, rfl⟩ := hx
      obtain ⟨v, q1, q2, q3⟩ := p2 j x0 hx0
      exact ⟨v, q1, q2, q3.ren hρ hW⟩

section
variable {base h0 : Nat} {Z : Nat → Prop} {φ : Place} {H H' : Heap} {w : World} {K : List Nat}

structure Packed (base h0 : Nat) (Z : Nat → Prop) (φ : Place) (H H' : Heap) (w : World) (K : List Nat) : Prop where
  inv : Inv base Z (moved h0 K φ) H' w
  rel : ∀ x v, VRel φ (Wr φ H Z) w x v → VRel (moved h0 K φ) (Wr (moved h0 K φ) H' Z) w (ren (toK h0 K) x) v
  step : Step base h0 φ (Wr φ H Z) w (moved h0 K φ) (Wr (moved h0 K φ) H' Z) w
  len : h0 ≤ H'.length

theorem pack_ok (I : Inv base Z φ H w) (hh : h0 ≤ H.length) (h : pack h0 K H = some H') : Packed base h0 Z φ H H' w K := by
  unfold pack at h
  split at h
  case isFalse => cases h
  rename_i hc
  simp only [Bool.and_eq_true, List.all_eq_true, decide_eq_true_eq] at hc
  obtain ⟨hn, hall⟩ := hc
  cases hr : blocksOf H K with
  | none => rw [hr] at h; cases h
  | some r =>
    rw [hr] at h
    simp only at h
    cases h
    obtain ⟨r1, r2⟩ := blocksOf_spec hr
    have hlen : ((H.take h0 ++ r).map (renB (toK h0 K))).length = h0 + K.length := by simp [r1]; omega
    have horg : ∀ b, ((H.take h0 ++ r).map (renB (toK h0 K)))[b]? = ((orig h0 K b).bind (H[·]?)).map (renB (toK h0 K)) := fun b => by
      rw [List.getElem?_map]
      congr 1
      unfold orig
      split
      · rename_i hb
        rw [List.getElem?_append_left (by simp; omega), List.getElem?_take, if_pos hb]
        rfl
      · rename_i hb
        rw [List.getElem?_append_right (by simp; omega)]
        have : b - (H.take h0).length = b - h0 := by simp; omega
        rw [this]
        cases hk : K[b - h0]? with
        | none => simp; have := List.getElem?_eq_none_iff.1 hk; omega
        | some c => exact r2 _ c hk
    have hinj : ∀ b b' c, orig h0 K b = some c → orig h0 K b' = some c → b = b' := fun b b' c h1 h2 => by
      unfold orig at h1 h2
      split at h1
      · cases h1
        split at h2
        · cases h2; rfl
        · have := hall _ (List.mem_of_getElem? h2); omega
      · split at h2
        · cases h2
          have := hall _ (List.mem_of_getElem? h1); omega
        · have := nodup_spec hn _ _ _ h1 h2
          omega
    have hρ : ∀ b c, toK h0 K b = some c → φ b ≠ .unborn → moved h0 K φ c = φ b := fun b c hb _ => by
      unfold toK at hb
      split at hb
      · rename_i hlt
        cases hb
        simp [moved, hlt]
      · obtain ⟨h1, h2⟩ := indexOf_spec hb
        unfold moved
        rw [if_neg (by omega), h2]
    have hborn : ∀ b l, moved h0 K φ b = l → l ≠ .unborn → ∃ c, orig h0 K b = some c ∧ φ c = l := fun b l hb hl => by
      rw [moved_eq] at hb
      cases ho : orig h0 K b with
      | none => rw [ho] at hb; exact absurd hb.symm hl
      | some c => rw [ho] at hb; exact ⟨c, rfl, hb⟩
    have hW : ∀ c, Wr (moved h0 K φ) ((H.take h0 ++ r).map (renB (toK h0 K))) Z c → Wr φ H Z c := fun c hc => by
      rcases hc with hc | ⟨b, s, n, x, p1, p2, p3⟩
      · exact .inl hc
      · obtain ⟨o, q1, q2⟩ := hborn b _ p1 (by simp)
        rw [horg, q1] at p2
        simp only [Option.bind_some, Option.map_eq_some_iff] at p2
        obtain ⟨x0, e1, e2⟩ := p2
        exact .inr ⟨o, s, n, x0, q2, e1, by rw [← e2, renB_wr] at p3; exact p3⟩
    have hblk : ∀ b o x, orig h0 K b = some o → H[o]? = some x → ((H.take h0 ++ r).map (renB (toK h0 K)))[b]? = some (renB (toK h0 K) x) := fun b o x h1 h2 => by
      rw [horg, h1]; simp [h2]
    refine ⟨⟨I.hz, I.hb, fun b hb => ?_, fun b b' c s n s' n' h1 h2 => ?_, fun b c s n hb => ?_, fun b c s n hb => ?_, fun b hb => ?_⟩, fun x v hx => hx.ren hρ hW, ⟨⟨fun b hb hu => ?_, fun c _ hc => hW c hc, fun _ _ _ => rfl, fun _ _ h => h, Nat.le_refl _⟩, .refl ..⟩, by rw [hlen]; omega⟩
    · rw [hlen] at hb
      unfold moved
      rw [if_neg (by omega), List.getElem?_eq_none (by omega)]
    · obtain ⟨o, q1, q2⟩ := hborn b _ h1 (by simp)
      obtain ⟨o', q1', q2'⟩ := hborn b' _ h2 (by simp)
      have := I.inj _ _ _ _ _ _ _ q2 q2'
      subst this
      exact hinj _ _ _ q1 q1'
    · obtain ⟨o, q1, q2⟩ := hborn b _ hb (by simp)
      exact I.rng _ _ _ _ q2
    · obtain ⟨o, q1, q2⟩ := hborn b _ hb (by simp)
      obtain ⟨x, hx, hrel⟩ := I.blk _ _ _ _ q2
      exact ⟨_, hblk b o x q1 hx, hrel.ren hρ hW⟩
    · obtain ⟨o, q1, q2⟩ := hborn b _ hb (by simp)
      obtain ⟨wr, s, hx, hs⟩ := I.nil _ q2
      exact ⟨wr, s, hblk b o _ q1 hx, hs⟩
    · have : moved h0 K φ b = φ b := by simp [moved, hb]
      rw [this]
      exact .refl hu

/-- A loop's head. -/
theorem atHead_ok {n : Nat} {ks : List Nat} {env env' : Env} {a : Act} (S : St n base Z φ env H a w) (hh : h0 ≤ H.length) (h : atHead h0 ks env H = some (env', H')) :
    ∃ φ', St n base Z φ' env' H' a w ∧ Step base h0 φ (Wr φ H Z) w φ' (Wr φ' H' Z) w ∧ h0 ≤ H'.length := by
  unfold atHead at h
  simp only at h
  split at h
  · rename_i H2 hp
    cases h
    have hk := pack_ok S.inv hh hp
    refine ⟨_, ⟨hk.inv, fun t => ?_, S.size, S.defers⟩, hk.step, hk.len⟩
    have : ∀ (l : List Nat), Env.get (l.map fun i => (i, ren (toK h0 (above h0 (reach H (H.length * (H.length + 1) + 100) (refsH (H.take h0) ++ refsOf env ks) []))) (env.get i))) t = .undef ∨
        Env.get (l.map fun i => (i, ren (toK h0 (above h0 (reach H (H.length * (H.length + 1) + 100) (refsH (H.take h0) ++ refsOf env ks) []))) (env.get i))) t = ren (toK h0 (above h0 (reach H (H.length * (H.length + 1) + 100) (refsH (H.take h0) ++ refsOf env ks) []))) (env.get t) := fun l => by
      induction l with
      | nil => exact .inl rfl
      | cons i l ih =>
        simp only [List.map_cons, Env.get]
        by_cases hi : t = i
        · rw [if_pos hi, hi]; exact .inr rfl
        · rw [if_neg hi]; exact ih
    rcases this ks with h | h
    · rw [h]; exact .undef _
    · rw [h]; exact hk.rel _ _ (S.rel t)
  · cases h

end

end Go.Abs

namespace Go.Abs
open Go.RowKit
set_option linter.unusedVariables false
set_option linter.unusedSimpArgs false

variable {P : Program}

theorem hasRoL_at : ∀ {cs : List V} {i : Nat} {c : V}, hasRoL cs = false → cs[i]? = some c → hasRo c = false
  | [], i, c, _, hc => by simp at hc
  | d :: cs, i, c, h, hc => by
    simp only [hasRoL, Bool.or_eq_false_iff] at h
    cases i with
    | zero => simp at hc; rw [← hc]; exact h.1
    | succ i => exact hasRoL_at h.2 (by simpa using hc)

theorem hasRo_cell {e : V} (h : hasRo e = false) {j : Nat} {c : V} (hc : e.cells[j]? = some c) : hasRo c = false := by
  by_cases ha : ∃ cs, e = .agg cs
  · obtain ⟨cs, rfl⟩ := ha
    exact hasRoL_at (cs := cs) (by simpa only [hasRo] using h) hc
  · rw [single_cell (fun cs he => ha ⟨cs, he⟩) hc]; exact h

/-- What leads to no memory that was there is related whatever may be written. -/
theorem VRel.noRo {φ : Place} {W W' : Nat → Prop} {w : World} {x : V} {v : Value} (h : VRel φ W w x v) (hn : hasRo x = false) : VRel φ W' w x v := by
  induction h with
  | undef v => exact .undef v
  | bool b => exact .bool b
  | int k n => exact .int k n
  | str s => exact .str s
  | nils => exact .nils
  | nilm => exact .nilm
  | agg cs vs hl h1 _ ih => exact .agg cs vs hl h1 fun i c v hc hv => ih i c v hc hv (hasRoL_at (by simpa only [hasRo] using hn) hc)
  | tuple cs vs hl _ ih => exact .tuple cs vs hl fun i c v hc hv => ih i c v hc hv (hasRoL_at (by simpa only [hasRo] using hn) hc)
  | fn f cs vs hl _ ih => exact .fn f cs vs hl fun i c v hc hv => ih i c v hc hv (hasRoL_at (by simpa only [hasRo] using hn) hc)
  | sl es a cap s vals hcap h0' hp hs hWa hc hv ih =>
    have : es = [] := by
      cases es with
      | nil => rfl
      | cons e es => simp [hasRo] at hn
    subst this
    exact .sl [] a cap s vals hcap h0' hp hs (fun h => absurd rfl h) hc (by simp)
  | slnil => exact .slnil
  | own b tot off len v hv h0' h1 h2 h3 => exact .own b tot off len v hv h0' h1 h2 h3
  | ptr b tot i off v hv h1 h2 h3 => exact .ptr b tot i off v hv h1 h2 h3
  | rop e a vals h0' hWa hc hv ih => simp [hasRo] at hn
  | mapr ks vs r es clock hWr hh h1 h2 hp hq hk hv ihk ihv => simp [hasRo] at hn
  | mapn => simp [hasRo] at hn
  | map b v hv h1 h3 => exact .map b v hv h1 h3

theorem Row.noRo {φ : Place} {W W' : Nat → Prop} {w : World} {c s : Nat} {es : List V} (h : Row φ W w c s es) (hn : hasRoL es = false) : Row φ W' w c s es := by
  obtain ⟨h0, cs, t, fr, h1, h2, h3, h4⟩ := h
  refine ⟨h0, cs, t, fr, h1, h2, h3, fun i e he => ⟨(h4 i e he).1, fun j x hx => ?_⟩⟩
  obtain ⟨v, p1, p2, p3⟩ := (h4 i e he).2 j x hx
  exact ⟨v, p1, p2, p3.noRo (hasRo_cell (hasRoL_at hn he) hx)⟩

theorem BlkRel.noRo {φ : Place} {W W' : Nat → Prop} {w : World} {x : Blk} {c s n : Nat} (h : BlkRel φ W w x c s n) (hn : hasRoB x = false) : BlkRel φ W' w x c s n := by
  cases x with
  | dat wr sz es => exact ⟨h.1, h.2.1, h.2.2.noRo (by simpa only [hasRoB] using hn)⟩
  | box e => exact ⟨h.1, h.2.noRo (by simpa [hasRoB, hasRoL] using hn)⟩
  | map wr ks vs =>
    simp only [hasRoB, Bool.or_eq_false_iff] at hn
    obtain ⟨es, clock, h1, h2, h3, h4, h5⟩ := h.2
    exact ⟨h.1, es, clock, h1, h2, h3, fun i k x a b => (h4 i k x a b).noRo (hasRoL_at hn.1 a), fun i k x a b => (h5 i k x a b).noRo (hasRoL_at hn.2 a)⟩

section
variable {base : Nat} {Z : Nat → Prop} {φ φc : Place} {H HF H' : Heap} {w w' : World} {r : V} {v : Value}

def inPlace (φ φc : Place) (lo n : Nat) : Place := fun b => if lo ≤ b ∧ b < lo + n then φc (b - lo) else φ b

/-- What a call left that knew nothing of the blocks here, set among them. -/
theorem adopt {Hs : Heap} (I : Inv base Z φ HF w) (hlen : Hs.length = H.length) (hle : Le (Hs ++ H'.map (renB (shift H.length))) HF) (hu : ∀ b, H.length ≤ b → b < H.length + H'.length → φ b = .unborn)
    (Ic : ∀ b c s n, φc b = .at c s n → ∃ x, H'[b]? = some x ∧ BlkRel φc (Wr φc H' (Wr φ HF Z)) w' x c s n) (Inil : ∀ b, φc b = .nil → ∃ wr s, H'[b]? = some (.dat wr s []) ∧ 0 < s)
    (Iinj : ∀ b b' c s n s' n', φc b = .at c s n → φc b' = .at c s' n' → b = b') (Irng : ∀ b c s n, φc b = .at c s n → w.heap.size ≤ c ∧ c < w'.heap.size) (Iborn : ∀ b, H'.length ≤ b → φc b = .unborn)
    (hr : VRel φc (Wr φc H' (Wr φ HF Z)) w' r v) (hb : Below w.heap.size w w') (hs : ∀ c x, w.shape? c = some x → w'.shape? c = some x) :
    POK base Z φ HF w H.length (H.length + H'.length) (ren (shift H.length) r) v (inPlace φ φc H.length H'.length) w' := by
  have old : ∀ b, ¬ (H.length ≤ b ∧ b < H.length + H'.length) → inPlace φ φc H.length H'.length b = φ b := fun b h => by unfold inPlace; rw [if_neg h]
  have new : ∀ i, i < H'.length → inPlace φ φc H.length H'.length (i + H.length) = φc i := fun i hi => by
    unfold inPlace
    rw [if_pos (by omega)]; congr 1; omega
  have hblk : ∀ i x, H'[i]? = some x → ∃ y, HF[i + H.length]? = some y ∧ (renB (shift H.length) x).le y := fun i x hx => hle.2 _ _ (by
    rw [List.getElem?_append_right (by omega), List.getElem?_map]
    have : i + H.length - Hs.length = i := by omega
    rw [this, hx]
    rfl)
  have cases_ : ∀ b l, inPlace φ φc H.length H'.length b = l → l ≠ .unborn → φ b = l ∧ ¬ (H.length ≤ b ∧ b < H.length + H'.length) ∨ ∃ i, b = i + H.length ∧ φc i = l := fun b l h hl => by
    by_cases hc : H.length ≤ b ∧ b < H.length + H'.length
    · right
      refine ⟨b - H.length, by omega, ?_⟩
      unfold inPlace at h
      rw [if_pos hc] at h
      exact h
    · left
      rw [old b hc] at h
      exact ⟨h, hc⟩
  have hW : ∀ c, Wr (inPlace φ φc H.length H'.length) HF Z c → Wr φ HF Z c ∨ ∃ i s n x, φc i = .at c s n ∧ H'[i]? = some x ∧ x.wr = true := fun c hc => by
    rcases hc with hc | ⟨b, s, n, x, p1, p2, p3⟩
    · exact .inl (.inl hc)
    · rcases cases_ b _ p1 (by simp) with ⟨q1, _⟩ | ⟨i, rfl, q1⟩
      · exact .inl (.inr ⟨b, s, n, x, q1, p2, p3⟩)
      · obtain ⟨x0, e1, _⟩ := Ic i _ _ _ q1
        obtain ⟨y, e2, e3⟩ := hblk i x0 e1
        rw [p2] at e2
        cases e2
        have := Blk.le_wr e3 p3
        rw [renB_wr] at this
        exact .inr ⟨i, s, n, x0, q1, e1, this⟩
  have hW' : ∀ c, Wr (inPlace φ φc H.length H'.length) HF Z c → Wr φc H' (Wr φ HF Z) c := fun c hc => (hW c hc).elim .inl fun ⟨i, s, n, x, p1, p2, p3⟩ => .inr ⟨i, s, n, x, p1, p2, p3⟩
  have hρ : ∀ b c, shift H.length b = some c → φc b ≠ .unborn → inPlace φ φc H.length H'.length c = φc b := fun b c h hne => by
    simp only [shift, Option.some.injEq] at h
    rw [← h, new]
    rcases Nat.lt_or_ge b H'.length with h1 | h1
    · exact h1
    · exact absurd (Iborn b h1) hne
  have hsize : w.heap.size ≤ w'.heap.size := hb.size
  have ext : ∀ h0, Ext h0 φ (Wr φ HF Z) w (inPlace φ φc H.length H'.length) (Wr (inPlace φ φc H.length H'.length) HF Z) w' := fun h0 => by
    refine ⟨fun b _ hu' => ?_, fun c hc hw => ?_, fun c hc _ => hb.block c hc, hs, hsize⟩
    · rw [old b (fun h => hu' (hu b h.1 h.2))]
      exact .refl hu'
    · rcases hW c hw with h | ⟨i, s, n, x, p1, p2, p3⟩
      · exact h
      · have := (Irng i _ _ _ p1).1; omega
  refine ⟨⟨I.hz, Nat.le_trans I.hb hsize, fun b hb' => ?_, fun b b' c s n s' n' h1 h2 => ?_, fun b c s n h1 => ?_, fun b c s n h1 => ?_, fun b h1 => ?_⟩, hr.ren hρ hW', fun h0 => ⟨ext h0, hb.mono I.hb⟩, fun b hb' => old b (by omega)⟩
  · rw [old b (by have := hle.1; simp [hlen] at this; omega)]
    exact I.born b hb'
  · rcases cases_ b _ h1 (by simp) with ⟨q1, _⟩ | ⟨i, rfl, q1⟩ <;> rcases cases_ b' _ h2 (by simp) with ⟨q2, _⟩ | ⟨i', rfl, q2⟩
    · exact I.inj _ _ _ _ _ _ _ q1 q2
    · have := (I.rng _ _ _ _ q1).2
      have := (Irng _ _ _ _ q2).1
      omega
    · have := (I.rng _ _ _ _ q2).2
      have := (Irng _ _ _ _ q1).1
      omega
    · rw [Iinj _ _ _ _ _ _ _ q1 q2]
  · rcases cases_ b _ h1 (by simp) with ⟨q1, _⟩ | ⟨i, rfl, q1⟩
    · have := I.rng _ _ _ _ q1
      exact ⟨this.1, by omega⟩
    · have := Irng _ _ _ _ q1
      exact ⟨Nat.le_trans I.hb this.1, this.2⟩
  · rcases cases_ b _ h1 (by simp) with ⟨q1, _⟩ | ⟨i, rfl, q1⟩
    · obtain ⟨x, hx, hrel⟩ := I.blk _ _ _ _ q1
      exact ⟨x, hx, hrel.mono (ext HF.length) (fun _ => I.lt) (hb.block c (I.rng _ _ _ _ q1).2)⟩
    · obtain ⟨x, hx, hrel⟩ := Ic _ _ _ _ q1
      obtain ⟨y, hy, hly⟩ := hblk i x hx
      exact ⟨y, hy, (hrel.ren hρ hW').le hly⟩
  · rcases cases_ b _ h1 (by simp) with ⟨q1, _⟩ | ⟨i, rfl, q1⟩
    · exact I.nil b q1
    · obtain ⟨wr, s, hx, hs0⟩ := Inil _ q1
      obtain ⟨y, hy, hly⟩ := hblk i _ hx
      cases y <;> simp only [renB, Blk.le] at hly
      obtain ⟨rfl, rfl, _⟩ := hly
      exact ⟨_, _, hy, hs0⟩

end

end Go.Abs

namespace Go.Abs
open Go.RowKit
set_option linter.unusedVariables false
set_option linter.unusedSimpArgs false

variable {P : Program}

def FnOk (P : Program) (f : FuncId) : Prop := ∃ fn, P.funcs[f]? = some fn ∧ fn.name ≠ "runtime.NumGoroutine" ∧ fn.body ≠ none

/-- What a call over nothing of the caller's own must leave. -/
def Contract (P : Program) (f : FuncId) (as : List V) (r : V) (H' : Heap) : Prop :=
  ∀ base Z w cargs, Inv base Z pure0 [] w → ArgsRel pure0 (Wr pure0 [] Z) w as cargs → Calls P f cargs w (fun e w' => ∃ v, e = .returned v ∧ Turns base Z pure0 [] w H' r v w')

theorem inv_empty {Z : Nat → Prop} {w : World} (hz : ∀ c, Z c → c < w.heap.size) : Inv w.heap.size Z pure0 [] w :=
  { hz := hz
    hb := Nat.le_refl _
    born := fun _ _ => rfl
    inj := fun b b' c s n s' n' h _ => Loc.noConfusion h
    rng := fun b c s n h => Loc.noConfusion h
    blk := fun b c s n h => Loc.noConfusion h
    nil := fun b h => Loc.noConfusion h }

theorem ArgsRel.append {φ : Place} {W : Nat → Prop} {w : World} {xs ys : List V} {cx cy : Array Value} (h : ArgsRel φ W w xs cx) (k : ArgsRel φ W w ys cy) : ArgsRel φ W w (xs ++ ys) (cx ++ cy) := by
  refine ⟨by simp [h.1, k.1], fun i x c hx hc => ?_⟩
  rcases Nat.lt_or_ge i xs.length with hi | hi
  · rw [List.getElem?_append_left hi] at hx
    rw [Array.getElem?_append_left (by rw [← h.1]; exact hi)] at hc
    exact h.2 i x c hx hc
  · rw [List.getElem?_append_right hi] at hx
    rw [Array.getElem?_append_right (by rw [← h.1]; exact hi), ← h.1] at hc
    exact k.2 _ x c hx hc

theorem fn_rel {φ : Place} {W : Nat → Prop} {w : World} {f : Nat} {cs : List V} {cf : Value} (h : VRel φ W w (.fn f cs) cf) : ∃ vs, cf = .func (.func f) #[] vs ∧ ArgsRel φ W w cs vs := by
  cases h
  exact ⟨_, rfl, ‹_›, ‹_›⟩

section
variable {base : Nat} {Z : Nat → Prop} {φ : Place} {H HF H' : Heap} {w : World}

theorem pure_call {f : FuncId} {xs cs as : List V} {bs : List Nat} {r : V} (hf : FnOk P f) (hs : sealL H (xs ++ cs) = some (as, bs)) (hc : Contract P f as r H') :
    Le H ((if hasRo r || H'.any hasRoB then freeze H bs else H) ++ H'.map (renB (shift H.length))) ∧
    ∀ base Z φ HF w cf cxs, Inv base Z φ HF w → VRel φ (Wr φ HF Z) w (.fn f cs) cf → ArgsRel φ (Wr φ HF Z) w xs cxs → Le ((if hasRo r || H'.any hasRoB then freeze H bs else H) ++ H'.map (renB (shift H.length))) HF →
      (∀ b, H.length ≤ b → b < ((if hasRo r || H'.any hasRoB then freeze H bs else H) ++ H'.map (renB (shift H.length))).length → φ b = .unborn) →
      Enters P cf cxs w (Leaves base Z φ HF w H.length ((if hasRo r || H'.any hasRoB then freeze H bs else H) ++ H'.map (renB (shift H.length))).length (ren (shift H.length) r)) := by
  have hlen : (if hasRo r || H'.any hasRoB then freeze H bs else H).length = H.length := by split <;> simp [freeze_length]
  have hle0 : Le H (if hasRo r || H'.any hasRoB then freeze H bs else H) := by split; exact freeze_le .. ; exact .refl _
  refine ⟨hle0.trans (.append ..), fun base Z φ HF w cf cxs I hcf hxs hle hu => ?_⟩
  obtain ⟨fn, hf1, hf2, hf3⟩ := hf
  obtain ⟨vs, rfl, hvs⟩ := fn_rel hcf
  have hall := hxs.append hvs
  obtain ⟨hsl, hsa⟩ := sealL_at hs
  have hlenO : ((if hasRo r || H'.any hasRoB then freeze H bs else H) ++ H'.map (renB (shift H.length))).length = H.length + H'.length := by rw [List.length_append, hlen, List.length_map]
  refine ⟨f, vs, fn, rfl, hf1, hf2, hf3, ?_⟩
  have hcell : ∀ b c s n, φ b = .at c s n → c < w.heap.size := fun b c s n h => (I.rng b c s n h).2
  have hwr : ∀ c, Wr φ HF Z c → c < w.heap.size := fun c h => by
    rcases h with h | ⟨b, s, n, x, h1, _, _⟩
    · exact Nat.lt_of_lt_of_le (I.hz c h) I.hb
    · exact hcell _ _ _ _ h1
  have fin : ∀ (Z' : Nat → Prop), (Z' = Wr φ HF Z ∨ ((hasRo r || H'.any hasRoB) = false ∧ Z' = fun _ => False)) → ArgsRel pure0 Z' w as (cxs ++ vs) →
      Calls P f (cxs ++ vs) w (fun e w' => ∃ v, e = .returned v ∧ Leaves base Z φ HF w H.length ((if hasRo r || H'.any hasRoB then freeze H bs else H) ++ H'.map (renB (shift H.length))).length (ren (shift H.length) r) v w') := fun Z' hZ hargs => by
    have I' : Inv w.heap.size Z' pure0 [] w := inv_empty fun c h => by
      rcases hZ with rfl | ⟨_, rfl⟩
      · exact hwr c h
      · exact h.elim
    have hfz : ∀ c, Wr pure0 [] Z' c → Z' c := fun c h => by
      rcases h with h | ⟨b, s, n, x, h1, _⟩
      · exact h
      · cases h1
    refine Calls.mono (hc w.heap.size Z' w _ I' ⟨hargs.1, fun i x c a b => (hargs.2 i x c a b).mono (h0 := 0) (Ext.frz (w := w) fun c h => hfz c h) (fun _ h => absurd rfl h)⟩) fun e w' hR => ?_
    · obtain ⟨v, he, φc, ht⟩ := hR
      refine ⟨v, he, inPlace φ φc H.length H'.length, ?_⟩
      rw [hlenO]
      refine adopt (Hs := if hasRo r || H'.any hasRoB then freeze H bs else H) (φc := φc) I hlen hle (fun b h1 h2 => hu b h1 (by rw [hlenO]; exact h2)) (fun b c s n hb => ?_) ht.inv.nil ht.inv.inj ht.inv.rng ht.inv.born ?_ ht.step.below ht.step.ext.shape
      · obtain ⟨x, hx, hrel⟩ := ht.inv.blk b c s n hb
        refine ⟨x, hx, ?_⟩
        rcases hZ with rfl | ⟨hro, rfl⟩
        · exact hrel
        · simp only [Bool.or_eq_false_iff, List.any_eq_false] at hro
          exact hrel.noRo (by simpa using hro.2 x (List.mem_of_getElem? hx))
      · rcases hZ with rfl | ⟨hro, rfl⟩
        · exact ht.rel
        · simp only [Bool.or_eq_false_iff] at hro
          exact ht.rel.noRo hro.1
  have argsOf : ∀ (Z' : Nat → Prop), (∀ x c x' b', x ∈ xs ++ cs → VRel φ (Wr φ HF Z) w x c → sealV H x = some (x', b') → (∀ b ∈ b', b ∈ bs) → VRel pure0 Z' w x' c) → ArgsRel pure0 Z' w as (cxs ++ vs) := fun Z' hz => by
    refine ⟨by rw [hsl]; exact hall.1, fun i x c hx hcx => ?_⟩
    have hil : i < (xs ++ cs).length := by rw [← hsl]; exact (List.getElem?_eq_some_iff.1 hx).1
    have hxi := List.getElem?_eq_getElem hil
    obtain ⟨x', b', h1, h2, h3⟩ := hsa i _ hxi
    rw [hx] at h2
    cases h2
    exact hz _ c x b' (List.mem_of_getElem? hxi) (hall.2 i _ c hxi hcx) h1 h3
  by_cases hro : (hasRo r || H'.any hasRoB) = true
  · rw [if_pos hro] at hle
    exact fin _ (.inl rfl) (argsOf _ fun x c x' b' _ hx h1 h3 => seal_in I ((Le.append _ _).trans hle) h3 (sealL_notBox hs) hx h1)
  · have hro' : (hasRo r || H'.any hasRoB) = false := by simpa using hro
    rw [if_neg hro] at hle
    exact fin _ (.inr ⟨hro', rfl⟩) (argsOf _ fun x c x' b' _ hx h1 h3 => seal_ok I ((Le.append _ _).trans hle) (W' := fun _ => False) (fun _ h => h.elim) hx x' b' h1 fun _ _ _ _ _ _ h => h)

end

end Go.Abs

namespace Go.Abs
open Go.RowKit
set_option linter.unusedVariables false
set_option linter.unusedSimpArgs false

section loop
variable {P : Program} {Q : Exit → Act → World → Prop} {a : Act} {w : World}

/-- A loop whose rounds are counted down by something that the state need not show. -/
theorem wp_loopJ {c : Code} (J : Nat → Act → World → Prop) (round : ∀ n a w, J n a w → c.wp P (Exit.then (fun a' w' => ∃ m, m < n ∧ J m a' w') Q) a w) {n : Nat} (h₀ : J n a w) : (Code.loop c).wp P Q a w := by
  intro b k cs
  have key : ∀ n a w, J n a w →
      ∃ e a' w', Q e a' w' ∧ Arrives P (lone (b.at a (.code c :: .inLoop c :: k)) cs w) b k cs e a' w' := by
    intro n
    induction n using Nat.strongRecOn with
    | _ n ih =>
      intro a w hJ
      obtain ⟨e, a₁, w₁, hq, harr⟩ := round n a w hJ b (.inLoop c :: k) cs
      cases e with
      | normal =>
        obtain ⟨m, hlt, hJ₁⟩ := hq
        obtain ⟨e₂, a₂, w₂, hq₂, harr₂⟩ := ih m hlt a₁ w₁ hJ₁
        exact ⟨e₂, a₂, w₂, hq₂, .of_steps (Steps.trans harr (.one step_inLoop)) harr₂⟩
      | exit id => exact ⟨_, a₁, w₁, hq, .pass (x := .inLoop c) rfl (fun _ _ => .inl (by simp)) harr⟩
      | goto l => exact ⟨_, a₁, w₁, hq, .pass (x := .inLoop c) rfl (fun _ _ => .inl (by simp)) harr⟩
      | ret => exact ⟨_, a₁, w₁, hq, .pass (x := .inLoop c) rfl (fun _ _ => .inl (by simp)) harr⟩
      | panic ch => exact ⟨_, a₁, w₁, hq, .pass (x := .inLoop c) rfl (fun _ _ => .inl (by simp)) harr⟩
      | outgrown => exact ⟨_, a₁, w₁, hq, .pass (x := .inLoop c) rfl (fun _ _ => .inl (by simp)) harr⟩
  obtain ⟨e, a', w', hq, harr⟩ := key n a w h₀
  exact ⟨e, a', w', hq, .of_steps (.one step_loop) harr⟩

end loop

/-- What a context must keep. -/
structure Good (C : Ctx) : Prop where
  mixed : C.P.follows .mixedOrders = true
  body : ∀ f b, C.body f = some b → ∃ fn, C.P.funcs[f]? = some fn ∧ fn.name ≠ "runtime.NumGoroutine" ∧ fn.body = some b.code ∧ fn.results.toList = b.results ∧ fn.ntmps = b.ntmps ∧ codeOk C.P b.ntmps b.code = true
  ext : ∀ f g, C.ext f = some g → FnOk C.P f ∧ ∀ as r H', g as = some (r, H') → Contract C.P f as r H'
  extE : ∀ f g, C.extE f = some g → FnOk C.P f ∧ ∀ args H r H', g args H = some (r, H') → ∀ base Z φ w cargs, Inv base Z φ H w → ArgsRel φ (Wr φ H Z) w args cargs →
    Calls C.P f cargs w (fun e w' => ∃ v, e = .returned v ∧ Turns base Z φ H w H' r v w')

def X.toExit : X → Exit
  | .normal => .normal
  | .exit id => .exit id
  | .ret => .ret

section
variable {P : Program} {base : Nat} {Z : Nat → Prop} {φ : Place} {H HF : Heap} {w : World}

theorem loadAt_as {t : TypeId} {cv v : Value} (h : (Instr.loadAt t cv).run P w = .ok v w) : (do loadVar t (← asAddr cv) : Sem Value).run P w = .ok v w := by
  cases cv with
  | pointer p =>
    cases p with
    | some a => simpa [Instr.loadAt, Instr.sureAddr, asAddr] using h
    | none => simp [Instr.loadAt, Instr.sureAddr, stuck] at h
  | _ => simp [Instr.loadAt, Instr.sureAddr, stuck] at h

theorem results_list {env : Env} {tmps : Array Value} (I : Inv base Z φ H w) (hr : EnvRel φ (Wr φ H Z) w env tmps) : ∀ (rs : List ResultVar) (vs : List V), resultsV P env H rs = some vs →
    ∃ cvs : List Value, (rs.mapM fun (r : ResultVar) => (match r with | .tmp t => pure (tmps.getD t undef) | .cell a t => do loadVar t (← asAddr (tmps.getD a undef)) : Sem Value)).run P w = .ok cvs w ∧ vs.length = cvs.length ∧
      ∀ (i : Nat) (x : V) (c : Value), vs[i]? = some x → cvs[i]? = some c → VRel φ (Wr φ H Z) w x c
  | [], vs, h => by simp only [resultsV] at h; cases h; exact ⟨[], by simp, rfl, by simp⟩
  | .tmp t :: r, vs, h => by
    simp only [resultsV, Option.map_eq_some_iff] at h
    obtain ⟨vs', h1, rfl⟩ := h
    obtain ⟨cvs, p1, p2, p3⟩ := results_list I hr r vs' h1
    refine ⟨tmps.getD t undef :: cvs, by rw [List.mapM_cons, Sem.run_bind]; show Result.andThen (.ok _ w) _ = _; simp only [Result.andThen]; rw [Sem.run_bind, p1]; rfl, by simp [p2], fun i x c hx hc => ?_⟩
    cases i with
    | zero => simp only [List.getElem?_cons_zero, Option.some.injEq] at hx hc; rw [← hx, ← hc]; exact hr t
    | succ i => exact p3 i x c (by simpa using hx) (by simpa using hc)
  | .cell a t :: r, vs, h => by
    simp only [resultsV] at h
    split at h
    · rename_i v vs' h0 h1
      cases h
      obtain ⟨cvs, p1, p2, p3⟩ := results_list I hr r vs' h1
      obtain ⟨cv, q1, q2⟩ := r_load (P := P) I (.refl _) (hr a) h0
      have q3 := loadAt_as q1
      refine ⟨cv :: cvs, by rw [List.mapM_cons, Sem.run_bind]; simp only; rw [q3]; simp only [Result.andThen]; rw [Sem.run_bind, p1]; rfl, by simp [p2], fun i x c hx hc => ?_⟩
      cases i with
      | zero => simp only [List.getElem?_cons_zero, Option.some.injEq] at hx hc; rw [← hx, ← hc]; exact q2
      | succ i => exact p3 i x c (by simpa using hx) (by simpa using hc)
    · cases h

theorem results_ok {env : Env} {tmps : Array Value} {fn : Func} {vs : List V} (I : Inv base Z φ H w) (hr : EnvRel φ (Wr φ H Z) w env tmps) (h : resultsV P env H fn.results.toList = some vs) :
    ∃ v, (results fn tmps).run P w = .ok v w ∧ VRel φ (Wr φ H Z) w (resV vs) v := by
  obtain ⟨cvs, h1, h2, h3⟩ := results_list I hr _ _ h
  have hrun : ∀ k : Array Value → Sem Value, ((fn.results.mapM fun (r : ResultVar) => (match r with | .tmp t => pure (tmps.getD t undef) | .cell a t => do loadVar t (← asAddr (tmps.getD a undef)) : Sem Value)) >>= k).run P w = (k cvs.toArray).run P w := fun k => by
    rw [Array.mapM_eq_mapM_toList, Sem.run_bind, Sem.run_map, h1]
    rfl
  unfold results
  refine ⟨if h : cvs.toArray.size = 1 then cvs.toArray[0] else .tuple cvs.toArray, (hrun _).trans rfl, ?_⟩
  by_cases h1 : cvs.length = 1
  · rw [dif_pos (by simpa using h1)]
    obtain ⟨x, rfl⟩ := List.length_eq_one_iff.1 (h2.trans h1)
    obtain ⟨c, rfl⟩ := List.length_eq_one_iff.1 h1
    exact h3 0 x c rfl rfl
  · rw [dif_neg (by simpa using h1)]
    have : resV vs = .tuple vs := by
      match vs, h2 with
      | [], _ => rfl
      | [x], h2 => exact absurd h2.symm h1
      | x :: y :: r, _ => rfl
    rw [this]
    exact .tuple _ _ (by simp [h2]) fun i c v hc hv => h3 i c v hc (by simpa using hv)

theorem argEnv_get : ∀ (args : List V) (i t : Nat), (argEnv args i).get t = if i ≤ t then (args[t - i]?).getD .undef else .undef
  | [], i, t => by simp [argEnv, Env.get]
  | v :: vs, i, t => by
    simp only [argEnv, Env.get]
    by_cases h : t = i
    · subst h; simp
    · rw [if_neg h, argEnv_get vs (i + 1) t]
      by_cases hle : i ≤ t
      · rw [if_pos hle, if_pos (by omega)]
        have : t - i = (t - (i + 1)) + 1 := by omega
        rw [this]
        simp
      · rw [if_neg hle, if_neg (by omega)]

theorem args_env {W : Nat → Prop} {args : List V} {cargs : Array Value} {m : Nat} (h : ArgsRel φ W w args cargs) : EnvRel φ W w (argEnv args 0) (cargs ++ Array.replicate m undef) := fun t => by
  rw [argEnv_get, if_pos (Nat.zero_le _), Nat.sub_zero]
  cases hx : args[t]? with
  | none => exact .undef _
  | some x =>
    have hl := (List.getElem?_eq_some_iff.1 hx).1
    rw [h.1] at hl
    have hc : cargs[t]? = some cargs[t] := Array.getElem?_eq_getElem hl
    have : (cargs ++ Array.replicate m undef).getD t undef = cargs[t] := by
      simp [Array.getElem?_append_left hl, hl]
    rw [this]
    exact h.2 t x _ hx hc

theorem expo_ok {base0 : Nat} {φ0 : Place} {H0 : Heap} {w0 : World} {r r' : V} {H' : Heap} {v : Value} (I : Inv base Z φ H w) (hst : Step base H0.length φ0 (Wr φ0 H0 Z) w0 φ (Wr φ H Z) w) (hh : H0.length ≤ H.length) (hr : VRel φ (Wr φ H Z) w r v) (h : expo H0.length r H = some (r', H')) :
    Turns base Z φ0 H0 w0 H' r' v w := by
  unfold expo at h
  simp only at h
  split at h
  · rename_i H2 hp
    cases h
    have hk := pack_ok I hh hp
    exact ⟨_, hk.inv, hk.rel _ _ hr, hst.trans hk.step, hk.len⟩
  · cases h

end

end Go.Abs

namespace Go.Abs
open Go.RowKit
set_option linter.unusedVariables false
set_option linter.unusedSimpArgs false

variable {C : Ctx}

/-- What is shown of each fuel. -/
structure AllOk (C : Ctx) (n : Nat) : Prop where
  b : ∀ f args H r H', evB C n f args H = some (r, H') → FnOk C.P f ∧ ∀ base Z φ w cargs, Inv base Z φ H w → ArgsRel φ (Wr φ H Z) w args cargs →
    Calls C.P f cargs w (fun e w' => ∃ v, e = .returned v ∧ Turns base Z φ H w H' r v w')
  q : QCall C.P (evF C n true)
  e : ECall C.P (evF C n false)
  c : ∀ m f h0 c env H x env' H', evC C n f h0 c env H = some (x, env', H') → codeOk C.P m c = true → ∀ base Z φ a w, St m base Z φ env H a w → h0 ≤ H.length →
    c.wp C.P (fun e a' w' => e = x.toExit ∧ Moves m base Z h0 φ H w env' H' a' w') a w

theorem head_ok {P : Program} {ko : Option (List Nat)} {m base h0 : Nat} {Z : Nat → Prop} {φ : Place} {env env1 : Env} {H H1 : Heap} {a : Act} {w : World} (S : St m base Z φ env H a w) (hh : h0 ≤ H.length)
    (h : (match ko with | some ks => atHead h0 ks env H | none => some (env, H)) = some (env1, H1)) : ∃ φ1, St m base Z φ1 env1 H1 a w ∧ Step base h0 φ (Wr φ H Z) w φ1 (Wr φ1 H1 Z) w ∧ h0 ≤ H1.length := by
  cases ko with
  | none => cases h; exact ⟨φ, S, .refl .., hh⟩
  | some ks => exact atHead_ok S hh h

theorem all_ok (G : Good C) : ∀ n, AllOk C n := by
  intro n
  induction n using Nat.strongRecOn with
  | _ n ih =>
    cases n with
    | zero =>
      refine ⟨fun f args H r H' h => ?_, fun H xf xs r H' h => ?_, fun H xf xs r H' h => ?_, fun m f h0 c env H x env' H' h => ?_⟩
      · simp [evB] at h
      · simp [evF] at h
      · simp [evF] at h
      · simp [evC] at h
    | succ n =>
      have hn := ih n (Nat.lt_succ_self n)
      have callq : ∀ d H xf xs r H', evF C (n + 1) d xf xs H = some (r, H') → ∃ f cs, xf = .fn f cs ∧ ((∃ as bs r0 H0, sealL H (xs ++ cs) = some (as, bs) ∧ FnOk C.P f ∧ Contract C.P f as r0 H0 ∧ r = ren (shift H.length) r0 ∧ H' = (if hasRo r0 || H0.any hasRoB then freeze H bs else H) ++ H0.map (renB (shift H.length))) ∨
          (d = false ∧ (evB C n f (xs ++ cs) H = some (r, H') ∨ ∃ g, C.extE f = some g ∧ g (xs ++ cs) H = some (r, H')))) := fun d H xf xs r H' h => by
        cases xf <;> simp only [evF] at h <;> try (cases h; done)
        rename_i f cs
        refine ⟨f, cs, rfl, ?_⟩
        split at h
        · rename_i g hg
          right
          cases d with
          | true => simp at hg
          | false => exact ⟨rfl, .inr ⟨g, by simpa using hg, h⟩⟩
        split at h
        · rename_i as bs hs
          left
          split at h
          · rename_i r0 H0 hr
            cases h
            refine ⟨as, bs, r0, H0, hs, ?_⟩
            split at hr
            · rename_i g hg
              obtain ⟨h1, h2⟩ := G.ext f g hg
              exact ⟨h1, h2 _ _ _ hr, rfl, rfl⟩
            · obtain ⟨h1, h2⟩ := hn.b _ _ _ _ _ hr
              exact ⟨h1, fun base Z w cargs I hx => h2 base Z pure0 w cargs I hx, rfl, rfl⟩
          · cases h
        · right
          cases d with
          | true => simp at h
          | false => exact ⟨rfl, .inl (by simpa using h)⟩
      refine ⟨fun f args H r H' h => ?_, fun H xf xs r H' h => ?_, fun H xf xs r H' h => ?_, fun m f h0 c env H x env' H' h hc base Z φ a w S hh => ?_⟩
      · -- a function's body
        simp only [evB] at h
        split at h
        · cases h
        rename_i bd hbd
        obtain ⟨fn, g1, g2, g3, g4, g5, g6⟩ := G.body f bd hbd
        refine ⟨⟨fn, g1, g2, by rw [g3]; simp⟩, fun base Z φ w cargs I hx => ?_⟩
        split at h
        case isFalse => cases h
        rename_i hnt
        have S : St bd.ntmps base Z φ (argEnv args 0) H { tmps := cargs ++ Array.replicate (fn.ntmps - cargs.size) undef, defers := [] } w :=
          ⟨I, args_env hx, by simp [g5]; have := hx.1; omega, rfl⟩
        have fin : ∀ (x : X) (env1 : Env) (H1 : Heap), evC C n f H.length bd.code (argEnv args 0) H = some (x, env1, H1) → x.toExit = .normal ∨ x.toExit = .ret →
            (match resultsV C.P env1 H1 bd.results with | some vs => expo H.length (resV vs) H1 | none => none) = some (r, H') →
            Calls C.P f cargs w (fun e w' => ∃ v, e = .returned v ∧ Turns base Z φ H w H' r v w') := fun x env1 H1 hev hxe hres => by
          refine calls_of_wp g1 g3 (wp_mono (hn.c _ _ _ _ _ _ _ _ _ hev g6 base Z φ _ w S (Nat.le_refl _)) fun e a' w' he => ?_)
          obtain ⟨he, φ1, S1, hst, hlen⟩ := he
          split at hres
          case h_2 => cases hres
          rename_i vs hvs
          rw [← g4] at hvs
          obtain ⟨v, p1, p2⟩ := results_ok S1.inv S1.rel hvs
          have ht := expo_ok (base0 := base) S1.inv hst hlen p2 hres
          have hp : a'.defers = [] ∧ ∃ v, (results fn a'.tmps).run C.P w' = .ok v w' ∧ (∃ u, Ending.returned v = .returned u ∧ Turns base Z φ H w H' r u w') := ⟨S1.defers, v, p1, v, rfl, ht⟩
          rw [he]
          rcases hxe with hxe | hxe
          · rw [hxe]; exact hp
          · rw [hxe]; exact hp
        split at h
        · rename_i env1 H1 hev; exact fin _ _ _ hev (.inl rfl) h
        · rename_i env1 H1 hev; exact fin _ _ _ hev (.inr rfl) h
        · cases h
      · -- a call that must not write
        obtain ⟨f, cs, rfl, ⟨as, bs, r0, H0, h1, h2, h3, rfl, rfl⟩ | ⟨hd, _⟩⟩ := callq _ _ _ _ _ _ h
        · exact pure_call h2 h1 h3
        · cases hd
      · -- any call
        obtain ⟨f, cs, rfl, ⟨as, bs, r0, H0, h1, h2, h3, rfl, rfl⟩ | ⟨_, hb⟩⟩ := callq _ _ _ _ _ _ h
        · intro base Z φ w cf cxs I hf hx
          obtain ⟨hle, hp⟩ := pure_call h2 h1 h3
          obtain ⟨f', caps, fn, p1, p2, p3, p4, p5⟩ := hp base Z φ _ w cf cxs (I.le hle) (frz_rel I hle hf) ⟨hx.1, fun i x c a b => frz_rel I hle (hx.2 i x c a b)⟩ (.refl _) (unborn_new I)
          exact ⟨f', caps, fn, p1, p2, p3, p4, Calls.mono p5 fun e w' ⟨v, he, hl⟩ => ⟨v, he, leaves_turns I hle hl⟩⟩
        · intro base Z φ w cf cxs I hf hx
          have hb : FnOk C.P f ∧ ∀ base Z φ w cargs, Inv base Z φ H w → ArgsRel φ (Wr φ H Z) w (xs ++ cs) cargs → Calls C.P f cargs w (fun e w' => ∃ v, e = .returned v ∧ Turns base Z φ H w H' r v w') := by
            rcases hb with hb | ⟨g, hg, hb⟩
            · exact hn.b _ _ _ _ _ hb
            · obtain ⟨h1, h2⟩ := G.extE f g hg
              exact ⟨h1, h2 _ _ _ _ hb⟩
          obtain ⟨⟨fn, p2, p3, p4⟩, hb⟩ := hb
          obtain ⟨vs, rfl, hvs⟩ := fn_rel hf
          exact ⟨f, vs, fn, rfl, p2, p3, p4, hb base Z φ w _ I (hx.append hvs)⟩
      · -- code
        cases c <;> simp only [evC] at h <;> try (cases h; done)
        case skip => cases h; exact wp_skip ⟨rfl, .still S hh⟩
        case region id ops draw =>
          simp only [Option.map_eq_some_iff] at h
          obtain ⟨⟨env1, H1⟩, h1, h⟩ := h
          cases h
          simp only [codeOk, Bool.and_eq_true, Bool.or_eq_true, Bool.not_eq_true'] at hc
          refine region_ok G.mixed (fun hd => ?_) (fun hd => ?_) hc.1 (fun hd => ?_) S hh h1
          · rw [hd]; exact hn.e
          · rw [hd]; exact hn.q
          · rcases hc.2 with h | h
            · rw [hd] at h; cases h
            · exact h
        case seq c1 c2 =>
          simp only [codeOk, Bool.and_eq_true] at hc
          apply wp_seq
          have go : ∀ x1 env1 H1, evC C n f h0 c1 env H = some (x1, env1, H1) → (x1.toExit = .normal → evC C n f h0 c2 env1 H1 = some (x, env', H')) → (x1.toExit ≠ .normal → (x1, env1, H1) = (x, env', H')) →
              c1.wp C.P (Exit.then (c2.wp C.P fun e a' w' => e = x.toExit ∧ Moves m base Z h0 φ H w env' H' a' w') fun e a' w' => e = x.toExit ∧ Moves m base Z h0 φ H w env' H' a' w') a w := fun x1 env1 H1 h1 hnorm hother => by
            refine wp_mono (hn.c m _ _ _ _ _ _ _ _ h1 hc.1 base Z φ a w S hh) fun e a1 w1 he => ?_
            obtain ⟨he, φ1, S1, hst, hlen⟩ := he
            by_cases hx1 : x1.toExit = .normal
            · rw [he, hx1]
              exact wp_mono (hn.c m _ _ _ _ _ _ _ _ (hnorm hx1) hc.2 base Z φ1 a1 w1 S1 hlen) fun e a2 w2 he2 => ⟨he2.1, he2.2.trans hst⟩
            · have := hother hx1
              cases this
              rw [he]
              cases x with
              | normal => exact absurd rfl hx1
              | exit id => exact ⟨rfl, φ1, S1, hst, hlen⟩
              | ret => exact ⟨rfl, φ1, S1, hst, hlen⟩
          split at h
          · rename_i env1 H1 h1
            exact go _ _ _ h1 (fun _ => h) (fun hne => absurd rfl hne)
          · rename_i hne
            refine go _ _ _ h (fun hx => ?_) (fun _ => rfl)
            cases x with
            | normal => exact absurd h (hne _ _)
            | exit id => cases hx
            | ret => cases hx
        case cond cnd c1 c2 =>
          simp only [codeOk, Bool.and_eq_true] at hc
          split at h
          · rename_i t ht
            have hr := S.rel.eval cnd
            rw [ht] at hr
            refine wp_cond (isBool_of hr) (hn.c m _ _ _ _ _ _ _ _ h (by cases t; exact hc.2; exact hc.1) base Z φ a w S hh)
          · cases h
        case block id c1 =>
          simp only [codeOk] at hc
          apply wp_block
          split at h
          · rename_i j env1 H1 h1
            cases h
            refine wp_mono (hn.c m _ _ _ _ _ _ _ _ h1 hc base Z φ a w S hh) fun e a1 w1 he => ?_
            rw [he.1]
            show if j = id then _ else _
            by_cases hj : j = id
            · rw [if_pos hj]; exact ⟨by rw [if_pos hj]; rfl, he.2⟩
            · rw [if_neg hj]; exact ⟨by rw [if_neg hj]; rfl, he.2⟩
          · rename_i hne
            refine wp_mono (hn.c m _ _ _ _ _ _ _ _ h hc base Z φ a w S hh) fun e a1 w1 he => ?_
            rw [he.1]
            cases x with
            | normal => exact ⟨rfl, he.2⟩
            | exit id => exact absurd h (hne _ _ _)
            | ret => exact ⟨rfl, he.2⟩
        case loop c1 =>
          simp only [codeOk] at hc
          have h' : evC C (n + 1) f h0 (.loop c1) env H = some (x, env', H') := by simp only [evC]; exact h
          refine wp_loopJ (fun k a1 w1 => k ≤ n + 1 ∧ ∃ φ1 env1 H1, St m base Z φ1 env1 H1 a1 w1 ∧ Step base h0 φ (Wr φ H Z) w φ1 (Wr φ1 H1 Z) w1 ∧ h0 ≤ H1.length ∧ evC C k f h0 (.loop c1) env1 H1 = some (x, env', H')) (fun k a1 w1 hJ => ?_) (n := n + 1) ⟨Nat.le_refl _, φ, env, H, S, .refl .., hh, h'⟩
          obtain ⟨hk, φ1, env1, H1, S1, hst1, hl1, hev⟩ := hJ
          cases k with
          | zero => simp [evC] at hev
          | succ k =>
            simp only [evC] at hev
            split at hev
            · rename_i env2 H2 hhead
              obtain ⟨φ2, S2, hst2, hl2⟩ := head_ok (P := C.P) S1 hl1 hhead
              have hik := ih k (by omega)
              split at hev
              · rename_i env3 H3 hb
                refine wp_mono (hik.c m _ _ _ _ _ _ _ _ hb hc base Z φ2 a1 w1 S2 hl2) fun e a3 w3 he => ?_
                obtain ⟨he, φ3, S3, hst3, hl3⟩ := he
                rw [he]
                exact ⟨k, Nat.lt_succ_self k, by omega, φ3, env3, H3, S3, (hst1.trans hst2).trans hst3, hl3, hev⟩
              · rename_i hne
                refine wp_mono (hik.c m _ _ _ _ _ _ _ _ hev hc base Z φ2 a1 w1 S2 hl2) fun e a3 w3 he => ?_
                obtain ⟨he, φ3, S3, hst3, hl3⟩ := he
                rw [he]
                cases x with
                | normal => exact absurd hev (hne _ _)
                | exit id => exact ⟨rfl, φ3, S3, (hst1.trans hst2).trans hst3, hl3⟩
                | ret => exact ⟨rfl, φ3, S3, (hst1.trans hst2).trans hst3, hl3⟩
            · cases hev
        case exit id => cases h; exact wp_exit ⟨rfl, .still S hh⟩
        case ret => cases h; exact wp_ret ⟨rfl, .still S hh⟩

end Go.Abs

