/- Proved here: part 5 of a sound evaluator for the model: what it computes of a call, the call does. No condition. -/
import Derived.Test.YtpffmpllnpmkbaaA4
import GoSem.ClaimChange
import GoSem.ClaimDataLaid
import Derived.ChangeBears
import Derived.WideShapes
import Derived.Laws.AppendOwn
import Derived.Lib.Repeat
import Derived.Laws.IdiomCopy
namespace Go.Abs
open Go.RowKit
set_option linter.unusedVariables false
set_option linter.unusedSimpArgs false

theorem evOp_call {P : Program} {c1 c2 : CallV} {env : Env} {H : Heap} {o : Oper} {r : V × Heap} (h : evOp P c1 env H o = some r) (hc : ∀ f xs, c1 f xs H = some r → c2 f xs H = some r) : evOp P c2 env H o = some r := by
  obtain ⟨dst, op, type, pos, after, guard⟩ := o
  cases op
  case call c =>
    obtain ⟨callee, args, ats⟩ := c
    cases callee
    · simp only [evOp] at h ⊢; exact hc _ _ h
    · exact h
    · exact h
  case makeFunc fn _ _ => cases fn <;> exact h
  case makeMap t r => cases r <;> exact h
  case slice t x lo hi mx => cases mx <;> exact h
  all_goals exact h

theorem evOps_call {P : Program} {c1 c2 : CallV} {ops : Array Oper} (hc : ∀ f xs H r, c1 f xs H = some r → c2 f xs H = some r) : ∀ (l : List Oper) (env : Env) (H : Heap) (r : Env × Heap), evOps P c1 ops l env H = some r → evOps P c2 ops l env H = some r
  | [], env, H, r, h => h
  | o :: l, env, H, r, h => by
    simp only [evOps] at h ⊢
    cases hw : wantedV ops env o with
    | stuck => rw [hw] at h; cases h
    | no => rw [hw] at h; exact evOps_call hc l _ _ _ h
    | yes =>
      rw [hw] at h
      simp only at h ⊢
      cases he : evOp P c1 env H o with
      | none => rw [he] at h; cases h
      | some vh =>
        rw [he] at h
        rw [evOp_call he fun f xs => hc f xs H vh]
        exact evOps_call hc l _ _ _ h

structure Mono (C : Ctx) (n : Nat) : Prop where
  b : ∀ f args H r, evB C n f args H = some r → evB C (n + 1) f args H = some r
  f : ∀ d x xs H r, evF C n d x xs H = some r → evF C (n + 1) d x xs H = some r
  c : ∀ f h0 c env H r, evC C n f h0 c env H = some r → evC C (n + 1) f h0 c env H = some r

theorem mono (C : Ctx) : ∀ n, Mono C n
  | 0 => ⟨fun f args H r h => by simp [evB] at h, fun d x xs H r h => by simp [evF] at h, fun f h0 c env H r h => by simp [evC] at h⟩
  | n + 1 => by
    have ih := mono C n
    refine ⟨fun f args H r h => ?_, fun d x xs H r h => ?_, fun f h0 c env H r h => ?_⟩
    · rw [evB] at h ⊢
      split at h
      · cases h
      rename_i bd hb
      try rw [hb]
      try simp only
      split at h
      case isFalse => cases h
      rename_i hl
      rw [if_pos hl]
      cases he : evC C n f H.length bd.code (argEnv args 0) H with
      | none => rw [he] at h; cases h
      | some x => rw [he] at h; rw [ih.c _ _ _ _ _ _ he]; exact h
    · cases x with
      | fn f cs =>
        rw [evF] at h ⊢
        cases hE : (if d = true then none else C.extE f) with
        | some g => rw [hE] at h; exact h
        | none =>
        rw [hE] at h
        simp only at h ⊢
        split at h
        · rename_i as bs hs
          try simp only
          cases he : C.ext f with
          | some g => rw [he] at h; exact h
          | none =>
            rw [he] at h
            simp only at h ⊢
            cases hb : evB C n f as [] with
            | none => rw [hb] at h; cases h
            | some x => rw [hb] at h; rw [ih.b _ _ _ _ hb]; exact h
        · rename_i hs
          try simp only
          split at h
          · cases h
          · rename_i hd; rw [if_neg hd]; exact ih.b _ _ _ _ h
      | _ => simp [evF] at h
    · rw [evC.eq_def] at h ⊢
      cases c <;> simp only at h ⊢ <;> try exact h
      case region id ops draw =>
        rw [Option.map_eq_some_iff] at h ⊢
        obtain ⟨x, h1, h2⟩ := h
        exact ⟨x, evOps_call (fun f xs H r => ih.f draw f xs H r) _ _ _ _ h1, h2⟩
      case seq a b =>
        cases ha : evC C n f h0 a env H with
        | none => rw [ha] at h; cases h
        | some x =>
          rw [ha] at h
          rw [ih.c _ _ _ _ _ _ ha]
          obtain ⟨x, e, H1⟩ := x
          cases x with
          | normal => exact ih.c _ _ _ _ _ _ h
          | exit id => exact h
          | ret => exact h
      case cond cnd a b =>
        cases hv : evO env cnd <;> rw [hv] at h <;> try (cases h; done)
        exact ih.c _ _ _ _ _ _ h
      case block id b =>
        cases ha : evC C n f h0 b env H with
        | none => rw [ha] at h; cases h
        | some x => rw [ha] at h; rw [ih.c _ _ _ _ _ _ ha]; exact h
      case loop b =>
        split at h
        · rename_i e1 H1 hh
          try simp only
          cases ha : evC C n f h0 b e1 H1 with
          | none => rw [ha] at h; cases h
          | some x =>
            rw [ha] at h
            rw [ih.c _ _ _ _ _ _ ha]
            obtain ⟨x, e, H2⟩ := x
            cases x with
            | normal => exact ih.c _ _ _ _ _ _ h
            | exit id => exact h
            | ret => exact h
        · cases h

theorem mono_le {α : Type} {s : Nat → Option α} (hm : ∀ n a, s n = some a → s (n + 1) = some a) {n m : Nat} (h : n ≤ m) {a : α} (ha : s n = some a) : s m = some a := by
  induction h with
  | refl => exact ha
  | step _ ih => exact hm _ _ ih

open Classical in
/-- What a rising run ends in. -/
noncomputable def lim {α : Type} (s : Nat → Option α) : Option α := if h : ∃ a n, s n = some a then some h.choose else none

theorem lim_eq {α : Type} {s : Nat → Option α} (hm : ∀ n a, s n = some a → s (n + 1) = some a) {a : α} : lim s = some a ↔ ∃ n, s n = some a := by
  unfold lim
  constructor
  · intro h
    split at h
    · rename_i hx
      obtain ⟨n, hn⟩ := hx.choose_spec
      cases h
      exact ⟨n, hn⟩
    · cases h
  · rintro ⟨n, hn⟩
    have hx : ∃ a n, s n = some a := ⟨a, n, hn⟩
    rw [dif_pos hx]
    obtain ⟨m, hm'⟩ := hx.choose_spec
    have h1 := mono_le hm (Nat.le_max_left n m) hn
    have h2 := mono_le hm (Nat.le_max_right n m) hm'
    rw [h1] at h2
    exact h2.symm

noncomputable def bodyW (C : Ctx) (f : FuncId) (args : List V) (H : Heap) : Option (V × Heap) := lim fun n => evB C n f args H
noncomputable def callW (C : Ctx) (d : Bool) (x : V) (xs : List V) (H : Heap) : Option (V × Heap) := lim fun n => evF C n d x xs H
noncomputable def codeW (C : Ctx) (f : FuncId) (h0 : Nat) (c : Code) (env : Env) (H : Heap) : Option (X × Env × Heap) := lim fun n => evC C n f h0 c env H

section
variable {C : Ctx}

theorem bodyW_iff {f : FuncId} {args : List V} {H : Heap} {r : V × Heap} : bodyW C f args H = some r ↔ ∃ n, evB C n f args H = some r := lim_eq fun n a h => (mono C n).b _ _ _ _ h
theorem callW_iff {d : Bool} {x : V} {xs : List V} {H : Heap} {r : V × Heap} : callW C d x xs H = some r ↔ ∃ n, evF C n d x xs H = some r := lim_eq fun n a h => (mono C n).f _ _ _ _ _ h
theorem codeW_iff {f : FuncId} {h0 : Nat} {c : Code} {env : Env} {H : Heap} {r : X × Env × Heap} : codeW C f h0 c env H = some r ↔ ∃ n, evC C n f h0 c env H = some r := lim_eq fun n a h => (mono C n).c _ _ _ _ _ _ h

theorem up_b {n m : Nat} (h : n ≤ m) {f : FuncId} {args : List V} {H : Heap} {r : V × Heap} (hr : evB C n f args H = some r) : evB C m f args H = some r := mono_le (s := fun n => evB C n f args H) (fun n a h => (mono C n).b _ _ _ _ h) h hr
theorem up_f {n m : Nat} (h : n ≤ m) {d : Bool} {x : V} {xs : List V} {H : Heap} {r : V × Heap} (hr : evF C n d x xs H = some r) : evF C m d x xs H = some r := mono_le (s := fun n => evF C n d x xs H) (fun n a h => (mono C n).f _ _ _ _ _ h) h hr
theorem up_c {n m : Nat} (h : n ≤ m) {f : FuncId} {h0 : Nat} {c : Code} {env : Env} {H : Heap} {r : X × Env × Heap} (hr : evC C n f h0 c env H = some r) : evC C m f h0 c env H = some r := mono_le (s := fun n => evC C n f h0 c env H) (fun n a h => (mono C n).c _ _ _ _ _ _ h) h hr

theorem evOp_W {d : Bool} {env : Env} {H : Heap} {o : Oper} {r : V × Heap} (h : evOp C.P (callW C d) env H o = some r) : ∃ n, evOp C.P (evF C n d) env H o = some r := by
  by_cases hv : ∃ f args ats, o.op = .call ⟨.value f, args, ats⟩
  · obtain ⟨f, args, ats, ho⟩ := hv
    obtain ⟨dst, op, type, pos, after, guard⟩ := o
    simp only at ho
    subst ho
    simp only [evOp] at h ⊢
    exact callW_iff.1 h
  · refine ⟨0, ?_⟩
    obtain ⟨dst, op, type, pos, after, guard⟩ := o
    cases op
    case call c =>
      obtain ⟨callee, args, ats⟩ := c
      cases callee
      · exact absurd ⟨_, _, _, rfl⟩ hv
      · exact h
      · exact h
    case makeFunc fn _ _ => cases fn <;> exact h
    case makeMap t r => cases r <;> exact h
    case slice t x lo hi mx => cases mx <;> exact h
    all_goals exact h

theorem evOps_W {d : Bool} {ops : Array Oper} : ∀ (l : List Oper) (env : Env) (H : Heap) (r : Env × Heap), evOps C.P (callW C d) ops l env H = some r → ∃ n, evOps C.P (evF C n d) ops l env H = some r
  | [], env, H, r, h => ⟨0, h⟩
  | o :: l, env, H, r, h => by
    simp only [evOps] at h ⊢
    cases hw : wantedV ops env o with
    | stuck => rw [hw] at h; cases h
    | no => rw [hw] at h; exact evOps_W l _ _ _ h
    | yes =>
      rw [hw] at h
      simp only at h ⊢
      cases he : evOp C.P (callW C d) env H o with
      | none => rw [he] at h; cases h
      | some vh =>
        rw [he] at h
        obtain ⟨n1, h1⟩ := evOp_W he
        obtain ⟨n2, h2⟩ := evOps_W l _ _ _ h
        refine ⟨max n1 n2, ?_⟩
        rw [evOp_call h1 fun f xs hf => up_f (Nat.le_max_left n1 n2) hf]
        exact evOps_call (fun f xs H r hf => up_f (Nat.le_max_right n1 n2) hf) l _ _ _ h2

theorem evOps_W_iff {d : Bool} {ops : Array Oper} {l : List Oper} {env : Env} {H : Heap} {r : Env × Heap} : evOps C.P (callW C d) ops l env H = some r ↔ ∃ n, evOps C.P (evF C n d) ops l env H = some r :=
  ⟨evOps_W l env H r, fun ⟨n, h⟩ => evOps_call (fun f xs H r hf => callW_iff.2 ⟨n, hf⟩) l _ _ _ h⟩

theorem bodyW_def {f : FuncId} {args : List V} {H : Heap} : bodyW C f args H = match C.body f with
    | none => none
    | some fn => if args.length ≤ fn.ntmps then match codeW C f H.length fn.code (argEnv args 0) H with
        | some (.normal, env, H') | some (.ret, env, H') => match resultsV C.P env H' fn.results with
          | some vs => expo H.length (resV vs) H'
          | none => none
        | _ => none
      else none := by
  apply Option.ext
  intro r
  rw [bodyW_iff]
  constructor
  · rintro ⟨n, h⟩
    cases n with
    | zero => simp [evB] at h
    | succ n =>
      rw [evB] at h
      split at h
      · cases h
      rename_i bd hb
      try rw [hb]
      try simp only
      split at h
      case isFalse => cases h
      rename_i hl
      rw [if_pos hl]
      cases he : evC C n f H.length bd.code (argEnv args 0) H with
      | none => rw [he] at h; cases h
      | some x => rw [he] at h; rw [codeW_iff.2 ⟨n, he⟩]; exact h
  · intro h
    split at h
    · cases h
    rename_i bd hb
    split at h
    case isFalse => cases h
    rename_i hl
    cases he : codeW C f H.length bd.code (argEnv args 0) H with
    | none => rw [he] at h; cases h
    | some x =>
      rw [he] at h
      obtain ⟨n, hn⟩ := codeW_iff.1 he
      exact ⟨n + 1, by rw [evB, hb]; simp only; rw [if_pos hl, hn]; exact h⟩

theorem callW_def {d : Bool} {f : FuncId} {cs xs : List V} {H : Heap} : callW C d (.fn f cs) xs H = match (if d then none else C.extE f) with
  | some g => g (xs ++ cs) H
  | none => match sealL H (xs ++ cs) with
    | some (as, bs) =>
      match (match C.ext f with | some g => g as | none => bodyW C f as []) with
      | some (r, H') => some (ren (shift H.length) r, (if hasRo r || H'.any hasRoB then freeze H bs else H) ++ H'.map (renB (shift H.length)))
      | none => none
    | none => if d then none else bodyW C f (xs ++ cs) H := by
  apply Option.ext
  intro r
  rw [callW_iff]
  cases hE : (if d = true then none else C.extE f) with
  | some g =>
    constructor
    · rintro ⟨n, h⟩
      cases n with
      | zero => simp [evF] at h
      | succ n => rw [evF, hE] at h; exact h
    · intro h
      exact ⟨1, by rw [evF, hE]; exact h⟩
  | none =>
  simp only
  constructor
  · rintro ⟨n, h⟩
    cases n with
    | zero => simp [evF] at h
    | succ n =>
      rw [evF, hE] at h
      simp only at h
      split at h
      · rename_i as bs hs
        try rw [hs]
        try simp only
        cases he : C.ext f with
        | some g => rw [he] at h; exact h
        | none =>
          rw [he] at h
          simp only at h ⊢
          cases hb : evB C n f as [] with
          | none => rw [hb] at h; cases h
          | some x => rw [hb] at h; rw [bodyW_iff.2 ⟨n, hb⟩]; exact h
      · rename_i hs
        try rw [hs]
        try simp only
        split at h
        · cases h
        · rename_i hd; rw [if_neg hd]; exact bodyW_iff.2 ⟨n, h⟩
  · intro h
    split at h
    · rename_i as bs hs
      cases he : C.ext f with
      | some g => rw [he] at h; exact ⟨1, by rw [evF, hE]; simp only; rw [hs]; simp only; rw [he]; exact h⟩
      | none =>
        rw [he] at h
        simp only at h
        cases hb : bodyW C f as [] with
        | none => rw [hb] at h; cases h
        | some x =>
          rw [hb] at h
          obtain ⟨n, hn⟩ := bodyW_iff.1 hb
          exact ⟨n + 1, by rw [evF, hE]; simp only; rw [hs]; simp only; rw [he]; simp only; rw [hn]; exact h⟩
    · rename_i hs
      split at h
      · cases h
      · rename_i hd
        obtain ⟨n, hn⟩ := bodyW_iff.1 h
        exact ⟨n + 1, by rw [evF, hE]; simp only; rw [hs]; simp only; rw [if_neg hd]; exact hn⟩

/-- A loop's head. -/
def headE (C : Ctx) (f : FuncId) (h0 : Nat) (b : Code) (env : Env) (H : Heap) : Option (Env × Heap) := match C.keep f (loopKey b) with
  | some ks => atHead h0 ks env H
  | none => some (env, H)

theorem evC_loop {n : Nat} {f : FuncId} {h0 : Nat} {b : Code} {env : Env} {H : Heap} : evC C (n + 1) f h0 (.loop b) env H = match headE C f h0 b env H with
    | some (env, H) => match evC C n f h0 b env H with
      | some (.normal, env', H') => evC C n f h0 (.loop b) env' H'
      | r => r
    | none => none := by
  rw [evC]
  unfold headE
  cases C.keep f (loopKey b) <;> rfl

/-- The state behind a loop's head. -/
noncomputable def loopW (C : Ctx) (f : FuncId) (h0 : Nat) (b : Code) (env : Env) (H : Heap) : Option (X × Env × Heap) := match codeW C f h0 b env H with
  | some (.normal, env', H') => codeW C f h0 (.loop b) env' H'
  | r => r

theorem codeW_skip {f : FuncId} {h0 : Nat} {env : Env} {H : Heap} : codeW C f h0 .skip env H = some (.normal, env, H) := codeW_iff.2 ⟨1, by rw [evC]⟩
theorem codeW_exit {f : FuncId} {h0 id : Nat} {env : Env} {H : Heap} : codeW C f h0 (.exit id) env H = some (.exit id, env, H) := codeW_iff.2 ⟨1, by rw [evC]⟩
theorem codeW_ret {f : FuncId} {h0 : Nat} {env : Env} {H : Heap} : codeW C f h0 .ret env H = some (.ret, env, H) := codeW_iff.2 ⟨1, by rw [evC]⟩

theorem codeW_region {f : FuncId} {h0 id : Nat} {ops : Array Oper} {draw : Bool} {env : Env} {H : Heap} : codeW C f h0 (.region id ops draw) env H = (evOps C.P (callW C draw) ops ops.toList env H).map fun (env', H') => (.normal, env', H') := by
  apply Option.ext
  intro r
  rw [codeW_iff, Option.map_eq_some_iff]
  constructor
  · rintro ⟨n, h⟩
    cases n with
    | zero => simp [evC] at h
    | succ n =>
      rw [evC, Option.map_eq_some_iff] at h
      obtain ⟨x, h1, h2⟩ := h
      exact ⟨x, evOps_W_iff.2 ⟨n, h1⟩, h2⟩
  · rintro ⟨x, h1, h2⟩
    obtain ⟨n, hn⟩ := evOps_W_iff.1 h1
    exact ⟨n + 1, by rw [evC, Option.map_eq_some_iff]; exact ⟨x, hn, h2⟩⟩

theorem codeW_seq {f : FuncId} {h0 : Nat} {a b : Code} {env : Env} {H : Heap} : codeW C f h0 (.seq a b) env H = match codeW C f h0 a env H with
    | some (.normal, env', H') => codeW C f h0 b env' H'
    | r => r := by
  apply Option.ext
  intro r
  rw [codeW_iff]
  constructor
  · rintro ⟨n, h⟩
    cases n with
    | zero => simp [evC] at h
    | succ n =>
      rw [evC] at h
      cases ha : evC C n f h0 a env H with
      | none => rw [ha] at h; cases h
      | some x =>
        rw [ha] at h
        rw [codeW_iff.2 ⟨n, ha⟩]
        obtain ⟨x, e, H1⟩ := x
        cases x with
        | normal => exact codeW_iff.2 ⟨n, h⟩
        | exit id => exact h
        | ret => exact h
  · intro h
    cases ha : codeW C f h0 a env H with
    | none => rw [ha] at h; cases h
    | some x =>
      rw [ha] at h
      obtain ⟨n, hn⟩ := codeW_iff.1 ha
      obtain ⟨x, e, H1⟩ := x
      cases x with
      | normal =>
        obtain ⟨m, hm⟩ := codeW_iff.1 h
        exact ⟨max n m + 1, by rw [evC, up_c (Nat.le_max_left n m) hn]; exact up_c (Nat.le_max_right n m) hm⟩
      | exit id => exact ⟨n + 1, by rw [evC, hn]; exact h⟩
      | ret => exact ⟨n + 1, by rw [evC, hn]; exact h⟩

theorem codeW_cond {f : FuncId} {h0 : Nat} {c : Operand} {a b : Code} {env : Env} {H : Heap} : codeW C f h0 (.cond c a b) env H = match evO env c with
    | .bool t => codeW C f h0 (if t then a else b) env H
    | _ => none := by
  apply Option.ext
  intro r
  rw [codeW_iff]
  constructor
  · rintro ⟨n, h⟩
    cases n with
    | zero => simp [evC] at h
    | succ n =>
      rw [evC] at h
      cases hv : evO env c <;> rw [hv] at h <;> try (cases h; done)
      exact codeW_iff.2 ⟨n, h⟩
  · intro h
    cases hv : evO env c <;> rw [hv] at h <;> try (cases h; done)
    obtain ⟨n, hn⟩ := codeW_iff.1 h
    exact ⟨n + 1, by rw [evC, hv]; exact hn⟩

theorem codeW_block {f : FuncId} {h0 id : Nat} {b : Code} {env : Env} {H : Heap} : codeW C f h0 (.block id b) env H = match codeW C f h0 b env H with
    | some (.exit j, env', H') => some (if j = id then .normal else .exit j, env', H')
    | r => r := by
  apply Option.ext
  intro r
  rw [codeW_iff]
  constructor
  · rintro ⟨n, h⟩
    cases n with
    | zero => simp [evC] at h
    | succ n =>
      rw [evC] at h
      cases ha : evC C n f h0 b env H with
      | none => rw [ha] at h; cases h
      | some x => rw [ha] at h; rw [codeW_iff.2 ⟨n, ha⟩]; exact h
  · intro h
    cases ha : codeW C f h0 b env H with
    | none => rw [ha] at h; cases h
    | some x =>
      rw [ha] at h
      obtain ⟨n, hn⟩ := codeW_iff.1 ha
      exact ⟨n + 1, by rw [evC, hn]; exact h⟩

theorem codeW_loop {f : FuncId} {h0 : Nat} {b : Code} {env : Env} {H : Heap} : codeW C f h0 (.loop b) env H = match headE C f h0 b env H with
    | some (env, H) => loopW C f h0 b env H
    | none => none := by
  apply Option.ext
  intro r
  rw [codeW_iff]
  constructor
  · rintro ⟨n, h⟩
    cases n with
    | zero => simp [evC] at h
    | succ n =>
      rw [evC_loop] at h
      split at h
      · rename_i e1 H1 hh
        try simp only
        unfold loopW
        cases ha : evC C n f h0 b e1 H1 with
        | none => rw [ha] at h; cases h
        | some x =>
          rw [ha] at h
          rw [codeW_iff.2 ⟨n, ha⟩]
          obtain ⟨x, e, H2⟩ := x
          cases x with
          | normal => exact codeW_iff.2 ⟨n, h⟩
          | exit id => exact h
          | ret => exact h
      · cases h
  · intro h
    split at h
    · rename_i e1 H1 hh
      unfold loopW at h
      cases ha : codeW C f h0 b e1 H1 with
      | none => rw [ha] at h; cases h
      | some x =>
        rw [ha] at h
        obtain ⟨n, hn⟩ := codeW_iff.1 ha
        obtain ⟨x, e, H2⟩ := x
        cases x with
        | normal =>
          obtain ⟨m, hm⟩ := codeW_iff.1 h
          exact ⟨max n m + 1, by rw [evC_loop, hh]; simp only; rw [up_c (Nat.le_max_left n m) hn]; exact up_c (Nat.le_max_right n m) hm⟩
        | exit id => exact ⟨n + 1, by rw [evC_loop, hh]; simp only; rw [hn]; exact h⟩
        | ret => exact ⟨n + 1, by rw [evC_loop, hh]; simp only; rw [hn]; exact h⟩
    · cases h

end

end Go.Abs

namespace Go.Abs
open Go.RowKit
set_option linter.unusedVariables false
set_option linter.unusedSimpArgs false

/-- Code runs, and in the end Q holds. -/
def Runs (C : Ctx) (f : FuncId) (h0 : Nat) (c : Code) (env : Env) (H : Heap) (Q : X → Env → Heap → Prop) : Prop :=
  ∃ x env' H', codeW C f h0 c env H = some (x, env', H') ∧ Q x env' H'

def Ops (C : Ctx) (d : Bool) (ops : Array Oper) (l : List Oper) (env : Env) (H : Heap) (N : Env → Heap → Prop) : Prop :=
  ∃ env' H', evOps C.P (callW C d) ops l env H = some (env', H') ∧ N env' H'

def Next (N : Env → Heap → Prop) (Q : X → Env → Heap → Prop) : X → Env → Heap → Prop
  | .normal, e, h => N e h
  | x, e, h => Q x e h

def InBlock (id : Nat) (Q : X → Env → Heap → Prop) : X → Env → Heap → Prop
  | .exit j, e, h => Q (if j = id then .normal else .exit j) e h
  | x, e, h => Q x e h

section
variable {C : Ctx} {f : FuncId} {h0 : Nat} {env : Env} {H : Heap} {Q : X → Env → Heap → Prop} {N : Env → Heap → Prop} {d : Bool} {ops : Array Oper}

theorem runs_skip (h : Q .normal env H) : Runs C f h0 .skip env H Q := ⟨_, _, _, codeW_skip, h⟩
theorem runs_ret (h : Q .ret env H) : Runs C f h0 .ret env H Q := ⟨_, _, _, codeW_ret, h⟩
theorem runs_exit {id : Nat} (h : Q (.exit id) env H) : Runs C f h0 (.exit id) env H Q := ⟨_, _, _, codeW_exit, h⟩

theorem runs_seq {a b : Code} (h : Runs C f h0 a env H (Next (fun e h => Runs C f h0 b e h Q) Q)) : Runs C f h0 (.seq a b) env H Q := by
  obtain ⟨x, e, h1, h2, h3⟩ := h
  cases x with
  | normal =>
    obtain ⟨x', e', h', p1, p2⟩ := h3
    exact ⟨x', e', h', by rw [codeW_seq, h2]; exact p1, p2⟩
  | exit id => exact ⟨_, _, _, by rw [codeW_seq, h2], h3⟩
  | ret => exact ⟨_, _, _, by rw [codeW_seq, h2], h3⟩

theorem runs_block {id : Nat} {b : Code} (h : Runs C f h0 b env H (InBlock id Q)) : Runs C f h0 (.block id b) env H Q := by
  obtain ⟨x, e, h1, h2, h3⟩ := h
  cases x with
  | normal => exact ⟨_, _, _, by rw [codeW_block, h2], h3⟩
  | exit id => exact ⟨_, _, _, by rw [codeW_block, h2], h3⟩
  | ret => exact ⟨_, _, _, by rw [codeW_block, h2], h3⟩

theorem runs_cond {c : Operand} {a b : Code} {t : Bool} (hc : evO env c = .bool t) (ht : t = true → Runs C f h0 a env H Q) (hf : t = false → Runs C f h0 b env H Q) : Runs C f h0 (.cond c a b) env H Q := by
  have key : Runs C f h0 (if t then a else b) env H Q := by cases t; exact hf rfl; exact ht rfl
  obtain ⟨x, e, h1, h2, h3⟩ := key
  exact ⟨x, e, h1, by rw [codeW_cond, hc]; exact h2, h3⟩

theorem runs_region {id : Nat} (h : Ops C d ops ops.toList env H (Q .normal)) : Runs C f h0 (.region id ops d) env H Q := by
  obtain ⟨e, h1, h2, h3⟩ := h
  exact ⟨_, _, _, by rw [codeW_region, h2]; rfl, h3⟩

theorem ops_nil (h : N env H) : Ops C d ops [] env H N := ⟨_, _, rfl, h⟩

theorem ops_yes {o : Oper} {r : List Oper} {v : V} {H' : Heap} (hw : wantedV ops env o = .yes) (he : evOp C.P (callW C d) env H o = some (v, H')) (h : Ops C d ops r (env.put o.dst v) H' N) : Ops C d ops (o :: r) env H N := by
  obtain ⟨e, h1, h2, h3⟩ := h
  exact ⟨e, h1, by simp only [evOps, hw, he]; exact h2, h3⟩

theorem ops_no {o : Oper} {r : List Oper} (hw : wantedV ops env o = .no) (h : Ops C d ops r (env.put o.dst (.tuple [])) H N) : Ops C d ops (o :: r) env H N := by
  obtain ⟨e, h1, h2, h3⟩ := h
  exact ⟨e, h1, by simp only [evOps, hw]; exact h2, h3⟩

theorem runs_loop {b : Code} (J : Nat → Env → Heap → Prop) {e0 : Env} {H0 : Heap} {n : Nat} (hh : headE C f h0 b env H = some (e0, H0)) (hJ : J n e0 H0)
    (round : ∀ n e h, J n e h → Runs C f h0 b e h (Next (fun e' h' => ∃ m e1 h1, headE C f h0 b e' h' = some (e1, h1) ∧ m < n ∧ J m e1 h1) Q)) : Runs C f h0 (.loop b) env H Q := by
  have key : ∀ n e h, J n e h → ∃ x e' h', loopW C f h0 b e h = some (x, e', h') ∧ Q x e' h' := by
    intro n
    induction n using Nat.strongRecOn with
    | _ n ih =>
      intro e h hJ
      obtain ⟨x, e1, h1, p1, p2⟩ := round n e h hJ
      cases x with
      | normal =>
        obtain ⟨m, e2, h2, q1, q2, q3⟩ := p2
        obtain ⟨x', e', h', r1, r2⟩ := ih m q2 e2 h2 q3
        refine ⟨x', e', h', ?_, r2⟩
        unfold loopW
        rw [p1]
        simp only
        rw [codeW_loop, q1]
        exact r1
      | exit id => exact ⟨_, _, _, by unfold loopW; rw [p1], p2⟩
      | ret => exact ⟨_, _, _, by unfold loopW; rw [p1], p2⟩
  obtain ⟨x, e', h', r1, r2⟩ := key n e0 H0 hJ
  exact ⟨x, e', h', by rw [codeW_loop, hh]; exact r1, r2⟩

theorem Runs.mono {c : Code} {Q' : X → Env → Heap → Prop} (h : Runs C f h0 c env H Q) (hq : ∀ x e h, Q x e h → Q' x e h) : Runs C f h0 c env H Q' := by
  obtain ⟨x, e, h1, p1, p2⟩ := h
  exact ⟨x, e, h1, p1, hq _ _ _ p2⟩

/-- How a body ends. -/
def Ends (C : Ctx) (rs : List ResultVar) (h0 : Nat) (R : V → Heap → Prop) : X → Env → Heap → Prop
  | .exit _, _, _ => False
  | _, env, H => ∃ vs r H', resultsV C.P env H rs = some vs ∧ expo h0 (resV vs) H = some (r, H') ∧ R r H'

/-- A function's body runs. -/
def Body.Gives (C : Ctx) (f : FuncId) (args : List V) (H : Heap) (R : V → Heap → Prop) : Prop := ∃ r H', bodyW C f args H = some (r, H') ∧ R r H'

theorem gives_body {fn : Body} {args : List V} {R : V → Heap → Prop} (hb : C.body f = some fn) (hl : args.length ≤ fn.ntmps) (h : Runs C f H.length fn.code (argEnv args 0) H (Ends C fn.results H.length R)) : Body.Gives C f args H R := by
  obtain ⟨x, e, h1, p1, p2⟩ := h
  unfold Body.Gives
  rw [bodyW_def, hb]
  simp only
  rw [if_pos hl, p1]
  cases x with
  | exit id => exact p2.elim
  | normal =>
    obtain ⟨vs, r, H', q1, q2, q3⟩ := p2
    simp only
    rw [q1]
    exact ⟨r, H', q2, q3⟩
  | ret =>
    obtain ⟨vs, r, H', q1, q2, q3⟩ := p2
    simp only
    rw [q1]
    exact ⟨r, H', q2, q3⟩

end

end Go.Abs

namespace Go.Abs
open Go.RowKit
set_option linter.unusedVariables false
set_option linter.unusedSimpArgs false

/-- An operation without its place in the text. -/
structure Sop where
  dst : Option Nat
  op : Op
  type : Nat
  guard : Option (Option Nat × Bool)

inductive SC where
  | skip | ret | bad
  | exit (id : Nat)
  | region (draw : Bool) (ops : List Sop)
  | seq (a b : SC)
  | cond (c : Operand) (a b : SC)
  | block (id : Nat) (b : SC)
  | loop (key : Nat) (b : SC)

def sopOf (ops : Array Oper) (o : Oper) : Sop := ⟨o.dst, o.op, o.type, o.guard.map fun g => ((ops[g.1]?).bind (·.dst), g.2)⟩

def scOf : Code → SC
  | .skip => .skip
  | .ret => .ret
  | .exit id => .exit id
  | .region _ ops draw => .region draw (ops.toList.map (sopOf ops))
  | .seq a b => .seq (scOf a) (scOf b)
  | .cond c a b => .cond c (scOf a) (scOf b)
  | .block id b => .block id (scOf b)
  | .loop b => .loop (loopKey b) (scOf b)
  | _ => .bad

/-- One operation. -/
def ev1 (P : Program) (call : CallV) (env : Env) (H : Heap) (op : Op) (t : Nat) : Option (V × Heap) := evOp P call env H ⟨none, op, t, "", #[], none⟩

theorem ev1_eq {P : Program} {call : CallV} {env : Env} {H : Heap} {o : Oper} : evOp P call env H o = ev1 P call env H o.op o.type := by
  obtain ⟨dst, op, type, pos, after, guard⟩ := o
  cases op
  case call c => obtain ⟨callee, args, ats⟩ := c; cases callee <;> rfl
  case makeFunc fn _ _ => cases fn <;> rfl
  case makeMap t r => cases r <;> rfl
  case slice t x lo hi mx => cases mx <;> rfl
  all_goals rfl

/-- Is an operation to run? -/
def want1 (env : Env) : Option (Option Nat × Bool) → Wanted
  | none => .yes
  | some (none, _) => .no
  | some (some d, want) => match env.get d with
    | .bool b => if b = want then .yes else .no
    | .tuple [] => .no
    | _ => .stuck

theorem want1_eq {ops : Array Oper} {env : Env} {o : Oper} : wantedV ops env o = want1 env (sopOf ops o).guard := by
  unfold wantedV sopOf
  cases o.guard with
  | none => rfl
  | some g =>
    obtain ⟨j, w⟩ := g
    simp only [Option.map_some]
    cases (ops[j]?).bind (·.dst) <;> rfl

def evS (P : Program) (call : CallV) : List Sop → Env → Heap → Option (Env × Heap)
  | [], env, H => some (env, H)
  | o :: r, env, H => match want1 env o.guard with
    | .yes => match ev1 P call env H o.op o.type with
      | some (v, H') => evS P call r (env.put o.dst v) H'
      | none => none
    | .no => evS P call r (env.put o.dst (.tuple [])) H
    | .stuck => none

theorem evS_eq {P : Program} {call : CallV} {ops : Array Oper} : ∀ {l : List Oper} {env : Env} {H : Heap}, evOps P call ops l env H = evS P call (l.map (sopOf ops)) env H
  | [], env, H => rfl
  | o :: r, env, H => by
    simp only [evOps, evS, List.map_cons, want1_eq, ev1_eq]
    simp only [show (sopOf ops o).op = o.op from rfl, show (sopOf ops o).type = o.type from rfl, show (sopOf ops o).dst = o.dst from rfl]
    cases want1 env (sopOf ops o).guard with
    | yes =>
      simp only
      cases ev1 P call env H o.op o.type with
      | none => rfl
      | some vh => exact evS_eq
    | no => exact evS_eq
    | stuck => rfl

section
variable {C : Ctx} {f : FuncId} {h0 : Nat} {env : Env} {H : Heap} {Q : X → Env → Heap → Prop} {N : Env → Heap → Prop} {d : Bool}

/-- Code of this form runs, and in the end Q holds. -/
def Go1 (C : Ctx) (f : FuncId) (h0 : Nat) (s : SC) (env : Env) (H : Heap) (Q : X → Env → Heap → Prop) : Prop := ∀ c, scOf c = s → Runs C f h0 c env H Q

def Op1 (C : Ctx) (d : Bool) (l : List Sop) (env : Env) (H : Heap) (N : Env → Heap → Prop) : Prop :=
  ∃ env' H', evS C.P (callW C d) l env H = some (env', H') ∧ N env' H'

theorem go_skip (h : Q .normal env H) : Go1 C f h0 .skip env H Q := fun c hc => by
  cases c <;> simp only [scOf] at hc <;> first | exact runs_skip h | cases hc
theorem go_ret (h : Q .ret env H) : Go1 C f h0 .ret env H Q := fun c hc => by
  cases c <;> simp only [scOf] at hc <;> first | exact runs_ret h | cases hc
theorem go_exit {id : Nat} (h : Q (.exit id) env H) : Go1 C f h0 (.exit id) env H Q := fun c hc => by
  cases c <;> simp only [scOf] at hc <;> first | (cases hc; exact runs_exit h) | cases hc
theorem go_seq {a b : SC} (h : Go1 C f h0 a env H (Next (fun e h => Go1 C f h0 b e h Q) Q)) : Go1 C f h0 (.seq a b) env H Q := fun c hc => by
  cases c <;> simp only [scOf] at hc <;> try (cases hc; done)
  rename_i c1 c2
  cases hc
  exact runs_seq ((h c1 rfl).mono fun x e h hx => by
    cases x with
    | normal => exact hx c2 rfl
    | exit id => exact hx
    | ret => exact hx)
theorem go_block {id : Nat} {b : SC} (h : Go1 C f h0 b env H (InBlock id Q)) : Go1 C f h0 (.block id b) env H Q := fun c hc => by
  cases c <;> simp only [scOf] at hc <;> try (cases hc; done)
  rename_i id' c1
  cases hc
  exact runs_block (h c1 rfl)
theorem go_cond {cd : Operand} {a b : SC} (t : Bool) (hc : evO env cd = .bool t) (ht : t = true → Go1 C f h0 a env H Q) (hf : t = false → Go1 C f h0 b env H Q) : Go1 C f h0 (.cond cd a b) env H Q := fun c hcc => by
  cases c <;> simp only [scOf] at hcc <;> try (cases hcc; done)
  rename_i cd' c1 c2
  cases hcc
  exact runs_cond hc (fun h => ht h c1 rfl) (fun h => hf h c2 rfl)
theorem go_region {l : List Sop} (h : Op1 C d l env H (Q .normal)) : Go1 C f h0 (.region d l) env H Q := fun c hc => by
  cases c <;> simp only [scOf] at hc <;> try (cases hc; done)
  rename_i id ops d'
  cases hc
  obtain ⟨e, h1, h2, h3⟩ := h
  exact runs_region ⟨e, h1, by rw [evS_eq]; exact h2, h3⟩

theorem op_nil (h : N env H) : Op1 C d [] env H N := ⟨_, _, rfl, h⟩
theorem op_yes {dst : Option Nat} {op : Op} {t : Nat} {g : Option (Option Nat × Bool)} {r : List Sop} {v : V} {H' : Heap} (hw : want1 env g = .yes) (he : ev1 C.P (callW C d) env H op t = some (v, H')) (h : Op1 C d r (env.put dst v) H' N) : Op1 C d (⟨dst, op, t, g⟩ :: r) env H N := by
  obtain ⟨e, h1, h2, h3⟩ := h
  exact ⟨e, h1, by simp only [evS, hw, he]; exact h2, h3⟩
theorem op_no {dst : Option Nat} {op : Op} {t : Nat} {g : Option (Option Nat × Bool)} {r : List Sop} (hw : want1 env g = .no) (h : Op1 C d r (env.put dst (.tuple [])) H N) : Op1 C d (⟨dst, op, t, g⟩ :: r) env H N := by
  obtain ⟨e, h1, h2, h3⟩ := h
  exact ⟨e, h1, by simp only [evS, hw]; exact h2, h3⟩

def headK (C : Ctx) (f : FuncId) (h0 key : Nat) (env : Env) (H : Heap) : Option (Env × Heap) := match C.keep f key with
  | some ks => atHead h0 ks env H
  | none => some (env, H)

theorem go_loop {b : SC} {key : Nat} (J : Nat → Env → Heap → Prop) {e0 : Env} {H0 : Heap} {n : Nat} (hh : headK C f h0 key env H = some (e0, H0)) (hJ : J n e0 H0)
    (round : ∀ n e h, J n e h → Go1 C f h0 b e h (Next (fun e' h' => ∃ m e1 h1, headK C f h0 key e' h' = some (e1, h1) ∧ m < n ∧ J m e1 h1) Q)) : Go1 C f h0 (.loop key b) env H Q := fun c hc => by
  cases c <;> simp only [scOf] at hc <;> try (cases hc; done)
  rename_i c1
  cases hc
  exact runs_loop J hh hJ fun n e h hJ => round n e h hJ c1 rfl

theorem go_body {fn : Body} {args : List V} {R : V → Heap → Prop} {s : SC} (hb : C.body f = some fn) (hs : scOf fn.code = s) (hl : args.length ≤ fn.ntmps) (h : Go1 C f H.length s (argEnv args 0) H (Ends C fn.results H.length R)) : Body.Gives C f args H R :=
  gives_body hb hl (h fn.code hs)

end

end Go.Abs

namespace Go.Abs
open Go.RowKit
set_option linter.unusedVariables false

/-- An evaluation's outcome. -/
def Is {α : Type} (a : Option α) (b : α) : Prop := a = some b
theorem is_rfl {α : Type} {b : α} : Is (some b) b := rfl
theorem is_ok {C : Ctx} {d : Bool} {env : Env} {H H' : Heap} {N : Env → Heap → Prop} {dst : Option Nat} {op : Op} {t : Nat} {g : Option (Option Nat × Bool)} {r : List Sop} {v : V} (hw : want1 env g = .yes) (he : Is (ev1 C.P (callW C d) env H op t) (v, H')) (h : Op1 C d r (env.put dst v) H' N) : Op1 C d (⟨dst, op, t, g⟩ :: r) env H N := op_yes hw he h

section
variable {P : Program} {call : CallV} {env : Env} {H : Heap} {ty : Nat}

@[simp] theorem Env.get_put_lit (e : Env) (d t : Nat) (v : V) : (e.put (some d) v).get t = if t = d then v else e.get t := rfl
@[simp] theorem Env.put_none (e : Env) (v : V) : e.put none v = e := rfl
@[simp] theorem Env.get_nil (t : Nat) : Env.get [] t = .undef := rfl
@[simp] theorem Env.get_cons (d t : Nat) (v : V) (e : List (Nat × V)) : Env.get ((d, v) :: e) t = if t = d then v else Env.get e t := rfl
@[simp] theorem argEnv_nil (i : Nat) : argEnv [] i = [] := rfl
@[simp] theorem argEnv_cons (v : V) (vs : List V) (i : Nat) : argEnv (v :: vs) i = (i, v) :: argEnv vs (i + 1) := rfl
@[simp] theorem evO_tmp (t : Nat) : evO env (.tmp t) = env.get t := rfl
@[simp] theorem evO_func (f : Nat) : evO env (.func f) = .fn f [] := rfl
@[simp] theorem evO_bool (b : Bool) : evO env (.const (.bool b)) = .bool b := rfl
@[simp] theorem evO_int (k : IntKind) (n : Int) : evO env (.const (.int k n)) = .int k n := rfl
@[simp] theorem evO_str (s : ByteArray) : evO env (.const (.string s)) = .str s.data.toList := rfl
@[simp] theorem evO_nil : evO env (.const (.slice none 0 0)) = .nils := rfl
@[simp] theorem evO_nilm : evO env (.const (.map none)) = .nilm := rfl
@[simp] theorem evO_agg (cs : List Value) : evO env (.const (.agg ⟨cs⟩)) = ofVal (.agg ⟨cs⟩) := rfl
@[simp] theorem want1_none : want1 env none = .yes := rfl
@[simp] theorem cells_agg (cs : List V) : (V.agg cs).cells = cs := rfl
@[simp] theorem cells_bool (b : Bool) : (V.bool b).cells = [.bool b] := rfl
@[simp] theorem cells_int (k : IntKind) (n : Int) : (V.int k n).cells = [.int k n] := rfl
@[simp] theorem cells_str (s : List UInt8) : (V.str s).cells = [.str s] := rfl
@[simp] theorem cells_nils : V.nils.cells = [.nils] := rfl
@[simp] theorem cells_nilm : V.nilm.cells = [.nilm] := rfl
@[simp] theorem cells_sl (es : List V) : (V.sl es).cells = [.sl es] := rfl
@[simp] theorem cells_own (b t o l : Nat) : (V.own b t o l).cells = [.own b t o l] := rfl
@[simp] theorem cells_ptr (b t o l : Nat) : (V.ptr b t o l).cells = [.ptr b t o l] := rfl
@[simp] theorem cells_map (b : Nat) : (V.map b).cells = [.map b] := rfl
@[simp] theorem cells_mapr (a b : List V) : (V.mapr a b).cells = [.mapr a b] := rfl
@[simp] theorem st_agg (cs : List V) : (V.agg cs).storable = true := rfl
@[simp] theorem st_bool (b : Bool) : (V.bool b).storable = true := rfl
@[simp] theorem st_int (k : IntKind) (n : Int) : (V.int k n).storable = true := rfl
@[simp] theorem st_str (s : List UInt8) : (V.str s).storable = true := rfl
@[simp] theorem st_nils : V.nils.storable = true := rfl
@[simp] theorem st_nilm : V.nilm.storable = true := rfl
@[simp] theorem st_sl (es : List V) : (V.sl es).storable = true := rfl
@[simp] theorem st_own (b t o l : Nat) : (V.own b t o l).storable = true := rfl
@[simp] theorem st_ptr (b t o l : Nat) : (V.ptr b t o l).storable = true := rfl
@[simp] theorem st_map (b : Nat) : (V.map b).storable = true := rfl
@[simp] theorem st_mapr (a b : List V) : (V.mapr a b).storable = true := rfl
@[simp] theorem ag_agg (cs : List V) : (V.agg cs).isAgg = true := rfl
@[simp] theorem ag_bool (b : Bool) : (V.bool b).isAgg = false := rfl
@[simp] theorem ag_int (k : IntKind) (n : Int) : (V.int k n).isAgg = false := rfl
@[simp] theorem ag_str (s : List UInt8) : (V.str s).isAgg = false := rfl
@[simp] theorem ag_nils : V.nils.isAgg = false := rfl
@[simp] theorem ag_nilm : V.nilm.isAgg = false := rfl
@[simp] theorem ag_sl (es : List V) : (V.sl es).isAgg = false := rfl
@[simp] theorem ag_own (b t o l : Nat) : (V.own b t o l).isAgg = false := rfl
@[simp] theorem ag_ptr (b t o l : Nat) : (V.ptr b t o l).isAgg = false := rfl
@[simp] theorem ag_map (b : Nat) : (V.map b).isAgg = false := rfl
@[simp] theorem ag_mapr (a b : List V) : (V.mapr a b).isAgg = false := rfl
@[simp] theorem Next_normal {N : Env → Heap → Prop} {Q : X → Env → Heap → Prop} : Next N Q .normal = N := rfl
@[simp] theorem Next_ret {N : Env → Heap → Prop} {Q : X → Env → Heap → Prop} {e : Env} {h : Heap} : Next N Q .ret e h = Q .ret e h := rfl
@[simp] theorem Next_exit {N : Env → Heap → Prop} {Q : X → Env → Heap → Prop} {i : Nat} {e : Env} {h : Heap} : Next N Q (.exit i) e h = Q (.exit i) e h := rfl
@[simp] theorem InBlock_normal {i : Nat} {Q : X → Env → Heap → Prop} {e : Env} {h : Heap} : InBlock i Q .normal e h = Q .normal e h := rfl
@[simp] theorem InBlock_ret {i : Nat} {Q : X → Env → Heap → Prop} {e : Env} {h : Heap} : InBlock i Q .ret e h = Q .ret e h := rfl
@[simp] theorem InBlock_exit {i j : Nat} {Q : X → Env → Heap → Prop} {e : Env} {h : Heap} : InBlock i Q (.exit j) e h = Q (if j = i then .normal else .exit j) e h := rfl

@[simp] theorem ev1_move (x : Operand) : ev1 P call env H (.move x) ty = some (evO env x, H) := rfl
@[simp] theorem ev1_assign (x : Operand) : ev1 P call env H (.assign x) ty = some (ownify (slotSize P ty) (evO env x) H) := rfl
@[simp] theorem ev1_pick (c a b : Operand) : ev1 P call env H (.pick c a b) ty = match evO env c with
    | .bool t => some (if t then evO env a else evO env b, H)
    | _ => none := rfl
@[simp] theorem ev1_box (t : Nat) (x : Operand) : ev1 P call env H (.box t x) ty = if (P.info? t).map (·.size) = some (evO env x).cells.length ∧ (evO env x).storable = true ∧ (evO env x).cells ≠ [] then some (.ptr H.length 1 0 0, H ++ [.box (evO env x)]) else none := rfl
@[simp] theorem ev1_build (t : Nat) (ps : List (Nat × Operand)) : ev1 P call env H (.build t ⟨ps⟩) ty = (buildV P t (ps.map fun p => (p.1, evO env p.2))).map fun v => (v, H) := rfl
@[simp] theorem ev1_buildSlice (t n : Nat) (ps : List (Nat × Operand)) : ev1 P call env H (.buildSlice t n ⟨ps⟩) ty = buildSliceV P t n (ps.map fun p => (p.1, evO env p.2)) H := rfl
@[simp] theorem ev1_load (t : Nat) (a : Operand) : ev1 P call env H (.load t a) ty = (loadV P t (evO env a) H).map fun v => (v, H) := rfl
@[simp] theorem ev1_store (t : Nat) (a x : Operand) : ev1 P call env H (.store t a x) ty = (storeV P t (evO env a) (evO env x) H).map fun H' => (.tuple [], H') := rfl
@[simp] theorem ev1_nilCheck (x : Operand) : ev1 P call env H (.nilCheck x) ty = match evO env x with
    | .ptr b t i o => if live H b t then some (.ptr b t i o, H) else none
    | .rop v => some (.rop v, H)
    | .fn f cs => some (.fn f cs, H)
    | _ => none := rfl
@[simp] theorem ev1_binOp (op : BinOp) (t u : Nat) (x y : Operand) : ev1 P call env H (.binOp op t x y u) ty = (binV P op t (evO env x) (evO env y)).map fun v => (v, H) := rfl
@[simp] theorem ev1_unOp (op : UnOp) (t : Nat) (x : Operand) : ev1 P call env H (.unOp op t x) ty = (unV op (evO env x)).map fun v => (v, H) := rfl
@[simp] theorem ev1_convert (s d : Nat) (x : Operand) : ev1 P call env H (.convert s d x) ty = convV P s d (evO env x) H := rfl
@[simp] theorem ev1_makeMap (t : Nat) : ev1 P call env H (.makeMap t none) ty = some (.map H.length, H ++ [.map true [] []]) := rfl
@[simp] theorem ev1_makeSlice (t : Nat) (l c : Operand) : ev1 P call env H (.makeSlice t l c) ty = makeSliceV P t (evO env l) (evO env c) H := rfl
@[simp] theorem ev1_slice (t : Nat) (x : Operand) (lo hi : Option Operand) : ev1 P call env H (.slice t x lo hi none) ty = (sliceV P t (evO env x) (lo.map (evO env)) (hi.map (evO env)) H).map fun v => (v, H) := rfl
@[simp] theorem ev1_fieldAddr (t f : Nat) (x : Operand) : ev1 P call env H (.fieldAddr t x f) ty = (fieldAddrV P t (evO env x) f H).map fun v => (v, H) := rfl
@[simp] theorem ev1_field (t f : Nat) (x : Operand) : ev1 P call env H (.field t x f) ty = match fieldOf P t f, evO env x with
    | some fd, .agg cs => (sub P fd.type (.agg cs) fd.offset).map fun v => (v, H)
    | _, _ => none := rfl
@[simp] theorem ev1_indexAddr (t : Nat) (x i : Operand) : ev1 P call env H (.indexAddr t x i) ty = (indexAddrV P t (evO env x) (evO env i) H).map fun v => (v, H) := rfl
@[simp] theorem ev1_index (t : Nat) (x i : Operand) : ev1 P call env H (.index t x i) ty = (indexV P t (evO env x) (evO env i)).map fun v => (v, H) := rfl
@[simp] theorem ev1_lookup (t : Nat) (m k : Operand) (ok : Bool) : ev1 P call env H (.lookup t m k ok) ty = (lookupV P t (evO env m) (evO env k) ok H).map fun v => (v, H) := rfl
@[simp] theorem ev1_mapUpdate (t : Nat) (m k x : Operand) : ev1 P call env H (.mapUpdate t m k x) ty = (mapUpdateV P t (evO env m) (evO env k) (evO env x) H).map fun H' => (.tuple [], H') := rfl
@[simp] theorem ev1_extract (x : Operand) (i : Nat) : ev1 P call env H (.extract x i) ty = match evO env x with
    | .tuple vs => vs[i]?.map fun v => (v, H)
    | _ => none := rfl
@[simp] theorem ev1_builtin (b : Builtin) (args : List Operand) (ts : List Nat) : ev1 P call env H (.call ⟨.builtin b, ⟨args⟩, ⟨ts⟩⟩) ty = builtinV P b ts (args.map (evO env)) H := rfl
@[simp] theorem ev1_call (f : Operand) (args : List Operand) (ts : Array Nat) : ev1 P call env H (.call ⟨.value f, ⟨args⟩, ts⟩) ty = call (evO env f) (args.map (evO env)) H := rfl

end

end Go.Abs

namespace Go.Abs
open Go.RowKit
set_option linter.unusedVariables false
set_option linter.unusedSimpArgs false

variable {P : Program}

/-- The cells of a variable of type t, as what a reading of an argument tells. -/
def HasT (P : Program) : Nat → TypeId → List V → Prop
  | 0, _, _ => False
  | n + 1, t, xs => match P.underlying t with
    | some .bool => ∃ b, xs = [.bool b]
    | some (.int k) => ∃ m, xs = [.int k m] ∧ (Lit.int k m).wf = true
    | some .string => ∃ s : List UInt8, xs = [.str s] ∧ s.length ≤ maxLen
    | some (.slice e) => if P.cellsOf e = 0 then xs.length = 1 else ∃ es, xs = [.sl es] ∧ es.length ≤ maxLen ∧ ∀ x ∈ es, aggT P e = some x.isAgg ∧ HasT P n e x.cells
    | some (.struct fs) => xs.length = P.cellsOf t ∧ ∀ f ∈ fs.toList, HasT P n f.type ((xs.drop f.offset).take (P.cellsOf f.type))
    | some (.array m e) => xs.length = P.cellsOf t ∧ ∀ i, i < m → HasT P n e ((xs.drop (i * P.cellsOf e)).take (P.cellsOf e))
    | _ => xs.length = 1

def no0 : Nat → Prop := fun _ => False

theorem crel_nil {w : World} : CRel pure0 no0 w [] [] := ⟨rfl, by simp, by simp⟩
theorem crel_one {w : World} {x : V} {v : Value} (h : VRel pure0 no0 w x v) (h1 : v.oneCell' = true) : CRel pure0 no0 w [x] [v] := by
  refine ⟨rfl, by simpa using h1, fun i c u hc hu => ?_⟩
  cases i with
  | zero => simp at hc hu; rw [← hc, ← hu]; exact h
  | succ i => simp at hc

/-- Rows put together out of parts. -/
theorem parts_of_sizes {w : World} {R : Nat → List V → Prop} : ∀ (ss : List Nat) (cs : List Value), cs.length = ss.sum →
    (∀ j s, ss[j]? = some s → ∃ xs, CRel pure0 no0 w xs ((cs.drop (ss.take j).sum).take s) ∧ R j xs) →
    ∃ xs, CRel pure0 no0 w xs cs ∧ ∀ j s, ss[j]? = some s → R j ((xs.drop (ss.take j).sum).take s)
  | [], cs, hl, h => by
    have : cs = [] := List.eq_nil_of_length_eq_zero (by simpa using hl)
    subst this
    exact ⟨[], crel_nil, by simp⟩
  | s :: ss, cs, hl, h => by
    simp only [List.sum_cons] at hl
    obtain ⟨x0, hx0, hr0⟩ := h 0 s rfl
    simp only [List.take_zero, List.sum_nil, List.drop_zero] at hx0
    obtain ⟨xs, hxs, hrs⟩ := parts_of_sizes (R := fun j => R (j + 1)) ss (cs.drop s) (by simp; omega) (fun j s' hj => by
      obtain ⟨y, hy, hr⟩ := h (j + 1) s' (by simpa using hj)
      refine ⟨y, ?_, hr⟩
      simpa [List.drop_drop] using hy)
    have hl0 : x0.length = s := by rw [hx0.1]; simp; omega
    refine ⟨x0 ++ xs, ?_, fun j s' hj => ?_⟩
    · have := hx0.append hxs
      rwa [List.take_append_drop] at this
    · cases j with
      | zero =>
        simp at hj
        subst hj
        simp [← hl0]
        exact hr0
      | succ j =>
        have := hrs j s' (by simpa using hj)
        simp only [List.take_succ_cons, List.sum_cons]
        have e : (x0 ++ xs).drop (s + (ss.take j).sum) = xs.drop (ss.take j).sum := by
          rw [List.drop_append, hl0, List.drop_eq_nil_of_le (by omega)]
          simp
        rw [e]
        exact this

theorem CRel.at {φ : Place} {W : Nat → Prop} {w : World} {xs : List V} {cs : List Value} (h : CRel φ W w xs cs) {i : Nat} {x : V} (hx : xs[i]? = some x) : ∃ c, cs[i]? = some c ∧ c.oneCell' = true ∧ VRel φ W w x c := by
  have hl := (List.getElem?_eq_some_iff.1 hx).1
  rw [h.1] at hl
  exact ⟨cs[i], List.getElem?_eq_getElem hl, h.2.1 _ (List.getElem_mem hl), h.2.2 i x _ hx (List.getElem?_eq_getElem hl)⟩

theorem mapM_at {α β : Type} {f : α → Option β} : ∀ {l : List α} {r : List β}, l.mapM f = some r → ∀ (i : Nat) (a : α), l[i]? = some a → ∃ b, f a = some b
  | [], r, h, i, a, ha => by simp at ha
  | x :: l, r, h, i, a, ha => by
    simp only [List.mapM_cons] at h
    cases hx : f x with
    | none => simp [hx] at h
    | some y =>
      cases hl : l.mapM f with
      | none => simp [hx, hl] at h
      | some ys =>
        cases i with
        | zero => simp at ha; rw [← ha]; exact ⟨y, hx⟩
        | succ i => exact mapM_at hl i a (by simpa using ha)

theorem cells_at {w : World} {base : Nat} {a : Addr} {n : Nat} {cs : List Value} (h : w.cells? base a n = some cs) : cs.length = n ∧ ∀ j v, cs[j]? = some v → w.cell? (a.add j) = some v := by
  unfold World.cells? at h
  split at h
  case isFalse => cases h
  have key : ∀ (l : List Nat) (cs : List Value), l.mapM (fun i => w.cell? (a.add i)) = some cs → cs.length = l.length ∧ ∀ (j : Nat) (v : Value), cs[j]? = some v → ∃ i, l[j]? = some i ∧ w.cell? (a.add i) = some v := fun l => by
    induction l with
    | nil => intro cs h; simp at h; subst h; simp
    | cons i l ih =>
      intro cs h
      simp only [List.mapM_cons] at h
      cases hi : w.cell? (a.add i) with
      | none => simp [hi] at h
      | some u =>
        cases hl : l.mapM (fun i => w.cell? (a.add i)) with
        | none => simp [hi, hl] at h
        | some us =>
          simp [hi, hl] at h
          subst h
          obtain ⟨h1, h2⟩ := ih us hl
          refine ⟨by simp [h1], fun j v hj => ?_⟩
          cases j with
          | zero => simp at hj; subst hj; exact ⟨i, rfl, hi⟩
          | succ j => simpa using h2 j v (by simpa using hj)
  obtain ⟨h1, h2⟩ := key _ _ h
  refine ⟨by simpa using h1, fun j v hj => ?_⟩
  obtain ⟨i, h3, h4⟩ := h2 j v hj
  have hj' : j < n := by have := (List.getElem?_eq_some_iff.1 hj).1; simp at h1; omega
  rw [List.getElem?_range hj'] at h3
  cases h3
  exact h4

theorem cellsOf_info {t : TypeId} (h : 0 < P.cellsOf t) : ∃ i, P.info? t = some i := by
  unfold Program.cellsOf at h
  cases hi : P.info? t with
  | none => simp [hi] at h
  | some i => exact ⟨i, rfl⟩

/-- Elements out of a memory that holds them. -/
theorem sl_of_cells {w : World} {base : Nat} {a : Addr} {len cap s : Nat} {es : List V} (hl : es.length = len) (hcap : len ≤ cap) (h0 : 0 < s)
    (h : ∀ (i : Nat) (e : V), es[i]? = some e → ∃ cs, w.cells? base (a.add (i * s)) s = some cs ∧ CRel pure0 no0 w e.cells cs) : VRel pure0 no0 w (.sl es) (.slice (some a) len cap) := by
  subst hl
  have hadd : ∀ i j, (a.add (i * s)).add j = a.add (i * s + j) := fun i j => by rw [add_add]
  refine .sl es a cap s (fun k => (w.cell? (a.add k)).getD undef) hcap h0 (pureL_of fun i e he => ?_) (fun i e he => ?_) (fun _ h => h) (fun i j e c he hc => ?_) (fun i j e c he hc => ?_)
  · obtain ⟨cs, h1, h2⟩ := h i e he
    have hcells : ∀ (j : Nat) (c : V), e.cells[j]? = some c → pureV c = true := fun j c hc => by
      obtain ⟨u, _, _, h3⟩ := h2.at hc
      exact h3.isPure
    by_cases ha : ∃ cs, e = .agg cs
    · obtain ⟨cs, rfl⟩ := ha
      simp only [pureV]
      exact pureL_of hcells
    · have hc : e.cells = [e] := by cases e <;> first | rfl | exact absurd ⟨_, rfl⟩ ha
      exact hcells 0 e (by rw [hc]; rfl)
  · obtain ⟨cs, h1, h2⟩ := h i e he
    rw [h2.1]
    exact (cells_at h1).1
  · obtain ⟨cs, h1, h2⟩ := h i e he
    obtain ⟨u, h3, h4, _⟩ := h2.at hc
    have := (cells_at h1).2 j u h3
    rw [hadd] at this
    simp only [this, Option.getD_some]
    exact ⟨trivial, h4⟩
  · obtain ⟨cs, h1, h2⟩ := h i e he
    obtain ⟨u, h3, _, h5⟩ := h2.at hc
    have := (cells_at h1).2 j u h3
    rw [hadd] at this
    simp only [this, Option.getD_some]
    exact h5

/-- A list chosen place by place. -/
theorem list_of {R : Nat → V → Prop} : ∀ (n : Nat), (∀ i, i < n → ∃ x, R i x) → ∃ es : List V, es.length = n ∧ ∀ (i : Nat) (x : V), es[i]? = some x → R i x
  | 0, _ => ⟨[], rfl, by simp⟩
  | n + 1, h => by
    obtain ⟨es, h1, h2⟩ := list_of n (fun i hi => h i (by omega))
    obtain ⟨x, hx⟩ := h n (by omega)
    refine ⟨es ++ [x], by simp [h1], fun i y hy => ?_⟩
    rcases Nat.lt_or_ge i es.length with hi | hi
    · rw [List.getElem?_append_left hi] at hy
      exact h2 i y hy
    · rw [List.getElem?_append_right hi] at hy
      have : i = n := by have := (List.getElem?_eq_some_iff.1 hy).1; simp at this; omega
      subst this
      rw [← h1] at hy
      simp at hy
      rw [← hy]
      exact hx

/-- The cells of a variable as one value. -/
theorem one_of {t : TypeId} {xs : List V} {b : Bool} {w : World} {cs : List Value} (hb : aggT P t = some b) (h : CRel pure0 no0 w xs cs) (hl : b = false → xs.length = 1) :
    ∃ x : V, x.cells = xs ∧ aggT P t = some x.isAgg := by
  cases b with
  | true => exact ⟨.agg xs, rfl, hb⟩
  | false =>
    obtain ⟨x, rfl⟩ := List.length_eq_one_iff.1 (hl rfl)
    refine ⟨x, ?_, ?_⟩
    · cases x <;> first | rfl | skip
      obtain ⟨u, _, h1, h2⟩ := h.at (i := 0) rfl
      cases h2
      cases h1
    · cases x <;> first | exact hb | skip
      obtain ⟨u, _, h1, h2⟩ := h.at (i := 0) rfl
      cases h2
      cases h1

theorem hasT_one {n : Nat} {t : TypeId} {xs : List V} (h : HasT P n t xs) (ha : aggT P t = some false) : xs.length = 1 := by
  cases n with
  | zero => exact h.elim
  | succ n =>
    simp only [HasT] at h
    unfold aggT at ha
    split at h
    · obtain ⟨b, rfl⟩ := h; rfl
    · obtain ⟨m, rfl, _⟩ := h; rfl
    · obtain ⟨s, rfl, _⟩ := h; rfl
    · split at h
      · exact h
      · obtain ⟨es, rfl, _⟩ := h; rfl
    · rename_i he; rw [he] at ha; cases ha
    · rename_i he; rw [he] at ha; cases ha
    · exact h

theorem rowFine_at (hl : laidOutB P = true) {t : TypeId} (ht : t < P.types.size) : rowFine P t = true := by
  simp only [laidOutB, Bool.and_eq_true, List.all_eq_true, List.mem_range] at hl
  exact hl.1.1 t ht

theorem isVar_lt {t : TypeId} (h : isVar P t = true) : t < P.types.size ∧ kindOk (P.underlying t) = true := by
  simpa [isVar] using h

theorem aggT_of {t : TypeId} (h : kindOk (P.underlying t) = true) : ∃ b, aggT P t = some b := by
  unfold aggT
  cases hu : P.underlying t with
  | none => rw [hu] at h; cases h
  | some d => cases d <;> exact ⟨_, rfl⟩

section
variable {HH : Type} {enc : TypeId × Value → HH} {w : World} {base : Nat} {sp : Nat → Bool} {held : Bool}

theorem trod_rel (hl : laidOutB P = true) : ∀ (fuel : Nat) (t : TypeId) (cs : List Value) (r : DataW HH × List MemPlace), isVar P t = true → DataW.trod enc P w base sp held fuel t cs = some r →
    ∃ xs, CRel pure0 no0 w xs cs ∧ HasT P fuel t xs
  | 0, t, cs, r, ht, h => by simp [DataW.trod] at h
  | fuel + 1, t, cs, r, ht, h => by
    obtain ⟨htl, hk⟩ := isVar_lt ht
    have hrow := rowFine_at hl htl
    simp only [rowFine, ht, Bool.not_true, Bool.false_or] at hrow
    have undef1 : ∀ v : Value, cs = [v] → v.oneCell' = true → (HasT P (fuel + 1) t [.undef]) → ∃ xs, CRel pure0 no0 w xs cs ∧ HasT P (fuel + 1) t xs := fun v hv h1 h2 => ⟨[.undef], by rw [hv]; exact crel_one (.undef v) h1, h2⟩
    simp only [DataW.trod] at h
    split at h
    · rename_i b hu
      exact ⟨[.bool b], crel_one (.bool b) rfl, by simp only [HasT, hu]; exact ⟨b, rfl⟩⟩
    · rename_i k k' n hu
      split at h
      · rename_i hc
        obtain ⟨rfl, hw⟩ := hc
        exact ⟨[.int _ n], crel_one (.int _ n) rfl, by simp only [HasT, hu]; exact ⟨n, rfl, hw⟩⟩
      · cases h
    · rename_i hu; exact undef1 _ rfl rfl (by simp only [HasT, hu]; rfl)
    · rename_i s hu
      split at h
      · rename_i hs
        have he : s = ⟨s.data.toList.toArray⟩ := by cases s; simp
        refine ⟨[.str s.data.toList], ?_, by simp only [HasT, hu]; exact ⟨_, rfl, by simpa using hs⟩⟩
        rw [he]
        exact crel_one (.str _) rfl
      · cases h
    · rename_i hu; exact undef1 _ rfl rfl (by simp only [HasT, hu]; rfl)
    · rename_i hu; exact undef1 _ rfl rfl (by simp only [HasT, hu]; rfl)
    · rename_i e hu
      by_cases h0 : P.cellsOf e = 0
      · exact undef1 _ rfl rfl (by simp only [HasT, hu]; rw [if_pos h0]; rfl)
      · exact ⟨[.sl []], crel_one .slnil rfl, by simp only [HasT, hu]; rw [if_neg h0]; exact ⟨[], rfl, Nat.zero_le _, by simp⟩⟩
    · rename_i e a len cap hu
      by_cases h0 : P.cellsOf e = 0
      · exact undef1 _ rfl rfl (by simp only [HasT, hu]; rw [if_pos h0]; rfl)
      · rw [hu] at hrow
        simp only [Bool.and_eq_true] at hrow
        split at h
        case isFalse => cases h
        rename_i hc
        rw [Option.bind_eq_some_iff] at h
        obtain ⟨elems, hel, _⟩ := h
        obtain ⟨_, hke⟩ := isVar_lt hrow.1
        obtain ⟨b, hb⟩ := aggT_of hke
        have key : ∀ i, i < len → ∃ x : V, ∃ cs', w.cells? base (a.add (i * P.cellsOf e)) (P.cellsOf e) = some cs' ∧ CRel pure0 no0 w x.cells cs' ∧ aggT P e = some x.isAgg ∧ HasT P fuel e x.cells := fun i hi => by
          obtain ⟨y, hy⟩ := mapM_at hel i i (by simp [hi])
          rw [Option.bind_eq_some_iff] at hy
          obtain ⟨cs', h1, h2⟩ := hy
          obtain ⟨xs, h3, h4⟩ := trod_rel hl fuel e cs' y hrow.1 h2
          obtain ⟨x, rfl, h6⟩ := one_of hb h3 (fun hbf => hasT_one h4 (by rw [hb, hbf]))
          exact ⟨x, cs', h1, h3, h6, h4⟩
        obtain ⟨es, hel', hes⟩ := list_of len key
        refine ⟨[.sl es], crel_one (sl_of_cells (base := base) hel' hc.2.1 (Nat.pos_of_ne_zero h0) fun i x hx => ?_) rfl, ?_⟩
        · obtain ⟨cs', h1, h2, _⟩ := hes i x hx
          exact ⟨cs', h1, h2⟩
        · simp only [HasT, hu]
          rw [if_neg h0]
          refine ⟨es, rfl, by rw [hel']; exact Nat.le_trans hc.2.1 hc.2.2, fun x hx => ?_⟩
          obtain ⟨i, hi⟩ := List.getElem?_of_mem hx
          obtain ⟨_, _, _, h3, h4⟩ := hes i x hi
          exact ⟨h3, h4⟩
    · rename_i cs _ _ fs hu
      rw [hu] at hrow
      simp only [Bool.and_eq_true, List.all_eq_true, beq_iff_eq, List.mem_range] at hrow
      split at h
      case isFalse => cases h
      rename_i hlen
      rw [Option.map_eq_some_iff] at h
      obtain ⟨ys, hys, _⟩ := h
      have hoff : ∀ (j : Nat) (f : Field), fs.toList[j]? = some f → f.offset = (((fs.toList.map fun f => P.cellsOf f.type).take j)).sum := fun j f hj => by
        have h1 := hrow.2 j (List.getElem?_eq_some_iff.1 hj).1
        rw [hj] at h1
        simp only [beq_iff_eq] at h1
        rw [h1, List.map_take]
      obtain ⟨xs, h1, h2⟩ := parts_of_sizes (w := w) (R := fun j xs => ∀ f, fs.toList[j]? = some f → HasT P fuel f.type xs) (fs.toList.map fun f => P.cellsOf f.type) cs (by rw [hlen, hrow.1.2]) (fun j s hj => by
        rw [List.getElem?_map, Option.map_eq_some_iff] at hj
        obtain ⟨f, hf, rfl⟩ := hj
        obtain ⟨y, hy⟩ := mapM_at hys j f hf
        rw [hoff j f hf] at hy
        obtain ⟨xs, h3, h4⟩ := trod_rel hl fuel f.type _ y (hrow.1.1 f (List.mem_of_getElem? hf)) hy
        exact ⟨xs, h3, fun f' hf' => by rw [hf] at hf'; cases hf'; exact h4⟩)
      refine ⟨xs, h1, ?_⟩
      simp only [HasT, hu]
      refine ⟨by rw [h1.1, hlen], fun f hf => ?_⟩
      obtain ⟨j, hj⟩ := List.getElem?_of_mem hf
      have := h2 j (P.cellsOf f.type) (by rw [List.getElem?_map, hj]; rfl) f hj
      rwa [← hoff j f hj] at this
    · rename_i cs _ _ m e hu
      rw [hu] at hrow
      simp only [Bool.and_eq_true, beq_iff_eq] at hrow
      split at h
      case isFalse => cases h
      rename_i hlen
      rw [Option.map_eq_some_iff] at h
      obtain ⟨ys, hys, _⟩ := h
      have hsum : ∀ j, (List.replicate j (P.cellsOf e)).sum = j * P.cellsOf e := fun j => by simp
      obtain ⟨xs, h1, h2⟩ := parts_of_sizes (w := w) (R := fun j xs => HasT P fuel e xs) (List.replicate m (P.cellsOf e)) cs (by rw [hlen, hrow.2, hsum]) (fun j s hj => by
        rw [List.getElem?_replicate] at hj
        split at hj
        case isFalse => cases hj
        rename_i hjm
        cases hj
        obtain ⟨y, hy⟩ := mapM_at hys j j (by simp [hjm])
        have ht : (List.replicate m (P.cellsOf e)).take j = List.replicate j (P.cellsOf e) := by rw [List.take_replicate, Nat.min_eq_left (Nat.le_of_lt hjm)]
        rw [ht, hsum]
        obtain ⟨xs, h3, h4⟩ := trod_rel hl fuel e _ y hrow.1 hy
        exact ⟨xs, h3, h4⟩)
      refine ⟨xs, h1, ?_⟩
      simp only [HasT, hu]
      refine ⟨by rw [h1.1, hlen], fun j hj => ?_⟩
      have := h2 j (P.cellsOf e) (by rw [List.getElem?_replicate, if_pos hj])
      rw [List.take_replicate, Nat.min_eq_left (Nat.le_of_lt hj), hsum] at this
      exact this
    all_goals first
      | (cases h; done)
      | (rename_i hu; exact undef1 _ rfl rfl (by simp only [HasT, hu]; rfl))
      | skip

end

end Go.Abs

namespace Go.Abs
open Go.RowKit Go.WideShapes
set_option linter.unusedVariables false
set_option linter.unusedSimpArgs false

/-- What is known of an argument. -/
def ArgT (P : Program) (t : TypeId) (x : V) : Prop := ∃ n, HasT P n t x.cells ∧ aggT P t = some x.isAgg

section
variable {P : Program} {HH : Type} {enc : TypeId × Value → HH} {w : World} {base b0 : Nat} {sp : Nat → Bool} {held : Bool} {rr : Reach}

theorem rel_agg {xs : List V} {cs : Array Value} (h : CRel pure0 no0 w xs cs.toList) : VRel pure0 no0 w (.agg xs) (.agg cs) :=
  .agg xs cs (by rw [h.1]; simp) h.2.1 fun i c v hc hv => h.2.2 i c v hc (by simpa using hv)

theorem arg_rel (hl : laidOutB P = true) {t : TypeId} {v : Value} {d : DataW HH} {ps : List MemPlace} (ht : isVar P t = true) (hval : Value.okWide P w rr b0 t v) (h : DataW.Trod enc P w base sp held t v d ps) :
    ∃ x, VRel pure0 no0 w x v ∧ ArgT P t x := by
  obtain ⟨fuel, h⟩ := h
  obtain ⟨xs, h1, h2⟩ := trod_rel hl fuel t _ _ ht h
  obtain ⟨b, hb⟩ := aggT_of (isVar_lt ht).2
  have single : (∀ cs, v ≠ .agg cs) → b = false → ∃ x, VRel pure0 no0 w x v ∧ ArgT P t x := fun hv hbf => by
    have hc : v.cells.toList = [v] := by cases v <;> first | rfl | exact absurd rfl (hv _)
    rw [hc] at h1
    obtain ⟨x, rfl, hx2⟩ := one_of hb h1 (fun _ => h1.1)
    have hxc : x.cells = [x] := by cases x <;> first | rfl | (rw [hbf] at hb; rw [hb] at hx2; cases hx2)
    rw [hxc] at h1
    exact ⟨x, h1.2.2 0 x v rfl rfl, fuel, h2, hx2⟩
  have other : b = false → (HasT P fuel t [.undef]) → ∃ x, VRel pure0 no0 w x v ∧ ArgT P t x := fun hbf hu => ⟨.undef, .undef v, fuel, hu, by rw [hb, hbf]; rfl⟩
  have whole : ∀ cs : Array Value, v = .agg cs → b = true → ∃ x, VRel pure0 no0 w x v ∧ ArgT P t x := fun cs hv hbt => by
    subst hv
    exact ⟨.agg xs, rel_agg h1, fuel, h2, by rw [hb, hbt]; rfl⟩
  have pos : ∃ n, fuel = n + 1 := by cases fuel with | zero => exact h2.elim | succ n => exact ⟨n, rfl⟩
  obtain ⟨n, rfl⟩ := pos
  cases hu : P.underlying t with
  | none => unfold aggT at hb; rw [hu] at hb; cases hb
  | some dd =>
    have hb' := hb
    unfold aggT at hb'
    rw [hu] at hb'
    cases dd
    case struct fs =>
      simp only [Value.okWide, hu] at hval
      obtain ⟨cs, rfl, _⟩ := hval
      exact whole cs rfl (Option.some.inj hb').symm
    case array m e =>
      simp only [Value.okWide, hu] at hval
      obtain ⟨cs, rfl, _⟩ := hval
      exact whole cs rfl (Option.some.inj hb').symm
    case bool => obtain ⟨c, rfl⟩ := okWide_bool hu hval; exact single (by simp) (Option.some.inj hb').symm
    case int k => obtain ⟨c, rfl⟩ := okWide_int hu hval; exact single (by simp) (Option.some.inj hb').symm
    case string => obtain ⟨c, rfl⟩ := okWide_string hu hval; exact single (by simp) (Option.some.inj hb').symm
    case slice e => obtain ⟨a, l, c, rfl⟩ := okWide_slice hu hval; exact single (by simp) (Option.some.inj hb').symm
    all_goals exact other (Option.some.inj hb').symm (by simp only [HasT, hu]; rfl)

end

theorem inv_start (w : World) : Inv w.heap.size no0 pure0 [] w := inv_empty fun c h => h.elim

theorem no_wr {c : Nat} (h : Wr pure0 [] no0 c) : no0 c := by
  rcases h with h | ⟨b, s, n, x, h1, _⟩
  · exact h
  · cases h1

/-- A law's call. -/
theorem law_walk {C : Ctx} (G : Good C) {f : FuncId} {xs : List V} {args : Array Value} {w : World} {H' : Heap} (h : bodyW C f xs [] = some (.bool true, H')) (ha : ArgsRel pure0 no0 w xs args) :
    Calls C.P f args w (fun e w' => e = .returned (.bool true) ∧ Below w.heap.size w w') := by
  obtain ⟨n, hn⟩ := bodyW_iff.1 h
  have := ((all_ok G n).b _ _ _ _ _ hn).2 w.heap.size no0 pure0 w args (inv_start w) ⟨ha.1, fun i x c a b => (ha.2 i x c a b).mono (h0 := 0) (Ext.frz (w := w) fun c h => no_wr h) (fun _ h => absurd rfl h)⟩
  refine Calls.mono this fun e w' ⟨v, he, φ', ht⟩ => ?_
  have hv := isBool_of ht.rel
  rw [he, hv]
  exact ⟨rfl, ht.step.below⟩

theorem argsRel_nil {φ : Place} {W : Nat → Prop} {w : World} : ArgsRel φ W w [] #[] := ⟨rfl, by simp⟩
theorem argsRel_one {φ : Place} {W : Nat → Prop} {w : World} {x : V} {v : Value} (h : VRel φ W w x v) : ArgsRel φ W w [x] #[v] := ⟨rfl, fun i a c ha hc => by
  cases i with
  | zero => simp at ha hc; rw [← ha, ← hc]; exact h
  | succ i => simp at ha⟩
theorem argsRel_two {φ : Place} {W : Nat → Prop} {w : World} {x y : V} {v u : Value} (h : VRel φ W w x v) (k : VRel φ W w y u) : ArgsRel φ W w [x, y] #[v, u] := (argsRel_one h).append (argsRel_one k)
theorem argsRel_three {φ : Place} {W : Nat → Prop} {w : World} {x y z : V} {v u s : Value} (h : VRel φ W w x v) (k : VRel φ W w y u) (l : VRel φ W w z s) : ArgsRel φ W w [x, y, z] #[v, u, s] := (argsRel_two h k).append (argsRel_one l)
theorem argsRel_four {φ : Place} {W : Nat → Prop} {w : World} {x y z q : V} {v u s p : Value} (h : VRel φ W w x v) (k : VRel φ W w y u) (l : VRel φ W w z s) (m : VRel φ W w q p) : ArgsRel φ W w [x, y, z, q] #[v, u, s, p] := (argsRel_three h k l).append (argsRel_one m)

/-- A function of a table. -/
def bodyOf (fn : Func) : Option Body := fn.body.map fun c => ⟨fn.results.toList, fn.ntmps, c⟩

theorem good_body {P : Program} {f : FuncId} {fn : Func} (hf : P.funcs[f]? = some fn) (hn : fn.name ≠ "runtime.NumGoroutine") (hc : (fn.body.map (codeOk P fn.ntmps)) = some true) {b : Body} (h : bodyOf fn = some b) :
    ∃ fn, P.funcs[f]? = some fn ∧ fn.name ≠ "runtime.NumGoroutine" ∧ fn.body = some b.code ∧ fn.results.toList = b.results ∧ fn.ntmps = b.ntmps ∧ codeOk P b.ntmps b.code = true := by
  unfold bodyOf at h
  cases hb : fn.body with
  | none => rw [hb] at h; cases h
  | some c =>
    rw [hb] at h hc
    cases h
    exact ⟨fn, hf, hn, hb, rfl, rfl, by simpa using hc⟩

end Go.Abs

namespace Go.Abs
open Go.RowKit
set_option linter.unusedVariables false
set_option linter.unusedSimpArgs false

variable {P : Program}

section
variable {base : Nat} {Z : Nat → Prop} {w w' : World}

theorem shape_below (hb : Below w.heap.size w w') : ∀ c x, w.shape? c = some x → w'.shape? c = some x := fun c x hx => by
  have hc : c < w.heap.size := by
    unfold World.shape? at hx
    cases hh : w.heap[c]? with
    | none => rw [hh] at hx; cases hx
    | some _ => exact (Array.getElem?_eq_some_iff.1 hh).1
  rw [shape_of_heap (hb.block c hc)]
  exact hx

theorem turns_below {r : V} {v : Value} (I : Inv base Z pure0 [] w) (hb : Below w.heap.size w w') (hr : VRel pure0 (Wr pure0 [] Z) w' r v) : Turns base Z pure0 [] w [] r v w' :=
  ⟨pure0, { I with hb := Nat.le_trans I.hb hb.size, rng := fun b c s n h => Loc.noConfusion h, blk := fun b c s n h => Loc.noConfusion h }, hr, ⟨⟨fun b h => absurd h (Nat.not_lt_zero _), fun _ _ h => h, fun c hc _ => hb.block c hc, shape_below hb, hb.size⟩, hb.mono I.hb⟩, Nat.le_refl _⟩

/-- strings.Repeat, evaluated. -/
def repeatX : List V → Option (V × Heap)
  | [.str s, .int .i64 n] => if 0 ≤ n ∧ n ≤ 9223372036854775807 ∧ s.length * n.toNat ≤ 140737488355328 then some (.str (Lib.repeatL s n.toNat), []) else none
  | _ => none

theorem repeat_contract {f : FuncId} (h : ∀ (s : ByteArray) (c : Nat) (w : World), c ≤ 9223372036854775807 → s.size * c ≤ 140737488355328 →
      Calls P f #[.string s, .int .i64 c] w fun e w' => e = .returned (.string ⟨(Lib.repeatL s.data.toList c).toArray⟩) ∧ Below w.heap.size w w')
    (as : List V) (r : V) (H' : Heap) (hx : repeatX as = some (r, H')) : Contract P f as r H' := fun base Z w cargs I ha => by
  unfold repeatX at hx
  split at hx
  case h_2 => cases hx
  rename_i s n
  split at hx
  case isFalse => cases hx
  rename_i hc
  cases hx
  obtain ⟨c1, c2, rfl, h1, h2⟩ := len_two ha rfl
  cases h1
  cases h2
  obtain ⟨m, rfl⟩ : ∃ m : Nat, n = m := ⟨n.toNat, by omega⟩
  refine Calls.mono (h ⟨s.toArray⟩ m w (by omega) (by show s.toArray.size * m ≤ _; simpa using hc.2.2)) fun e w' ⟨he, hb⟩ => ⟨_, he, ?_⟩
  refine turns_below I hb ?_
  simpa using (VRel.str (φ := pure0) (W := Wr pure0 [] Z) (w := w') (Lib.repeatL s m))

/-- slices.Clone, evaluated. -/
def cloneX (s bytes : Nat) : List V → Option (V × Heap)
  | [.sl es] => if 0 < s ∧ es.length * bytes ≤ room ∧ es.length ≤ room ∧ (es.all fun e => e.cells.length == s) = true then some (.own 0 es.length 0 es.length, [.dat true s es]) else none
  | _ => none

/-- A row of the call's own, and nothing else. -/
theorem own_row {s n : Nat} {e : TypeId} {es : List V} {v : Value} {news : List Value} (I : Inv base Z pure0 [] w) (hb : Below w.heap.size w w') (h0 : 0 < s) (hn : n = es.length) (hs : Each s es)
    (hown : w'.ownsRow w.heap.size e s v n news) (hrel : ∀ (i j : Nat) (x c : V), es[i]? = some x → x.cells[j]? = some c → ∃ u, news[i * s + j]? = some u ∧ u.oneCell' = true ∧ VRel pure0 (Wr pure0 [] Z) w c u) :
    Turns base Z pure0 [] w [.dat true s es] (.own 0 n 0 n) v w' := by
  obtain ⟨hl, hown⟩ := hown
  have E : ∀ (φ' : Place) (W' : Nat → Prop), (∀ c, c < w.heap.size → W' c → Wr pure0 [] Z c) → Ext 0 pure0 (Wr pure0 [] Z) w φ' W' w' := fun φ' W' hW =>
    ⟨fun b h => absurd h (Nat.not_lt_zero _), hW, fun c hc _ => hb.block c hc, shape_below hb, hb.size⟩
  have hzb : base ≤ w'.heap.size := Nat.le_trans I.hb hb.size
  rcases hown with ⟨rfl, rfl⟩ | ⟨g, cap, cur, rfl, hg, hh, hcap, hmax, hsz, htake⟩
  · have hes : es = [] := List.eq_nil_of_length_eq_zero hn.symm
    subst hes
    have at0 : ∀ b c s' n', (upd pure0 0 Loc.nil) b = .at c s' n' → False := fun b c s' n' h => by
      by_cases hb0 : b = 0
      · subst hb0; rw [upd_same] at h; cases h
      · rw [upd_ne _ _ hb0] at h; cases h
    refine ⟨upd pure0 0 .nil, ⟨I.hz, hzb, fun b hb' => ?_, fun b b' c s' n' s'' n'' h => (at0 _ _ _ _ h).elim, fun b c s' n' h => (at0 _ _ _ _ h).elim, fun b c s' n' h => (at0 _ _ _ _ h).elim, fun b h => ?_⟩, ?_, ⟨E _ _ fun c _ h => ?_, hb.mono I.hb⟩, Nat.zero_le _⟩
    · rw [upd_ne _ _ (by simp at hb'; omega)]; rfl
    · by_cases hb0 : b = 0
      · subst hb0; exact ⟨true, s, rfl, h0⟩
      · rw [upd_ne _ _ hb0] at h; cases h
    · exact .own 0 0 0 0 _ rfl (Nat.le_refl _) (by simp) (fun _ => ⟨rfl, rfl⟩) (fun c s' n' h => (at0 _ _ _ _ h).elim)
    · rcases h with h | ⟨b, s', n', x, h1, _⟩
      · exact .inl h
      · exact (at0 _ _ _ _ h1).elim
  · have at0 : ∀ b c s' n', (upd pure0 0 (Loc.at g s n)) b = .at c s' n' → b = 0 ∧ c = g ∧ s' = s ∧ n' = n := fun b c s' n' h => by
      by_cases hb0 : b = 0
      · subst hb0; rw [upd_same] at h; cases h; exact ⟨rfl, rfl, rfl, rfl⟩
      · rw [upd_ne _ _ hb0] at h; cases h
    have hW : ∀ c, c < w.heap.size → Wr (upd pure0 0 (.at g s n)) [.dat true s es] Z c → Wr pure0 [] Z c := fun c hc h => by
      rcases h with h | ⟨b, s', n', x, h1, _⟩
      · exact .inl h
      · have := (at0 _ _ _ _ h1).2.1; omega
    have hgl : g < w'.heap.size := (Array.getElem?_eq_some_iff.1 hh).1
    have ext := E (upd pure0 0 (.at g s n)) _ hW
    have hrow : Row pure0 (Wr (upd pure0 0 (.at g s n)) [.dat true s es] Z) w' g s es := by
      refine ⟨h0, cur, e, (0, 0), hh, ?_, fun j _ h => absurd h.2 (Nat.not_lt_zero _), fun i x hx => ⟨hs i x hx, fun j c hc => ?_⟩⟩
      · rw [hsz, ← hn]; exact Nat.mul_le_mul_right _ hcap
      · obtain ⟨u, h1, h2, h3⟩ := hrel i j x c hx hc
        refine ⟨u, ?_, h2, h3.mono0 ext⟩
        rw [← htake, List.getElem?_take] at h1
        split at h1
        · simpa using h1
        · cases h1
    refine ⟨upd pure0 0 (.at g s n), ⟨I.hz, hzb, fun b hb' => ?_, fun b b' c s' n' s'' n'' h h' => ?_, fun b c s' n' h => ?_, fun b c s' n' h => ?_, fun b h => ?_⟩, ?_, ⟨ext, hb.mono I.hb⟩, Nat.zero_le _⟩
    · rw [upd_ne _ _ (by simp at hb'; omega)]; rfl
    · rw [(at0 _ _ _ _ h).1, (at0 _ _ _ _ h').1]
    · obtain ⟨_, rfl, _, _⟩ := at0 _ _ _ _ h
      exact ⟨Nat.le_trans I.hb hg, hgl⟩
    · obtain ⟨rfl, rfl, rfl, rfl⟩ := at0 _ _ _ _ h
      exact ⟨_, rfl, hn, rfl, hrow⟩
    · by_cases hb0 : b = 0
      · subst hb0; rw [upd_same] at h; cases h
      · rw [upd_ne _ _ hb0] at h; cases h
    · refine .own 0 n 0 n _ rfl (by omega) (by simp) (fun h => by rw [upd_same] at h; cases h) (fun c s' n' h => ?_)
      obtain ⟨_, rfl, rfl, rfl⟩ := at0 _ _ _ _ h
      refine ⟨Nat.le_refl _, fun _ => ⟨_, cap, e, cur.size, rfl, by simp [World.shape?, hh], hcap, fun _ => by simp, fun _ => ⟨hcap, by rw [hsz]; exact Nat.le_refl _, hmax⟩⟩⟩

theorem clone_contract {f : FuncId} {s bytes : Nat} {e : TypeId} (hnil : ∀ (n c : Nat) (w : World), Calls P f #[.slice none n c] w fun e w' => e = .returned (.slice none 0 0) ∧ w' = w)
    (hzero : ∀ (a : Addr) (c : Nat) (w : World), Calls P f #[.slice (some a) 0 c] w fun x w' => ∃ v', x = .returned v' ∧ w'.ownsRow w.heap.size e s v' 0 [] ∧ v' ≠ .slice none 0 0 ∧ Below w.heap.size w w')
    (hmain : ∀ (b off n c : Nat) (news : List Value) (w : World), news.length = n * s → n ≤ maxLen → n * bytes ≤ 140737488355328 → (∀ j u, news[j]? = some u → w.cell? ⟨b, off + j, none⟩ = some u) → (∀ u ∈ news, u.oneCell' = true) →
      Calls P f #[.slice (some ⟨b, off, none⟩) n c] w fun x w' => ∃ v', x = .returned v' ∧ w'.ownsRow w.heap.size e s v' n news ∧ v' ≠ .slice none 0 0 ∧ Below w.heap.size w w')
    (as : List V) (r : V) (H' : Heap) (hx : cloneX s bytes as = some (r, H')) : Contract P f as r H' := fun base Z w cargs I ha => by
  unfold cloneX at hx
  split at hx
  case h_2 => cases hx
  rename_i es
  split at hx
  case isFalse => cases hx
  rename_i hc
  obtain ⟨h0, hb1, hb2, hall⟩ := hc
  cases hx
  obtain ⟨cv, rfl, hr⟩ := len_one ha rfl
  have hs : Each s es := .of_mem fun x hx => by simpa using List.all_eq_true.1 hall x hx
  rcases sl_mem hr with ⟨rfl, rfl⟩ | ⟨a, cap, s', rfl, hcap, h0', hp, hW, hmem⟩
  · refine Calls.mono (hnil 0 0 w) fun x w' ⟨he, hw⟩ => ⟨_, he, ?_⟩
    subst hw
    exact own_row (e := e) (news := []) I (.refl _ _) h0 rfl hs ⟨by simp, .inl ⟨rfl, rfl⟩⟩ (fun i j x c hx => by simp at hx)
  · cases es with
    | nil =>
      refine Calls.mono (hzero a cap w) fun x w' ⟨v', he, hown, _, hb⟩ => ⟨_, he, ?_⟩
      exact own_row I hb h0 rfl hs hown (fun i j x c hx => by simp at hx)
    | cons e0 es =>
      have hss : s' = s := by rw [← (hmem 0 e0 rfl).1]; exact hs 0 e0 rfl
      subst hss
      have hfl := flat_length _ hs
      have hat : ∀ (k : Nat) (c : V), ((e0 :: es).flatMap V.cells)[k]? = some c → ∃ v, w.cell? (a.add k) = some v ∧ v.oneCell' = true ∧ VRel pure0 (Wr pure0 [] Z) w c v := fun k c hk => by
        obtain ⟨i, j, x, rfl, h1, h2⟩ := flat_at _ hs k c hk
        obtain ⟨v, h3, h4, h5⟩ := (hmem i x h1).2 j c h2
        rw [add_add] at h3
        exact ⟨v, h3, h4, h5⟩
      have hlt : ∀ k, k < (e0 :: es).length * s' → ∃ c v, ((e0 :: es).flatMap V.cells)[k]? = some c ∧ w.cell? (a.add k) = some v ∧ v.oneCell' = true ∧ VRel pure0 (Wr pure0 [] Z) w c v := fun k hk => by
        have hc := List.getElem?_eq_getElem (l := (e0 :: es).flatMap V.cells) (i := k) (by omega)
        obtain ⟨v, h1, h2, h3⟩ := hat k _ hc
        exact ⟨_, v, hc, h1, h2, h3⟩
      have hpos : 0 < (e0 :: es).length * s' := Nat.mul_pos (by simp) h0
      obtain ⟨b, off, spot⟩ := a
      have hspot : spot = none := by
        obtain ⟨_, v, _, h1, _⟩ := hlt 0 hpos
        simp only [Addr.add, if_pos, World.cell?] at h1
        split at h1
        · split at h1
          · cases h1
          · rename_i hsp; simpa using hsp
        · cases h1
      subst hspot
      have hadd : ∀ k, (⟨b, off, none⟩ : Addr).add k = ⟨b, off + k, none⟩ := fun k => by
        unfold Addr.add
        split
        · rename_i hk; subst hk; rfl
        · rfl
      have hnews : ∀ (k : Nat) (u : Value), ((List.range ((e0 :: es).length * s')).map fun k => (w.cell? ⟨b, off + k, none⟩).getD undef)[k]? = some u → k < (e0 :: es).length * s' ∧ w.cell? ⟨b, off + k, none⟩ = some u ∧ u.oneCell' = true := fun k u hk => by
        rw [List.getElem?_map, Option.map_eq_some_iff] at hk
        obtain ⟨k', h1, h2⟩ := hk
        have hkl : k < (e0 :: es).length * s' := by have := (List.getElem?_eq_some_iff.1 h1).1; simpa using this
        rw [List.getElem?_range hkl] at h1
        cases h1
        obtain ⟨_, v, _, h3, h4, _⟩ := hlt k hkl
        rw [hadd] at h3
        rw [h3] at h2
        simp only [Option.getD_some] at h2
        rw [← h2]
        exact ⟨hkl, h3, h4⟩
      refine Calls.mono (hmain b off (e0 :: es).length cap ((List.range ((e0 :: es).length * s')).map fun k => (w.cell? ⟨b, off + k, none⟩).getD undef) w (by simp) (Nat.le_trans hb2 (by unfold room maxLen; decide)) (Nat.le_trans hb1 (by unfold room; decide)) (fun j u hj => (hnews j u hj).2.1) (fun u hu => ?_)) fun x w' ⟨v', he, hown, _, hb⟩ => ⟨_, he, ?_⟩
      · obtain ⟨k, hk⟩ := List.getElem?_of_mem hu
        exact (hnews k u hk).2.2
      · refine own_row I hb h0 rfl hs hown (fun i j x c hx hc => ?_)
        have hg := flat_get _ hs i j x c hx hc
        obtain ⟨v, h3, h4, h5⟩ := hat _ c hg
        rw [hadd] at h3
        have hkl : i * s' + j < (e0 :: es).length * s' := by have := (List.getElem?_eq_some_iff.1 hg).1; omega
        exact ⟨v, by rw [List.getElem?_map, List.getElem?_range hkl]; simp [h3], h4, h5⟩

end

end Go.Abs

namespace Go.Abs
open Go.RowKit
set_option linter.unusedVariables false
set_option linter.unusedSimpArgs false

variable {P : Program}

section
variable {base : Nat} {Z : Nat → Prop} {φ : Place} {H : Heap} {w w' : World}

/-- An own slice made longer, in place or elsewhere. -/
theorem e_redo {b s tot cap g : Nat} {es es' : List V} {cs : Array Value} {e : TypeId} {fr : Nat × Nat} (I : Inv base Z φ H w) (hl : φ b = .nil ∨ ∃ c, φ b = .at c s tot) (hb : H[b]? = some (.dat true s es)) (h0 : 0 < s)
    (hes : Each s es') (hn : tot < es'.length) (hsize : w.heap.size ≤ w'.heap.size) (hother : ∀ d, d < w.heap.size → (∀ s' n', φ b ≠ .at d s' n') → w'.heap[d]? = w.heap[d]?) (hshape : ∀ d x, w.shape? d = some x → w'.shape? d = some x)
    (hbelow : Below base w w') (hg : w.heap.size ≤ g ∨ φ b = .at g s tot) (hh : w'.heap[g]? = some (.cells cs e fr)) (hfr : ∀ j, j < cs.size → ¬ (fr.1 ≤ j ∧ j < fr.2)) (hcap : es'.length ≤ cap) (hcs : cap * s ≤ cs.size) (hmax : cap ≤ maxLen)
    (hcells : CRel pure0 (Wr φ H Z) w (es'.flatMap V.cells) (cs.toList.take (es'.length * s))) :
    Turns base Z φ H w (H.set b (.dat true s es')) (.own b es'.length 0 es'.length) (.slice (some ⟨g, 0, none⟩) es'.length cap) w' := by
  have hlt := (List.getElem?_eq_some_iff.1 hb).1
  generalize hx' : Blk.dat true s es' = x'
  have hgl : g < w'.heap.size := (Array.getElem?_eq_some_iff.1 hh).1
  have hk : Keeps (φ b) (.at g s es'.length) := by
    refine ⟨by simp, by simp, fun c s' n' h => ?_⟩
    cases h
    rcases hl with hl | ⟨c', hl⟩
    · exact .inr (.inr ⟨hl, by omega⟩)
    · exact .inr (.inl ⟨c', s, tot, hl, hn⟩)
  have hold : ∀ d s' n', φ b = .at d s' n' → Wr φ H Z d := fun d s' n' h => .inr ⟨b, s', n', _, h, hb, rfl⟩
  have E : Ext H.length φ (Wr φ H Z) w (upd φ b (.at g s es'.length)) (Wr (upd φ b (.at g s es'.length)) (H.set b x') Z) w' :=
    ⟨fun i _ hi => keeps_upd (fun _ => hk) i hi, fun d hd h => wr_upd (w := w) hb rfl (fun h => by
        rcases hg with hg | hg
        · omega
        · exact ⟨s, tot, hg⟩) d hd h, fun d hd hnw => hother d hd fun s' n' h => hnw (hold d s' n' h), hshape, hsize⟩
  have hrow : Row pure0 (Wr (upd φ b (.at g s es'.length)) (H.set b x') Z) w' g s es' := by
    refine Row.ofFlat h0 hh hfr hes (vs := cs.toList.take (es'.length * s)) ?_ fun k v hk => ?_
    · exact hcells.mono E.pure (fun _ h => absurd rfl h)
    · rw [List.getElem?_take] at hk
      split at hk
      · simpa using hk
      · cases hk
  have I' := I.turn (b := b) E (by simp) (fun i hi => upd_ne _ _ hi) (upd_same ..) ⟨by
      rcases hg with hg | hg
      · exact Nat.le_trans I.hb hg
      · exact (I.rng _ _ _ _ hg).1, hgl⟩ (fun i s' n' hib h1 => by
      rcases hg with hg | hg
      · have := (I.rng _ _ _ _ h1).2; omega
      · exact hib (I.inj _ _ _ _ _ _ _ h1 hg)) (fun i x0 hib h1 => ⟨x0, by rw [List.getElem?_set_ne (Ne.symm hib)]; exact h1, x0.le_refl⟩) (List.getElem?_set_self hlt)
    (by rw [← hx']; exact ⟨rfl, rfl, by rw [hx']; exact hrow⟩) (fun i d s' n' hib h1 => hother d (I.rng _ _ _ _ h1).2 fun s'' n'' h2 => hib (I.inj _ _ _ _ _ _ _ h1 h2))
  refine ⟨_, I', .own _ _ _ _ _ rfl (by omega) (by simp) (by simp) fun c' s' n' h => ?_, ⟨E, hbelow⟩, by simp⟩
  rw [upd_same] at h
  cases h
  exact ⟨Nat.le_refl _, fun _ => ⟨_, cap, e, cs.size, rfl, by simp [World.shape?, hh], hcap, fun _ => by simp, fun _ => ⟨hcap, hcs, hmax⟩⟩⟩

end

end Go.Abs

namespace Go.Abs
open Go.RowKit
set_option linter.unusedVariables false
set_option linter.unusedSimpArgs false

/-- Cells set one by one are a row turned. -/
theorem setCells_row {c : Nat} {t : TypeId} {fr : Nat × Nat} : ∀ (vs : List Value) (o : Nat) (cs : Array Value) (w : World), w.heap[c]? = some (.cells cs t fr) → o + vs.length ≤ cs.size →
    (w.setCells c o vs).heap[c]? = some (.cells (cs.toList.take o ++ vs ++ cs.toList.drop (o + vs.length)).toArray t fr) ∧ (w.setCells c o vs).heap.size = w.heap.size ∧ ∀ d, d ≠ c → (w.setCells c o vs).heap[d]? = w.heap[d]?
  | [], o, cs, w, hh, _ => ⟨by simp [World.setCells, hh], rfl, fun _ _ => rfl⟩
  | v :: vs, o, cs, w, hh, hl => by
    simp only [List.length_cons] at hl
    have hlt : o < cs.size := by omega
    have e : w.setCell ⟨c, o, none⟩ v = w.setRow c (cs.setIfInBounds o v) := setCell_eq_setRow w c o cs t fr v hh
    obtain ⟨h1, h2, h3⟩ := setCells_row vs (o + 1) (cs.setIfInBounds o v) (w.setRow c (cs.setIfInBounds o v)) (setRow_heap w c cs _ t fr hh) (by simp; omega)
    simp only [World.setCells, e]
    refine ⟨?_, by rw [h2]; simp [World.setRow], fun d hd => by rw [h3 d hd]; exact setRow_other w c d _ hd⟩
    rw [h1, Array.toList_setIfInBounds, splice_step cs.toList o vs.length v vs (by simpa using hlt), List.length_cons]

end Go.Abs

namespace Go.Abs
open Go.RowKit
set_option linter.unusedVariables false
set_option linter.unusedSimpArgs false

variable {P : Program}

/-- slices.Insert at the end, evaluated; elements of one cell, at most 'bytes' bytes. -/
def insertX (bytes : Nat) : List V → Heap → Option (V × Heap)
  | [.own b tot off len, .int .i64 i, .own b2 t2 o2 l2], H => match H[b]?, H[b2]? with
    | some (.dat true s es), some (.dat _ s2 new) =>
      if s = 1 ∧ s2 = 1 ∧ off = 0 ∧ len = tot ∧ es.length = tot ∧ i = tot ∧ o2 = 0 ∧ l2 = t2 ∧ new.length = t2 ∧ 0 < t2 ∧ b ≠ b2 ∧ (tot + t2) * bytes ≤ room ∧ tot + t2 ≤ room then
        some (.own b (tot + t2) 0 (tot + t2), H.set b (.dat true 1 (es ++ new))) else none
    | _, _ => none
  | _, _ => none

section
variable {base : Nat} {Z : Nat → Prop} {φ : Place} {H : Heap} {w w' : World} {cv : Value}

/-- A whole own slice: where it is. -/
theorem own_whole {b tot s : Nat} {wr : Bool} {es : List V} (I : Inv base Z φ H w) (hb : H[b]? = some (.dat wr s es)) (ht : es.length = tot) (h : VRel φ (Wr φ H Z) w (.own b tot 0 tot) cv) :
    (φ b = .nil ∧ tot = 0 ∧ cv = .slice none 0 0) ∨ ∃ c cap cs t fr, φ b = .at c s tot ∧ cv = .slice (some ⟨c, 0, none⟩) tot cap ∧ tot ≤ cap ∧ cap * s ≤ cs.size ∧ cap ≤ maxLen ∧ w.heap[c]? = some (.cells cs t fr) ∧ 0 < s ∧ Each s es ∧
      (∀ j, j < cs.size → ¬ (fr.1 ≤ j ∧ j < fr.2)) ∧ CRel pure0 (Wr φ H Z) w (es.flatMap V.cells) (cs.toList.take (es.length * s)) := by
  cases h with
  | own _ _ _ _ _ hv h0 h1 h2 h3 =>
    cases hp : φ b with
    | unborn => exact absurd hp h1
    | nil => exact .inl ⟨rfl, h2 hp⟩
    | «at» c s' n =>
      right
      obtain ⟨x, hx, hr⟩ := I.blk _ _ _ _ hp
      rw [hb] at hx
      cases hx
      obtain ⟨hn, hss, hrow⟩ := hr
      subst hss
      obtain ⟨h0', hes, cs, t, fr, hh, hsz, hfr, hcr⟩ := hrow.toFlat
      obtain ⟨a, cap, t', z, e, hsh, hlc, ha, hz⟩ := (h3 c s n hp).2 (by omega)
      have hsh' := shape_at hh
      rw [hsh'] at hsh
      cases hsh
      have := ha (.inr rfl)
      subst this
      refine ⟨c, cap, cs, t, fr, by rw [← ht, ← hn], by rw [e]; simp, hlc, (hz rfl).2.1, (hz rfl).2.2, hh, h0', hes, hfr, hcr⟩

end

end Go.Abs

namespace Go.Abs
open Go.RowKit
set_option linter.unusedVariables false
set_option linter.unusedSimpArgs false

variable {P : Program}

theorem below_setCells {base c : Nat} (hc : base ≤ c) : ∀ (vs : List Value) (o : Nat) (w : World), Below base w (w.setCells c o vs)
  | [], o, w => .refl _ _
  | v :: vs, o, w => by
    simp only [World.setCells]
    exact ((Below.refl base w).setCell (p := ⟨c, o, none⟩) hc v).trans (below_setCells hc vs (o + 1) _)

theorem cell_in {w : World} {c k : Nat} {cs : Array Value} {t : TypeId} {fr : Nat × Nat} (h : w.heap[c]? = some (.cells cs t fr)) : w.cell? ⟨c, k, none⟩ = cs[k]? := by
  simp [World.cell?, h]

theorem len_three' {φ : Place} {W : Nat → Prop} {w : World} {xs : List V} {cxs : Array Value} (h : ArgsRel φ W w xs cxs) {x y z : V} (he : xs = [x, y, z]) : ∃ c d e, cxs = #[c, d, e] ∧ VRel φ W w x c ∧ VRel φ W w y d ∧ VRel φ W w z e := by
  subst he
  obtain ⟨h1, h2⟩ := h
  have hs : cxs.size = 3 := by simpa using h1.symm
  match cxs, hs with
  | ⟨[c, d, e]⟩, _ => exact ⟨c, d, e, rfl, h2 0 _ _ rfl rfl, h2 1 _ _ rfl rfl, h2 2 _ _ rfl rfl⟩

section
variable {base : Nat} {Z : Nat → Prop} {φ : Place} {H : Heap} {w : World}

theorem insert_contract {f : FuncId} {bytes : Nat} {e : TypeId} {zc : Array Value} (hb8 : 1 ≤ bytes) (hz1 : zc.size = 1)
    (hroom : ∀ (b off n c vb voff m vc : Nat) (vs : List Value) (w : World), 0 < m → n + m ≤ c → c ≤ 9223372036854775807 → vs.length = m → (∀ j, j < m → (w.cell? ⟨b, off + n + j, none⟩).isSome = true) → (∀ j, j < m → w.frozen? ⟨b, off + n + j, none⟩ = false) →
      (∀ j v, vs[j]? = some v → w.cell? ⟨vb, voff + j, none⟩ = some v) → (∀ v ∈ vs, v.oneCell' = true) →
      Calls P f #[.slice (some ⟨b, off, none⟩) n c, .int .i64 n, .slice (some ⟨vb, voff, none⟩) m vc] w fun e w' => e = .returned (.slice (some ⟨b, off, none⟩) (n + m) c) ∧ w' = w.setCells b (off + n) vs)
    (hgrow : ∀ (base : Option Addr) (n c vb voff m vc : Nat) (cs vs : List Value) (w : World), 0 < m → n ≤ c → c < n + m → (n + m) * bytes ≤ 140737488355328 → cs.length = n → vs.length = m → (base = none → n = 0) →
      (∀ a, base = some a → ∀ j v, cs[j]? = some v → w.cell? (a.add j) = some v) → (∀ j v, vs[j]? = some v → w.cell? ⟨vb, voff + j, none⟩ = some v) → (∀ v ∈ vs, v.oneCell' = true) →
      Calls P f #[.slice base n c, .int .i64 n, .slice (some ⟨vb, voff, none⟩) m vc] w fun x w' =>
        x = .returned (.slice (some ⟨w.heap.size, 0, none⟩) (n + m) (grownCap w (n + m) c e)) ∧ w' = w.drew.alloc (.cells ((cs ++ vs).toArray ++ Builtin.zeroCells zc (grownCap w (n + m) c e - (n + m))) e))
    (args : List V) (r : V) (H' : Heap) (hx : insertX bytes args H = some (r, H')) {cargs : Array Value} (I : Inv base Z φ H w) (ha : ArgsRel φ (Wr φ H Z) w args cargs) :
    Calls P f cargs w (fun e w' => ∃ v, e = .returned v ∧ Turns base Z φ H w H' r v w') := by
  unfold insertX at hx
  split at hx
  case h_2 => cases hx
  rename_i b tot off len i b2 t2 o2 l2
  split at hx
  case h_2 => cases hx
  rename_i s es wr2 s2 new hH1 hH2
  split at hx
  case isFalse => cases hx
  rename_i hc
  obtain ⟨rfl, rfl, rfl, rfl, ht, rfl, rfl, rfl, ht2, hpos, hne, hby, hrm⟩ := hc
  cases hx
  obtain ⟨c1, c2, c3, rfl, r1, r2, r3⟩ := len_three' ha rfl
  cases r2
  have h2 := own_whole I hH2 ht2 r3
  rcases h2 with ⟨_, h0, _⟩ | ⟨vb, vc, vcs, vt, vfr, hvl, rfl, hvc, hvz, _, hvh, _, hnew, hvf, hvr⟩
  · omega
  simp only [Nat.mul_one] at hvz hvr
  have hvs : vcs.toList.length = vcs.size := Array.length_toList
  have hvlen : (vcs.toList.take new.length).length = l2 := by rw [List.length_take, hvs]; omega
  have hvcell : ∀ j v, (vcs.toList.take new.length)[j]? = some v → w.cell? ⟨vb, 0 + j, none⟩ = some v := fun j v hj => by
    rw [cell_in hvh, Nat.zero_add]
    rw [List.getElem?_take] at hj
    split at hj
    · simpa using hj
    · cases hj
  have hm : 140737488355328 ≥ (len + l2) * bytes := Nat.le_trans hby (by unfold room; decide)
  have hmm : len + l2 ≤ maxLen := Nat.le_trans hrm (by unfold room maxLen; decide)
  have hlt : len + l2 = (es ++ new).length := by rw [List.length_append]; omega
  have esnew : (Each 1 es) → Each 1 (es ++ new) := fun h => h.append hnew
  rcases own_whole I hH1 ht r1 with ⟨hnil, h0, rfl⟩ | ⟨c, cap, cs, t, fr, hl, rfl, hcap, hsz, hmx, hh, h01, hes, hfr, hcr⟩
  · -- the nil slice
    subst h0
    have hes0 : es = [] := List.eq_nil_of_length_eq_zero ht
    subst hes0
    refine Calls.mono (hgrow none 0 0 vb 0 l2 vc [] _ w hpos (Nat.le_refl _) (by omega) hm rfl hvlen (fun _ => rfl) (by simp) hvcell hvr.2.1) fun x w' ⟨hx, hw⟩ => ⟨_, hx, ?_⟩
    subst hw
    have hg := grownCap_ge w (0 + l2) 0 e
    have hg2 := grownCap_le_maxLen w (0 + l2) 0 e hmm
    generalize grownCap w (0 + l2) 0 e = G at hg hg2 ⊢
    have hsize : (([] ++ vcs.toList.take new.length).toArray ++ Builtin.zeroCells zc (G - (0 + l2))).size = G := by
      rw [Array.size_append, size_zeroCells, hz1, List.size_toArray, List.length_append, hvlen]; simp; omega
    have := e_redo (b := b) (s := 1) (tot := 0) (cap := G) (g := w.heap.size) (es := []) (es' := [] ++ new) (w' := w.drew.alloc (.cells (([] ++ vcs.toList.take new.length).toArray ++ Builtin.zeroCells zc (G - (0 + l2))) e)) I (.inl hnil) hH1 (by omega) (esnew (fun i e he => by simp at he)) (by rw [← hlt]; omega) (by simp) (fun d hd _ => heap_alloc_lt w.drew _ d hd) (fun d x hx => by
        have hd : d < w.heap.size := by
          unfold World.shape? at hx
          cases hh : w.heap[d]? with
          | none => rw [hh] at hx; cases hx
          | some _ => exact (Array.getElem?_eq_some_iff.1 hh).1
        rw [shape_of_heap (heap_alloc_lt w.drew _ d hd)]; exact hx) (Below.alloc (Below.drew (.refl ..)) I.hb _) (.inl (Nat.le_refl _)) (heap_alloc_at w.drew _) (fun j _ h => absurd h.2 (Nat.not_lt_zero _)) (by rw [← hlt]; omega) (by rw [hsize]; omega) hg2 (by
        have : (([] ++ vcs.toList.take new.length).toArray ++ Builtin.zeroCells zc (G - (0 + l2))).toList.take (([] ++ new).length * 1) = vcs.toList.take new.length := by
          rw [Array.toList_append, List.take_append_of_le_length (by simp; omega), List.take_of_length_le (by simp; omega)]; simp
        rw [this]
        simpa using hvr)
    simpa [← ht2] using this
  · simp only [Nat.mul_one] at hsz hcr
    have hcl : cs.toList.length = cs.size := Array.length_toList
    by_cases hr : len + l2 ≤ cap
    · refine Calls.mono (hroom c 0 len cap vb 0 l2 vc _ w hpos hr (by unfold maxLen at hmx; omega) hvlen (fun j hj => ?_) (fun j hj => ?_) hvcell hvr.2.1) fun x w' ⟨hx, hw⟩ => ⟨_, hx, ?_⟩
      · rw [cell_in hh, Array.getElem?_eq_getElem (by omega)]; rfl
      · exact frozen_at hh hfr (by omega)
      · subst hw
        obtain ⟨g1, g2, g3⟩ := setCells_row (c := c) (t := t) (fr := fr) (vcs.toList.take new.length) (0 + len) cs w hh (by rw [hvlen]; omega)
        have hl1 : cs.toList.take (0 + len) = cs.toList.take es.length := by rw [Nat.zero_add, ht]
        have hlen1 : (cs.toList.take (0 + len)).length = es.length := by rw [hl1, List.length_take, hcl]; omega
        have hsize : (cs.toList.take (0 + len) ++ vcs.toList.take new.length ++ cs.toList.drop (0 + len + (vcs.toList.take new.length).length)).toArray.size = cs.size := by
          rw [hvlen]
          simp only [List.size_toArray, List.length_append, hlen1, hvlen, List.length_drop, hcl]; omega
        have := e_redo (b := b) (s := 1) (tot := len) (cap := cap) (g := c) (es := es) (es' := es ++ new) I (.inr ⟨c, hl⟩) hH1 (by omega) (esnew hes) (by rw [← hlt]; omega) (by rw [g2]; exact Nat.le_refl _) (fun d hd h => g3 d fun hdc => h 1 len (by rw [hl, hdc])) (fun d x hy => by
          by_cases hdc : d = c
          · subst hdc
            rw [shape_at hh] at hy
            cases hy
            rw [shape_at g1, hsize]
          · rw [shape_of_heap (g3 d hdc)]; exact hy) (below_setCells (I.rng _ _ _ _ hl).1 _ _ _) (.inr hl) g1 (fun j hj => hfr j (by rw [hsize] at hj; exact hj)) (by rw [← hlt]; exact hr) (by rw [hsize]; omega) hmx (by
          have : (cs.toList.take (0 + len) ++ vcs.toList.take new.length ++ cs.toList.drop (0 + len + (vcs.toList.take new.length).length)).toArray.toList.take ((es ++ new).length * 1) = cs.toList.take es.length ++ vcs.toList.take new.length := by
            rw [hl1] at hlen1
            simp only [hl1]
            rw [List.take_append_of_le_length (by simp only [List.length_append, hlen1, hvlen]; omega), List.take_of_length_le (by simp only [List.length_append, hlen1, hvlen]; omega)]
          rw [this, List.flatMap_append]
          exact hcr.append hvr)
        rw [← hlt] at this
        exact this
    · refine Calls.mono (hgrow (some ⟨c, 0, none⟩) len cap vb 0 l2 vc (cs.toList.take es.length) _ w hpos hcap (by omega) hm (by rw [List.length_take, hcl]; omega) hvlen (by simp) (fun a ha j v hj => ?_) hvcell hvr.2.1) fun x w' ⟨hx, hw⟩ => ⟨_, hx, ?_⟩
      · cases ha
        rw [Addr.add_lit, Nat.zero_add, cell_in hh]
        rw [List.getElem?_take] at hj
        split at hj
        · simpa using hj
        · cases hj
      · subst hw
        have hg := grownCap_ge w (len + l2) cap e
        have hg2 := grownCap_le_maxLen w (len + l2) cap e hmm
        generalize grownCap w (len + l2) cap e = G at hg hg2 ⊢
        have hsize : ((cs.toList.take es.length ++ vcs.toList.take new.length).toArray ++ Builtin.zeroCells zc (G - (len + l2))).size = G := by
          rw [Array.size_append, size_zeroCells, hz1, List.size_toArray, List.length_append, hvlen, List.length_take, hcl]; omega
        have := e_redo (b := b) (s := 1) (tot := len) (cap := G) (g := w.heap.size) (es := es) (es' := es ++ new) (w' := w.drew.alloc (.cells ((cs.toList.take es.length ++ vcs.toList.take new.length).toArray ++ Builtin.zeroCells zc (G - (len + l2))) e)) I (.inr ⟨c, hl⟩) hH1 (by omega) (esnew hes) (by rw [← hlt]; omega) (by simp) (fun d hd _ => heap_alloc_lt w.drew _ d hd) (fun d x hx => by
            have hd : d < w.heap.size := by
              unfold World.shape? at hx
              cases hh : w.heap[d]? with
              | none => rw [hh] at hx; cases hx
              | some _ => exact (Array.getElem?_eq_some_iff.1 hh).1
            rw [shape_of_heap (heap_alloc_lt w.drew _ d hd)]; exact hx) (Below.alloc (Below.drew (.refl ..)) I.hb _) (.inl (Nat.le_refl _)) (heap_alloc_at w.drew _) (fun j _ h => absurd h.2 (Nat.not_lt_zero _)) (by rw [← hlt]; omega) (by rw [hsize]; omega) hg2 (by
            have hlen1 : (cs.toList.take es.length).length = es.length := by rw [List.length_take, hcl]; omega
            have : ((cs.toList.take es.length ++ vcs.toList.take new.length).toArray ++ Builtin.zeroCells zc (G - (len + l2))).toList.take ((es ++ new).length * 1) = cs.toList.take es.length ++ vcs.toList.take new.length := by
              rw [Array.toList_append, List.take_append_of_le_length (by simp only [List.length_append, hlen1, hvlen]; omega), List.take_of_length_le (by simp only [List.length_append, hlen1, hvlen]; omega)]
            rw [this, List.flatMap_append]
            exact hcr.append hvr)
        rw [← hlt] at this
        exact this

end
end Go.Abs

namespace Go.Abs
open Go.RowKit
set_option linter.unusedVariables false
set_option linter.unusedSimpArgs false

variable {P : Program}

/-- math/bits.Mul, evaluated. -/
def mulX : List V → Option (V × Heap)
  | [.int .u64 a, .int .u64 b] => if 0 ≤ a ∧ a < 18446744073709551616 ∧ 0 ≤ b ∧ b < 18446744073709551616 then
      some (.tuple [.int .u64 ((a.toNat * b.toNat / 18446744073709551616 : Nat) : Int), .int .u64 ((a.toNat * b.toNat % 18446744073709551616 : Nat) : Int)], []) else none
  | _ => none

theorem mul_contract {f : FuncId} (h : ∀ (x y : Nat) (w : World), x < 18446744073709551616 → y < 18446744073709551616 →
      Calls P f #[.int .u64 x, .int .u64 y] w fun e w' => e = .returned (.tuple #[.int .u64 ((x * y / 18446744073709551616 : Nat) : Int), .int .u64 ((x * y % 18446744073709551616 : Nat) : Int)]) ∧ w' = w)
    (as : List V) (r : V) (H' : Heap) (hx : mulX as = some (r, H')) : Contract P f as r H' := fun base Z w cargs I ha => by
  unfold mulX at hx
  split at hx
  case h_2 => cases hx
  rename_i a b
  split at hx
  case isFalse => cases hx
  rename_i hc
  cases hx
  obtain ⟨c1, c2, rfl, h1, h2⟩ := len_two ha rfl
  cases h1
  cases h2
  obtain ⟨m, rfl⟩ : ∃ m : Nat, a = m := ⟨a.toNat, by omega⟩
  obtain ⟨n, rfl⟩ : ∃ n : Nat, b = n := ⟨b.toNat, by omega⟩
  refine Calls.mono (h m n w (by omega) (by omega)) fun e w' ⟨he, hw⟩ => ⟨_, he, ?_⟩
  subst hw
  refine turns_below I (.refl _ _) ?_
  refine .tuple _ _ rfl fun i c v hc hv => ?_
  match i with
  | 0 => simp at hc hv; rw [← hc, ← hv]; exact .int _ _
  | 1 => simp at hc hv; rw [← hc, ← hv]; exact .int _ _
  | _ + 2 => simp at hc
end Go.Abs

