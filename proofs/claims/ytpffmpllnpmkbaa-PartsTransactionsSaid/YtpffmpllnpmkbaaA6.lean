/- Proved here: part 6 of a sound evaluator for the model: what it computes of a call, the call does. No condition. -/
import Derived.Test.YtpffmpllnpmkbaaA5
import Derived.Sort.Row
import Derived.Sort.Grow
namespace Go.Abs
open Go.RowKit
set_option linter.unusedVariables false
set_option linter.unusedSimpArgs false

/-- Words of one kind. -/
abbrev strs (S : List (List UInt8)) : List V := S.map V.str
abbrev ints (B : List Int) : List V := B.map (V.int .i64)

attribute [simp] fieldAddrV loadV sub mk live lenT lenV elems srcV binV intOp strOp unV convV ownify storeV setSub builtinV isShift indexAddrV indexV sliceV loIdx hiIdx
  resultsV resV expo reach pack blocksOf nodup above refsH refsOf atHead headK zeroOk freeze appendV copyV makeSliceV buildV buildSliceV setElems placesOf fillV lookupV mapUpdateV mapOf keyOk findK setK sameKey
attribute [simp] indexOf isIntT isStrT isBoolT

section
variable {H : Heap} {ρ : Nat → Option Nat}
@[simp] theorem want1_some {env : Env} {d : Nat} {want b : Bool} (h : env.get d = .bool b) : want1 env (some (some d, want)) = if b = want then .yes else .no := by simp [want1, h]
@[simp] theorem want1_tup {env : Env} {d : Nat} {want : Bool} (h : env.get d = .tuple []) : want1 env (some (some d, want)) = .no := by simp [want1, h]
@[simp] theorem want1_dead {env : Env} {want : Bool} : want1 env (some (none, want)) = .no := rfl

@[simp] theorem seal_bool (b : Bool) : sealV H (.bool b) = some (.bool b, []) := rfl
@[simp] theorem seal_int (k : IntKind) (n : Int) : sealV H (.int k n) = some (.int k n, []) := rfl
@[simp] theorem seal_str (s : List UInt8) : sealV H (.str s) = some (.str s, []) := rfl
@[simp] theorem seal_sl (es : List V) : sealV H (.sl es) = some (.sl es, []) := rfl
@[simp] theorem seal_nils : sealV H .nils = some (.sl [], []) := rfl
@[simp] theorem seal_nilm : sealV H .nilm = some (.mapr [] [], []) := rfl
@[simp] theorem seal_mapr (a b : List V) : sealV H (.mapr a b) = some (.mapr a b, []) := rfl
@[simp] theorem seal_rop (e : V) : sealV H (.rop e) = none := rfl
@[simp] theorem seal_ptr (a b c d : Nat) : sealV H (.ptr a b c d) = none := rfl
@[simp] theorem seal_fn (f : Nat) (cs : List V) : sealV H (.fn f cs) = none := rfl
@[simp] theorem seal_own (b tot off len : Nat) : sealV H (.own b tot off len) = match H[b]? with
    | some (.dat _ sz es) => if es.length = tot then some (.sl (if off = 0 ∧ len = tot then es else (es.drop off).take len), [b]) else none
    | _ => none := rfl
@[simp] theorem seal_map (b : Nat) : sealV H (.map b) = match H[b]? with
    | some (.map _ ks vs) => some (.mapr ks vs, [b])
    | _ => none := rfl
@[simp] theorem seal_agg (cs : List V) : sealV H (.agg cs) = match sealL H cs with
    | some (cs', bs) => some (.agg cs', bs)
    | none => none := rfl
@[simp] theorem seal_tuple (cs : List V) : sealV H (.tuple cs) = match sealL H cs with
    | some (cs', bs) => some (.tuple cs', bs)
    | none => none := rfl
@[simp] theorem sealL_nil : sealL H [] = some ([], []) := rfl
@[simp] theorem sealL_cons (c : V) (cs : List V) : sealL H (c :: cs) = match sealV H c, sealL H cs with
    | some (c', b), some (cs', bs) => some (c' :: cs', b ++ bs)
    | _, _ => none := rfl

@[simp] theorem hasRo_bool (b : Bool) : hasRo (.bool b) = false := rfl
@[simp] theorem hasRo_int (k : IntKind) (n : Int) : hasRo (.int k n) = false := rfl
@[simp] theorem hasRo_str (s : List UInt8) : hasRo (.str s) = false := rfl
@[simp] theorem hasRo_nils : hasRo .nils = false := rfl
@[simp] theorem hasRo_nilm : hasRo .nilm = false := rfl
@[simp] theorem hasRo_own (b t o l : Nat) : hasRo (.own b t o l) = false := rfl
@[simp] theorem hasRo_ptr (b t o l : Nat) : hasRo (.ptr b t o l) = false := rfl
@[simp] theorem hasRo_map (b : Nat) : hasRo (.map b) = false := rfl
@[simp] theorem hasRo_sl (es : List V) : hasRo (.sl es) = !es.isEmpty := rfl
@[simp] theorem hasRo_mapr (a b : List V) : hasRo (.mapr a b) = true := rfl
@[simp] theorem hasRo_rop (e : V) : hasRo (.rop e) = true := rfl
@[simp] theorem hasRo_agg (cs : List V) : hasRo (.agg cs) = hasRoL cs := rfl
@[simp] theorem hasRo_tuple (cs : List V) : hasRo (.tuple cs) = hasRoL cs := rfl
@[simp] theorem hasRo_fn (f : Nat) (cs : List V) : hasRo (.fn f cs) = hasRoL cs := rfl
@[simp] theorem hasRoL_nil : hasRoL [] = false := rfl
@[simp] theorem hasRoL_cons (c : V) (cs : List V) : hasRoL (c :: cs) = (hasRo c || hasRoL cs) := rfl
theorem hasRoL_any (cs : List V) : hasRoL cs = cs.any hasRo := by
  induction cs with
  | nil => rfl
  | cons c cs ih => rw [hasRoL, ih]; rfl
@[simp] theorem hasRoL_append (a b : List V) : hasRoL (a ++ b) = (hasRoL a || hasRoL b) := by simp [hasRoL_any]
@[simp] theorem hasRoL_strs {α : Type} (f : α → List UInt8) (S : List α) : hasRoL (S.map fun x => V.str (f x)) = false := by simp [hasRoL_any]
@[simp] theorem hasRoL_strs' (S : List (List UInt8)) : hasRoL (S.map V.str) = false := hasRoL_strs id S
@[simp] theorem hasRoL_ints {α : Type} (k : IntKind) (f : α → Int) (S : List α) : hasRoL (S.map fun x => V.int k (f x)) = false := by simp [hasRoL_any]
@[simp] theorem hasRoL_ints' (k : IntKind) (S : List Int) : hasRoL (S.map (V.int k)) = false := hasRoL_ints k id S
@[simp] theorem hasRoL_rep (n : Nat) (v : V) (h : hasRo v = false) : hasRoL (List.replicate n v) = false := by
  rw [hasRoL_any, List.any_eq_false]
  intro x hx
  rw [(List.mem_replicate.1 hx).2, h]; simp
@[simp] theorem hasRoL_u8s (s : List UInt8) : hasRoL (u8s s) = false := by simp [hasRoL_any, u8s]
@[simp] theorem hasRoB_dat (w : Bool) (s : Nat) (es : List V) : hasRoB (.dat w s es) = hasRoL es := rfl
@[simp] theorem hasRoB_box (e : V) : hasRoB (.box e) = hasRo e := rfl
@[simp] theorem hasRoB_map (w : Bool) (a b : List V) : hasRoB (.map w a b) = (hasRoL a || hasRoL b) := rfl

@[simp] theorem refs_own (b t o l : Nat) : refs (.own b t o l) = [b] := rfl
@[simp] theorem refs_ptr (b t o l : Nat) : refs (.ptr b t o l) = [b] := rfl
@[simp] theorem refs_map (b : Nat) : refs (.map b) = [b] := rfl
@[simp] theorem refs_agg (cs : List V) : refs (.agg cs) = refsL cs := rfl
@[simp] theorem refs_tuple (cs : List V) : refs (.tuple cs) = refsL cs := rfl
@[simp] theorem refs_fn (f : Nat) (cs : List V) : refs (.fn f cs) = refsL cs := rfl
@[simp] theorem refs_bool (b : Bool) : refs (.bool b) = [] := rfl
@[simp] theorem refs_int (k : IntKind) (n : Int) : refs (.int k n) = [] := rfl
@[simp] theorem refs_str (s : List UInt8) : refs (.str s) = [] := rfl
@[simp] theorem refs_nils : refs .nils = [] := rfl
@[simp] theorem refs_nilm : refs .nilm = [] := rfl
@[simp] theorem refs_undef : refs .undef = [] := rfl
@[simp] theorem refs_sl (es : List V) : refs (.sl es) = [] := rfl
@[simp] theorem refs_mapr (a b : List V) : refs (.mapr a b) = [] := rfl
@[simp] theorem refs_rop (e : V) : refs (.rop e) = [] := rfl
@[simp] theorem refsL_nil : refsL [] = [] := rfl
@[simp] theorem refsL_cons (c : V) (cs : List V) : refsL (c :: cs) = refs c ++ refsL cs := rfl

@[simp] theorem ren_own (b t o l : Nat) : ren ρ (.own b t o l) = match ρ b with | some b' => .own b' t o l | none => .undef := rfl
@[simp] theorem ren_ptr (b t i o : Nat) : ren ρ (.ptr b t i o) = match ρ b with | some b' => .ptr b' t i o | none => .undef := rfl
@[simp] theorem ren_map (b : Nat) : ren ρ (.map b) = match ρ b with | some b' => .map b' | none => .undef := rfl
@[simp] theorem ren_agg' (cs : List V) : ren ρ (.agg cs) = .agg (renL ρ cs) := rfl
@[simp] theorem ren_tuple (cs : List V) : ren ρ (.tuple cs) = .tuple (renL ρ cs) := rfl
@[simp] theorem ren_fn (f : Nat) (cs : List V) : ren ρ (.fn f cs) = .fn f (renL ρ cs) := rfl
@[simp] theorem ren_bool (b : Bool) : ren ρ (.bool b) = .bool b := rfl
@[simp] theorem ren_int (k : IntKind) (n : Int) : ren ρ (.int k n) = .int k n := rfl
@[simp] theorem ren_str (s : List UInt8) : ren ρ (.str s) = .str s := rfl
@[simp] theorem ren_nils : ren ρ .nils = .nils := rfl
@[simp] theorem ren_nilm : ren ρ .nilm = .nilm := rfl
@[simp] theorem ren_undef : ren ρ .undef = .undef := rfl
@[simp] theorem ren_sl (es : List V) : ren ρ (.sl es) = .sl es := rfl
@[simp] theorem ren_mapr (a b : List V) : ren ρ (.mapr a b) = .mapr a b := rfl
@[simp] theorem ren_rop (e : V) : ren ρ (.rop e) = .rop (ren ρ e) := rfl
@[simp] theorem renL_nil : renL ρ [] = [] := rfl
@[simp] theorem renL_cons (c : V) (cs : List V) : renL ρ (c :: cs) = ren ρ c :: renL ρ cs := rfl
@[simp] theorem renB_box (e : V) : renB ρ (.box e) = .box (ren ρ e) := rfl
@[simp] theorem renB_dat (w : Bool) (s : Nat) (es : List V) : renB ρ (.dat w s es) = .dat w s es := rfl
@[simp] theorem renB_map (w : Bool) (a b : List V) : renB ρ (.map w a b) = .map w a b := rfl
@[simp] theorem shift_eq (n b : Nat) : shift n b = some (b + n) := rfl
@[simp] theorem toK_eq (h0 : Nat) (K : List Nat) (b : Nat) : toK h0 K b = if b < h0 then some b else indexOf b K h0 := rfl

@[simp] theorem idx_int (k : IntKind) (n : Int) : idx? (.int k n) = if 0 ≤ n then some n.toNat else none := by
  cases n with
  | ofNat n => simp [idx?]
  | negSucc n => simp [idx?]
theorem wrap_id {x : Int} (h : -9223372036854775808 ≤ x) (h' : x ≤ 9223372036854775807) : IntKind.i64.wrap x = x := by rw [IntKind.wrap_i64]; omega
theorem get_map {α β : Type} {f : α → β} {S : List α} {i : Nat} (h : i < S.length) : (S.map f)[i]? = some (f (S[i]'h)) := by simp [h]
theorem get_at {α : Type} {S : List α} {i : Nat} (h : i < S.length) : S[i]? = some (S[i]'h) := by simp [h]

end

@[simp] theorem ofU8s_rep (n : Nat) : ofU8s (List.replicate n (.int .u8 0)) = some (List.replicate n 0) := by
  induction n with
  | zero => rfl
  | succ n ih => simp [List.replicate_succ, ofU8s, ih]
@[simp] theorem ofU8s_u8 (s : List UInt8) : ofU8s (u8s s) = some s := by
  induction s with
  | nil => rfl
  | cons b s ih => simp only [u8s, List.map_cons, ofU8s] at ih ⊢; rw [ih]; simp

theorem callW_none {C : Ctx} {d : Bool} {f : FuncId} {xs : List V} {H : Heap} : callW C d (.fn f []) xs H = callW C d (.fn f []) xs H := rfl

/-- A call of a function of the table. -/
theorem callW_body {C : Ctx} {d : Bool} {f : FuncId} {xs : List V} {H : Heap} (h1 : C.extE f = none) (h2 : C.ext f = none) : callW C d (.fn f []) xs H = match sealL H xs with
    | some (ys, bs) => match bodyW C f ys [] with
      | some (r, H') => some (ren (shift H.length) r, (if hasRo r || H'.any hasRoB then freeze H bs else H) ++ H'.map (renB (shift H.length)))
      | none => none
    | none => if d then none else bodyW C f xs H := by
  rw [callW_def, h1, h2]
  simp only [ite_self, List.append_nil]
  rfl

theorem callW_ext {C : Ctx} {d : Bool} {f : FuncId} {xs : List V} {H : Heap} {g : List V → Option (V × Heap)} (h1 : C.extE f = none) (h2 : C.ext f = some g) : callW C d (.fn f []) xs H = match sealL H xs with
    | some (ys, bs) => match g ys with
      | some (r, H') => some (ren (shift H.length) r, (if hasRo r || H'.any hasRoB then freeze H bs else H) ++ H'.map (renB (shift H.length)))
      | none => none
    | none => if d then none else bodyW C f xs H := by
  rw [callW_def, h1, h2]
  simp only [ite_self, List.append_nil]
  rfl

/-- A loop whose state is told by s. -/
theorem go_while {C : Ctx} {f : FuncId} {h0 key : Nat} {b : SC} {env : Env} {H : Heap} {Q : X → Env → Heap → Prop} {σ : Type} (e : σ → Env) (h : σ → Heap) (I : σ → Prop) (μ : σ → Nat) (s0 : σ) (hh : headK C f h0 key env H = some (e s0, h s0)) (hI : I s0)
    (round : ∀ s, I s → Go1 C f h0 b (e s) (h s) (Next (fun e' h' => ∃ s', headK C f h0 key e' h' = some (e s', h s') ∧ μ s' < μ s ∧ I s') Q)) : Go1 C f h0 (.loop key b) env H Q := by
  refine go_loop (n := μ s0) (fun n e' h' => ∃ s, e' = e s ∧ h' = h s ∧ n = μ s ∧ I s) hh ⟨s0, rfl, rfl, rfl, hI⟩ fun n e' h' ⟨s, h1, h2, h3, h4⟩ => ?_
  subst h1 h2 h3
  intro c hc
  refine (round s h4 c hc).mono fun x e1 h1 hx => ?_
  cases x with
  | normal =>
    obtain ⟨s', p1, p2, p3⟩ := hx
    exact ⟨_, _, _, p1, p2, s', rfl, rfl, rfl, p3⟩
  | exit i => exact hx
  | ret => exact hx

/-- A loop that counts. -/
theorem go_count {C : Ctx} {f : FuncId} {h0 key : Nat} {b : SC} {env : Env} {H : Heap} {Q : X → Env → Heap → Prop} (N : Nat) (e : Nat → Env) (h : Nat → Heap) (I : Nat → Prop) (hh : headK C f h0 key env H = some (e 0, h 0)) (hI : I 0)
    (round : ∀ i, i ≤ N → I i → Go1 C f h0 b (e i) (h i) (Next (fun e' h' => i < N ∧ headK C f h0 key e' h' = some (e (i + 1), h (i + 1)) ∧ I (i + 1)) Q)) : Go1 C f h0 (.loop key b) env H Q := by
  refine go_while e h (fun i => i ≤ N ∧ I i) (fun i => N - i) 0 hh ⟨Nat.zero_le _, hI⟩ fun i hi c hc => ?_
  refine (round i hi.1 hi.2 c hc).mono fun x e1 h1 hx => ?_
  cases x with
  | normal => exact ⟨i + 1, hx.2.1, by show N - (i + 1) < N - i; have := hx.1; omega, hx.1, hx.2.2⟩
  | exit i => exact hx
  | ret => exact hx

section
variable {C : Ctx} {f : FuncId} {h0 : Nat} {env : Env} {H : Heap} {Q : X → Env → Heap → Prop} {N : Env → Heap → Prop} {i j : Nat}
theorem next_normal (h : N env H) : Next N Q .normal env H := h
theorem next_exit (h : Q (.exit i) env H) : Next N Q (.exit i) env H := h
theorem next_ret (h : Q .ret env H) : Next N Q .ret env H := h
theorem inb_normal (h : Q .normal env H) : InBlock i Q .normal env H := h
theorem inb_ret (h : Q .ret env H) : InBlock i Q .ret env H := h
theorem inb_here (h : Q .normal env H) : InBlock i Q (.exit i) env H := by show Q (if i = i then .normal else .exit i) env H; rw [if_pos rfl]; exact h
theorem inb_past (hn : j ≠ i) (h : Q (.exit j) env H) : InBlock i Q (.exit j) env H := by show Q (if j = i then .normal else .exit j) env H; rw [if_neg hn]; exact h
theorem go_yes {c : Operand} {a b : SC} (hc : evO env c = .bool true) (h : Go1 C f h0 a env H Q) : Go1 C f h0 (.cond c a b) env H Q := go_cond true hc (fun _ => h) (fun h => by cases h)
theorem go_no {c : Operand} {a b : SC} (hc : evO env c = .bool false) (h : Go1 C f h0 b env H Q) : Go1 C f h0 (.cond c a b) env H Q := go_cond false hc (fun h => by cases h) (fun _ => h)
theorem ends_ok {rs : List ResultVar} {R : V → Heap → Prop} {vs : List V} {r : V} {H' : Heap} (h1 : Is (resultsV C.P env H rs) vs) (h2 : Is (expo h0 (resV vs) H) (r, H')) (h3 : R r H') : Ends C rs h0 R .ret env H := ⟨vs, r, H', h1, h2, h3⟩
theorem ends_ok' {rs : List ResultVar} {R : V → Heap → Prop} {vs : List V} {r : V} {H' : Heap} (h1 : Is (resultsV C.P env H rs) vs) (h2 : Is (expo h0 (resV vs) H) (r, H')) (h3 : R r H') : Ends C rs h0 R .normal env H := ⟨vs, r, H', h1, h2, h3⟩
end

theorem gives_iff {C : Ctx} {f : FuncId} {args : List V} {H H' : Heap} {r : V} (h : Body.Gives C f args H fun r' h' => r' = r ∧ h' = H') : bodyW C f args H = some (r, H') := by
  obtain ⟨r', h', h1, rfl, rfl⟩ := h
  exact h1

end Go.Abs

namespace Go.Abs
open Go.RowKit
set_option linter.unusedVariables false
set_option linter.unusedSimpArgs false

def dstAt : List Oper → Nat → Option Nat
  | [], _ => none
  | o :: _, 0 => o.dst
  | _ :: r, n + 1 => dstAt r n

def guardL (ops : List Oper) : Option (Nat × Bool) → Option (Option Nat × Bool)
  | none => none
  | some (j, w) => some (dstAt ops j, w)

def sopsL (ops : List Oper) : List Oper → List Sop
  | [] => []
  | o :: r => ⟨o.dst, o.op, o.type, guardL ops o.guard⟩ :: sopsL ops r

def scL : Code → SC
  | .skip => .skip
  | .ret => .ret
  | .exit id => .exit id
  | .region _ ⟨ops⟩ draw => .region draw (sopsL ops ops)
  | .seq a b => .seq (scL a) (scL b)
  | .cond c a b => .cond c (scL a) (scL b)
  | .block id b => .block id (scL b)
  | .loop b => .loop (loopKey b) (scL b)
  | _ => .bad

theorem dstAt_eq : ∀ (ops : List Oper) (j : Nat), dstAt ops j = (ops[j]?).bind (·.dst)
  | [], _ => rfl
  | _ :: _, 0 => rfl
  | _ :: r, n + 1 => by rw [dstAt, dstAt_eq r n]; simp

theorem sopsL_eq (ops : List Oper) : ∀ (l : List Oper), sopsL ops l = l.map (sopOf ⟨ops⟩)
  | [] => rfl
  | o :: r => by
    rw [sopsL, sopsL_eq ops r, List.map_cons]
    congr 1
    unfold sopOf
    congr 1
    cases o.guard with
    | none => rfl
    | some g => simp [guardL, dstAt_eq]

theorem scL_eq : ∀ c, scOf c = scL c
  | .skip => rfl
  | .ret => rfl
  | .exit id => rfl
  | .region _ ⟨ops⟩ draw => by simp [scOf, scL, sopsL_eq]
  | .seq a b => by rw [scOf, scL, scL_eq a, scL_eq b]
  | .cond c a b => by rw [scOf, scL, scL_eq a, scL_eq b]
  | .block id b => by rw [scOf, scL, scL_eq b]
  | .loop b => by rw [scOf, scL, scL_eq b]
  | .scope _ => rfl
  | .rangeFunc _ _ _ _ => rfl
  | .label _ => rfl
  | .goto _ => rfl
  | .refuse _ => rfl

/-- A function's code, in short. -/
def codeL (F : Func) : SC := match F.body with
  | some c => scL c
  | none => .bad

theorem go_func {C : Ctx} {f : FuncId} {args : List V} {H : Heap} {R : V → Heap → Prop} (F : Func) (hb : C.body f = bodyOf F) (hs : F.body.isSome = true) (hl : args.length ≤ F.ntmps)
    (h : Go1 C f H.length (codeL F) (argEnv args 0) H (Ends C F.results.toList H.length R)) : Body.Gives C f args H R := by
  cases hF : F.body with
  | none => rw [hF] at hs; cases hs
  | some c =>
    unfold bodyOf at hb
    rw [hF] at hb
    unfold codeL at h
    rw [hF] at h
    exact go_body hb (scL_eq c) hl h

section
variable {P : Program} {call : CallV} {env : Env} {H : Heap} {ty : Nat}
@[simp] theorem ev1_alloc (t : Nat) : ev1 P call env H (.alloc t) ty = match zeroV P t with
    | some z => match z with
      | .agg cs => if cs.isEmpty then none else some (.ptr (ownifyL (slotSizes P t) cs H).2.length 1 0 0, (ownifyL (slotSizes P t) cs H).2 ++ [.box (.agg (ownifyL (slotSizes P t) cs H).1)])
      | z => if z.storable then some (.ptr (ownify (slotSize P t) z H).2.length 1 0 0, (ownify (slotSize P t) z H).2 ++ [.box (ownify (slotSize P t) z H).1]) else none
    | none => none := rfl
@[simp] theorem ev1_sap (t : Nat) (x : Operand) : ev1 P call env H (.sliceToArrayPointer t x) ty = (arrAtV P t (evO env x) H).map fun v => (v, H) := rfl
@[simp] theorem ev1_makeFunc (f : Nat) (caps : List Operand) : ev1 P call env H (.makeFunc (.func f) ⟨[]⟩ ⟨caps⟩) ty = some (.fn f (caps.map (evO env)), H) := rfl
@[simp] theorem ownifyL_nil (ss : List Nat) : ownifyL ss [] H = ([], H) := by cases ss <;> rfl
@[simp] theorem ownifyL_cons (s : Nat) (ss : List Nat) (c : V) (cs : List V) : ownifyL (s :: ss) (c :: cs) H = ((ownify s c H).1 :: (ownifyL ss cs (ownify s c H).2).1, (ownifyL ss cs (ownify s c H).2).2) := rfl
@[simp] theorem ownifyL_none (cs : List V) : ownifyL [] cs H = (cs, H) := by cases cs <;> rfl
end

@[simp] theorem hasRoL_rep_bool (n : Nat) (b : Bool) : hasRoL (List.replicate n (V.bool b)) = false := hasRoL_rep _ _ rfl
@[simp] theorem hasRoL_rep_int (n : Nat) (k : IntKind) (b : Int) : hasRoL (List.replicate n (V.int k b)) = false := hasRoL_rep _ _ rfl
@[simp] theorem hasRoL_rep_str (n : Nat) (b : List UInt8) : hasRoL (List.replicate n (V.str b)) = false := hasRoL_rep _ _ rfl

end Go.Abs

namespace Go.Abs
open Go.RowKit
set_option linter.unusedVariables false
set_option linter.unusedSimpArgs false

variable {P : Program}

theorem pureRun_bind {α β : Type} (s : Sem α) (f : α → Sem β) : pureRun P (s >>= f) = (pureRun P s).bind fun a => pureRun P (f a) := by
  show pureRun P (Sem.bind s f) = _
  cases s with
  | program k =>
    simp only [Sem.bind, pureRun]
    exact pureRun_bind (k P) f
  | _ => rfl
@[simp] theorem pureRun_pure {α : Type} (a : α) : pureRun P (pure a : Sem α) = some a := rfl

/-- One round of a loop. -/
theorem go_unroll {C : Ctx} {f : FuncId} {h0 key : Nat} {b : SC} {env e0 : Env} {H H0 : Heap} {Q : X → Env → Heap → Prop} (hh : Is (headK C f h0 key env H) (e0, H0)) (h : Go1 C f h0 b e0 H0 (Next (fun e' h' => Go1 C f h0 (.loop key b) e' h' Q) Q)) : Go1 C f h0 (.loop key b) env H Q := fun c hc => by
  cases c <;> simp only [scOf] at hc <;> try (cases hc; done)
  rename_i c1
  cases hc
  obtain ⟨x, e1, h1, p1, p2⟩ := h c1 rfl
  have hE : headE C f h0 c1 env H = some (e0, H0) := hh
  cases x with
  | normal =>
    obtain ⟨x', e', h', q1, q2⟩ := p2 (.loop c1) rfl
    exact ⟨x', e', h', by rw [codeW_loop, hE]; simp only [loopW, p1]; exact q1, q2⟩
  | exit i => exact ⟨_, _, _, by rw [codeW_loop, hE]; simp only [loopW, p1], p2⟩
  | ret => exact ⟨_, _, _, by rw [codeW_loop, hE]; simp only [loopW, p1], p2⟩

end Go.Abs

namespace Go.Abs
open Go.RowKit
set_option linter.unusedVariables false
set_option linter.unusedSimpArgs false

section
variable {P : Program}

def andO (a b : Option Bool) : Option Bool := match a with
  | some true => b
  | some false => some false
  | none => none
@[simp] theorem andO_some (a b : Bool) : andO (some a) (some b) = some (a && b) := by cases a <;> rfl

def eqFs (g : Field → Option Bool) : List Field → Option Bool
  | [] => some true
  | f :: r => if f.name = "_" then eqFs g r else andO (g f) (eqFs g r)

def eqNs (g : Nat → Option Bool) : List Nat → Option Bool
  | [] => some true
  | i :: r => andO (g i) (eqNs g r)

def sizeL (P : Program) (t : TypeId) : Nat := ((P.info? t).map (·.size)).getD 0

def okT (P : Program) (t : TypeId) : Bool := (P.info? t).isSome && match aggT P t with
  | some true => true
  | some false => sizeL P t == 1
  | none => false

/-- '==' of two values by their cells. -/
def eqL (P : Program) : Nat → TypeId → List V → List V → Option Bool
  | 0, _, _, _ => none
  | d + 1, t, xs, ys => match P.underlying t with
    | some .bool => match xs, ys with
      | [.bool a], [.bool b] => some (a == b)
      | _, _ => none
    | some (.int _) => match xs, ys with
      | [.int k a], [.int k' b] => if k = k' then some (a == b) else none
      | _, _ => none
    | some .string => match xs, ys with
      | [.str a], [.str b] => some (a == b)
      | _, _ => none
    | some (.struct fs) => if P.stoodInHeld t then none else eqFs (fun f => if okT P f.type = true ∧ f.offset + sizeL P f.type ≤ xs.length ∧ xs.length = ys.length then eqL P d f.type ((xs.drop f.offset).take (sizeL P f.type)) ((ys.drop f.offset).take (sizeL P f.type)) else none) fs.toList
    | some (.array n e) => if okT P e = true then eqNs (fun i => if i * sizeL P e + sizeL P e ≤ xs.length ∧ xs.length = ys.length then eqL P d e ((xs.drop (i * sizeL P e)).take (sizeL P e)) ((ys.drop (i * sizeL P e)).take (sizeL P e)) else none) (List.range n) else none
    | _ => none

theorem pr_map {α β : Type} (f : α → β) (s : Sem α) : pureRun P (f <$> s) = (pureRun P s).map f := by
  show pureRun P (s >>= fun a => pure (f a)) = _
  rw [pureRun_bind]
  cases pureRun P s <;> rfl
theorem pr_underlying {t : TypeId} {d : TypeDesc} (h : P.underlying t = some d) : pureRun P (Go.underlying t) = some d := by
  simp [Go.underlying, program, pureRun_bind, pureRun, h]
theorem pr_info {t : TypeId} {z : TypeInfo} (h : P.info? t = some z) : pureRun P (typeInfo t) = some z := by
  simp [typeInfo, program, pureRun_bind, pureRun, h]
theorem pr_size {t : TypeId} {z : TypeInfo} (h : P.info? t = some z) : pureRun P (sizeOf t) = some z.size := by
  simp [sizeOf, pureRun_bind, pr_map, pr_info h]
theorem pr_isAgg {t : TypeId} {b : Bool} (h : aggT P t = some b) : pureRun P (isAgg t) = some b := by
  unfold aggT at h
  cases hu : P.underlying t with
  | none => rw [hu] at h; cases h
  | some d =>
    rw [hu] at h
    unfold isAgg
    rw [pureRun_bind, pr_underlying hu]
    cases d <;> simp_all

/-- A value of type t and its cells. -/
def CellsAs (P : Program) (t : TypeId) (xs : List V) (x : Value) : Prop := ∃ cx, toVals xs = some cx ∧ match aggT P t with
  | some true => x = .agg cx.toArray
  | some false => cx = [x]
  | none => False

theorem toVals_append : ∀ (xs ys : List V), toVals (xs ++ ys) = (toVals xs).bind fun a => (toVals ys).map fun b => a ++ b
  | [], ys => by simp [toVals]
  | x :: xs, ys => by
    simp only [List.cons_append, toVals, toVals_append xs ys]
    cases toVal x <;> cases toVals xs <;> cases toVals ys <;> simp

theorem toVals_part {xs : List V} {cx : List Value} (h : toVals xs = some cx) (o n : Nat) : toVals ((xs.drop o).take n) = some ((cx.drop o).take n) := by
  have e : xs = xs.take o ++ ((xs.drop o).take n ++ (xs.drop o).drop n) := by rw [List.take_append_drop, List.take_append_drop]
  rw [e, toVals_append, toVals_append] at h
  have len : ∀ (ys : List V) (cy : List Value), toVals ys = some cy → cy.length = ys.length := by
    intro ys
    induction ys with
    | nil => intro cy h; simp [toVals] at h; subst h; rfl
    | cons y ys ih =>
      intro cy h
      simp only [toVals] at h
      cases h1 : toVal y with
      | none => rw [h1] at h; cases h
      | some v =>
        cases h2 : toVals ys with
        | none => rw [h1, h2] at h; cases h
        | some vs => rw [h1, h2] at h; cases h; simp [ih _ h2]
  cases h1 : toVals (xs.take o) with
  | none => rw [h1] at h; cases h
  | some a =>
    cases h2 : toVals ((xs.drop o).take n) with
    | none => rw [h1, h2] at h; cases h
    | some b =>
      cases h3 : toVals ((xs.drop o).drop n) with
      | none => rw [h1, h2, h3] at h; cases h
      | some c =>
        rw [h1, h2, h3] at h
        simp only [Option.bind_some, Option.map_some, Option.some.injEq] at h
        have la := len _ _ h1
        have lb := len _ _ h2
        rw [List.length_take] at la lb
        rw [List.length_drop] at lb
        subst h
        congr 1
        by_cases ho : o ≤ xs.length
        · have la' : a.length = o := by omega
          rw [List.drop_left' la']
          by_cases hn : n ≤ xs.length - o
          · rw [List.take_left' (by omega)]
          · have : c = [] := by
              have lc := len _ _ h3
              rw [List.length_drop, List.length_drop] at lc
              exact List.eq_nil_of_length_eq_zero (by omega)
            subst this
            rw [List.append_nil, List.take_of_length_le (by omega)]
        · have hb : b = [] := List.eq_nil_of_length_eq_zero (by omega)
          have hc : c = [] := by
            have lc := len _ _ h3
            rw [List.length_drop, List.length_drop] at lc
            exact List.eq_nil_of_length_eq_zero (by omega)
          subst hb hc
          rw [List.append_nil, List.append_nil, List.drop_eq_nil_of_le (by omega), List.take_nil]

theorem pr_part {t : TypeId} {z : TypeInfo} {b : Bool} {xs : List V} {cx : List Value} (hz : P.info? t = some z) (hb : aggT P t = some b) (h : toVals xs = some cx) {o : Nat} (hl : o + z.size ≤ cx.length) (h1 : b = false → z.size = 1) :
    ∃ x, pureRun P (part t cx.toArray o) = some x ∧ CellsAs P t ((xs.drop o).take z.size) x := by
  unfold part
  rw [pureRun_bind, pr_isAgg hb]
  cases b with
  | true =>
    refine ⟨.agg ((cx.drop o).take z.size).toArray, ?_, _, toVals_part h o z.size, ?_⟩
    · simp [pureRun_bind, pr_map, pr_size hz, List.extract_toArray, List.extract_eq_take_drop]
    · rw [hb]
  | false =>
    have hs := h1 rfl
    have hlt : o < cx.length := by omega
    refine ⟨cx[o], ?_, _, toVals_part h o z.size, ?_⟩
    · simp [hlt]
    · rw [hb, hs]
      simp only
      rw [List.drop_eq_getElem_cons hlt]
      rfl

theorem toVals_length : ∀ {ys : List V} {cy : List Value}, toVals ys = some cy → cy.length = ys.length
  | [], cy, h => by simp [toVals] at h; subst h; rfl
  | y :: ys, cy, h => by
    simp only [toVals] at h
    cases h1 : toVal y with
    | none => rw [h1] at h; cases h
    | some v =>
      cases h2 : toVals ys with
      | none => rw [h1, h2] at h; cases h
      | some vs => rw [h1, h2] at h; cases h; simp [toVals_length h2]

theorem eq_part {d : Nat} {t : TypeId} (ih : ∀ t xs ys r, eqL P d t xs ys = some r → ∀ x y, CellsAs P t xs x → CellsAs P t ys y → pureRun P (Op.equalIn d t x y) = some r)
    (hk : okT P t = true) {xs ys : List V} {cx cy : List Value} (hx : toVals xs = some cx) (hy : toVals ys = some cy) {o : Nat} (hl : o + sizeL P t ≤ xs.length) (he : xs.length = ys.length) {r : Bool}
    (h : eqL P d t ((xs.drop o).take (sizeL P t)) ((ys.drop o).take (sizeL P t)) = some r) :
    ∃ a b, pureRun P (part t cx.toArray o) = some a ∧ pureRun P (part t cy.toArray o) = some b ∧ pureRun P (Op.equalIn d t a b) = some r := by
  unfold okT at hk
  rw [Bool.and_eq_true] at hk
  obtain ⟨z, hz⟩ := Option.isSome_iff_exists.1 hk.1
  have hsz : sizeL P t = z.size := by simp [sizeL, hz]
  obtain ⟨b, hb, h1⟩ : ∃ b, aggT P t = some b ∧ (b = false → z.size = 1) := by
    cases hb : aggT P t with
    | none => rw [hb] at hk; exact absurd hk.2 (by simp)
    | some b =>
      refine ⟨b, rfl, fun hbf => ?_⟩
      subst hbf
      rw [hb] at hk
      simpa [hsz] using hk.2
  rw [hsz] at h hl
  have lx := toVals_length hx
  have ly := toVals_length hy
  obtain ⟨a, p1, p2⟩ := pr_part hz hb hx (o := o) (by omega) h1
  obtain ⟨c, q1, q2⟩ := pr_part hz hb hy (o := o) (by omega) h1
  exact ⟨a, c, p1, q1, ih _ _ _ _ h _ _ p2 q2⟩

def loopR (r : Bool) : Option Bool × Unit := if r then (none, ()) else (some false, ())

theorem fs_loop {g : Field → Option Bool} {body : Field → Option Bool × Unit → Sem (ForInStep (Option Bool × Unit))} (hskip : ∀ f, f.name = "_" → pureRun P (body f (none, ())) = some (.yield (none, ())))
    (hbody : ∀ f r, f.name ≠ "_" → g f = some r → pureRun P (body f (none, ())) = some (if r then .yield (none, ()) else .done (some false, ()))) :
    ∀ (l : List Field) (r : Bool), eqFs g l = some r → pureRun P (forIn l (none, ()) body) = some (loopR r)
  | [], r, h => by simp [eqFs] at h; subst h; rfl
  | f :: l, r, h => by
    rw [List.forIn_cons, pureRun_bind]
    simp only [eqFs] at h
    by_cases hn : f.name = "_"
    · rw [if_pos hn] at h
      rw [hskip f hn]
      exact fs_loop hskip hbody l r h
    · rw [if_neg hn] at h
      unfold andO at h
      cases hg : g f with
      | none => rw [hg] at h; cases h
      | some b =>
        rw [hg] at h
        rw [hbody f b hn hg]
        cases b with
        | true => exact fs_loop hskip hbody l r h
        | false => cases h; rfl

theorem ns_loop {g : Nat → Option Bool} {body : Nat → Option Bool × Unit → Sem (ForInStep (Option Bool × Unit))}
    (hbody : ∀ f r, g f = some r → pureRun P (body f (none, ())) = some (if r then .yield (none, ()) else .done (some false, ()))) :
    ∀ (l : List Nat) (r : Bool), eqNs g l = some r → pureRun P (forIn l (none, ()) body) = some (loopR r)
  | [], r, h => by simp [eqNs] at h; subst h; rfl
  | f :: l, r, h => by
    rw [List.forIn_cons, pureRun_bind]
    simp only [eqNs] at h
    unfold andO at h
    cases hg : g f with
    | none => rw [hg] at h; cases h
    | some b =>
      rw [hg] at h
      rw [hbody f b hg]
      cases b with
      | true => exact ns_loop hbody l r h
      | false => cases h; rfl

theorem one_cell {t : TypeId} {x : V} {v : Value} (h : CellsAs P t [x] v) (hb : aggT P t = some false) : toVal x = some v := by
  obtain ⟨cx, h1, h2⟩ := h
  rw [hb] at h2
  subst h2
  simp only [toVals] at h1
  cases hx : toVal x with
  | none => rw [hx] at h1; cases h1
  | some u => rw [hx] at h1; cases h1; rfl

theorem eqL_ok : ∀ (d : Nat) (t : TypeId) (xs ys : List V) (r : Bool), eqL P d t xs ys = some r → ∀ x y, CellsAs P t xs x → CellsAs P t ys y → pureRun P (Op.equalIn d t x y) = some r
  | 0, _, _, _, _, h => by cases h
  | d + 1, t, xs, ys, r, h => fun x y hx hy => by
    simp only [eqL] at h
    cases hu : P.underlying t with
    | none => rw [hu] at h; cases h
    | some dd =>
      rw [hu] at h
      have agg1 : ∀ cs, (aggT P t = some true) → CellsAs P t cs x → ∃ cx, toVals cs = some cx ∧ x = .agg cx.toArray := fun cs ha ⟨cx, h1, h2⟩ => by rw [ha] at h2; exact ⟨cx, h1, h2⟩
      have agg2 : ∀ cs, (aggT P t = some true) → CellsAs P t cs y → ∃ cx, toVals cs = some cx ∧ y = .agg cx.toArray := fun cs ha ⟨cx, h1, h2⟩ => by rw [ha] at h2; exact ⟨cx, h1, h2⟩
      cases dd
      case bool =>
        simp only at h
        split at h
        · rename_i a b
          cases h
          have e1 := one_cell hx (by simp [aggT, hu])
          have e2 := one_cell hy (by simp [aggT, hu])
          simp only [toVal, Option.some.injEq] at e1 e2
          subst e1 e2
          rw [Op.equalIn, pureRun_bind, pr_underlying hu]
          rfl
        · cases h
      case int k0 =>
        simp only at h
        split at h
        · rename_i k a k' b
          split at h
          · rename_i hk
            cases h
            have e1 := one_cell hx (by simp [aggT, hu])
            have e2 := one_cell hy (by simp [aggT, hu])
            simp only [toVal, Option.some.injEq] at e1 e2
            subst e1 e2 hk
            rw [Op.equalIn, pureRun_bind, pr_underlying hu]
            simp
          · cases h
        · cases h
      case string =>
        simp only at h
        split at h
        · rename_i a b
          cases h
          have e1 := one_cell hx (by simp [aggT, hu])
          have e2 := one_cell hy (by simp [aggT, hu])
          simp only [toVal, Option.some.injEq] at e1 e2
          subst e1 e2
          rw [Op.equalIn, pureRun_bind, pr_underlying hu]
          simp only [Option.bind_some, pureRun_pure, Option.some.injEq]
          exact bytes_beq a b
        · cases h
      case struct fs =>
        obtain ⟨cx, h1, rfl⟩ := agg1 xs (by simp [aggT, hu]) hx
        obtain ⟨cy, h2, rfl⟩ := agg2 ys (by simp [aggT, hu]) hy
        simp only at h
        split at h
        · cases h
        · rename_i hst
          rw [Op.equalIn, pureRun_bind, pr_underlying hu]
          simp only [Option.bind_some]
          rw [pureRun_bind]
          show pureRun P (if P.stoodInHeld t = true then _ else _) = _
          rw [if_neg hst, pureRun_bind, ← Array.forIn_toList]
          rw [fs_loop (g := _) ?_ ?_ fs.toList r h]
          · cases r <;> rfl
          · intro f hn
            rw [if_neg (by simpa using hn)]
            rfl
          · intro f b hn hg
            rw [if_pos hn]
            split at hg
            · rename_i hc
              obtain ⟨a, c, p1, p2, p3⟩ := eq_part (eqL_ok d) hc.1 h1 h2 hc.2.1 hc.2.2 hg
              rw [pureRun_bind, p1]
              simp only [Option.bind_some]
              rw [pureRun_bind, p2]
              simp only [Option.bind_some]
              rw [pureRun_bind, p3]
              cases b <;> rfl
            · cases hg
      case array n e =>
        obtain ⟨cx, h1, rfl⟩ := agg1 xs (by simp [aggT, hu]) hx
        obtain ⟨cy, h2, rfl⟩ := agg2 ys (by simp [aggT, hu]) hy
        simp only at h
        split at h
        · rename_i hk
          have hk' := hk
          unfold okT at hk'
          rw [Bool.and_eq_true] at hk'
          obtain ⟨z, hz⟩ := Option.isSome_iff_exists.1 hk'.1
          have hsz : sizeL P e = z.size := by simp [sizeL, hz]
          rw [Op.equalIn, pureRun_bind, pr_underlying hu]
          simp only [Option.bind_some]
          rw [pureRun_bind, pr_size hz]
          simp only [Option.bind_some]
          rw [pureRun_bind, Std.Legacy.Range.forIn_eq_forIn_range']
          rw [show List.range' ([:n] : Std.Legacy.Range).start ([:n] : Std.Legacy.Range).size ([:n] : Std.Legacy.Range).step = List.range n by simp [Std.Legacy.Range.size, List.range_eq_range']]
          rw [ns_loop (g := _) ?_ (List.range n) r h]
          · cases r <;> rfl
          · intro i b hg
            split at hg
            · rename_i hc
              obtain ⟨a, c, p1, p2, p3⟩ := eq_part (eqL_ok d) hk h1 h2 hc.1 hc.2 hg
              rw [hsz] at p1 p2
              rw [pureRun_bind, p1]
              simp only [Option.bind_some]
              rw [pureRun_bind, p2]
              simp only [Option.bind_some]
              rw [pureRun_bind, p3]
              cases b <;> rfl
            · cases hg
        · cases h
      all_goals (simp only at h; cases h)

theorem binV_agg {t : TypeId} {xs ys : List V} {cx cy : List Value} {r : Bool} {d : Nat} (hd : Op.maxDepth = d) (hag : aggT P t = some true) (hg : P.eqGuardType P.depth t = false) (hx : toVals xs = some cx) (hy : toVals ys = some cy) (he : eqL P d t xs ys = some r) :
    binV P .eql t (.agg xs) (.agg ys) = some (.bool r) ∧ binV P .neq t (.agg xs) (.agg ys) = some (.bool !r) := by
  have h : pureRun P (Op.equal t (.agg cx.toArray) (.agg cy.toArray)) = some r := by
    unfold Op.equal
    rw [hd]
    exact eqL_ok d t xs ys r he _ _ ⟨cx, hx, by rw [hag]⟩ ⟨cy, hy, by rw [hag]⟩
  have e1 : toVal (.agg xs) = some (.agg cx.toArray) := by simp [toVal, hx]
  have e2 : toVal (.agg ys) = some (.agg cy.toArray) := by simp [toVal, hy]
  constructor <;> simp [binV, e1, e2, hg, h]

end

end Go.Abs

namespace Go.Abs
open Go.RowKit
set_option linter.unusedVariables false
set_option linter.unusedSimpArgs false

variable {P : Program}

section
variable {base : Nat} {Z : Nat → Prop} {φ : Place} {H : Heap} {w w' : World}

/-- An own slice's elements turned, in place; blocks may be made beside it. -/
theorem e_same {b s g : Nat} {es es' : List V} {cs : Array Value} {e : TypeId} {fr : Nat × Nat} {r : V} {cr : Value} (I : Inv base Z φ H w) (hl : φ b = .at g s es.length) (hb : H[b]? = some (.dat true s es)) (h0 : 0 < s)
    (hes : Each s es') (hn : es'.length = es.length) (hsize : w.heap.size ≤ w'.heap.size) (hother : ∀ d, d < w.heap.size → d ≠ g → w'.heap[d]? = w.heap[d]?) (hshape : ∀ d x, w.shape? d = some x → w'.shape? d = some x)
    (hbelow : Below base w w') (hh : w'.heap[g]? = some (.cells cs e fr)) (hfr : ∀ j, j < cs.size → ¬ (fr.1 ≤ j ∧ j < fr.2))
    (hcells : CRel pure0 (Wr φ H Z) w (es'.flatMap V.cells) (cs.toList.take (es'.length * s))) (hr : ∀ φ W w, VRel φ W w r cr) :
    Turns base Z φ H w (H.set b (.dat true s es')) r cr w' := by
  have hlt := (List.getElem?_eq_some_iff.1 hb).1
  generalize hx' : Blk.dat true s es' = x'
  have hgl : g < w'.heap.size := (Array.getElem?_eq_some_iff.1 hh).1
  have hk : Keeps (φ b) (.at g s es'.length) := by
    rw [hl, hn]
    exact .refl (by simp)
  have hold : ∀ d s' n', φ b = .at d s' n' → Wr φ H Z d := fun d s' n' h => .inr ⟨b, s', n', _, h, hb, rfl⟩
  have E : Ext H.length φ (Wr φ H Z) w (upd φ b (.at g s es'.length)) (Wr (upd φ b (.at g s es'.length)) (H.set b x') Z) w' :=
    ⟨fun i _ hi => keeps_upd (fun _ => hk) i hi, fun d hd h => wr_upd (w := w) hb rfl (fun h => ⟨s, es.length, hl⟩) d hd h, fun d hd hnw => hother d hd fun h => hnw (hold d s es.length (by rw [h]; exact hl)), hshape, hsize⟩
  have hrow : Row pure0 (Wr (upd φ b (.at g s es'.length)) (H.set b x') Z) w' g s es' := by
    refine Row.ofFlat h0 hh hfr hes (vs := cs.toList.take (es'.length * s)) ?_ fun k v hk => ?_
    · exact hcells.mono E.pure (fun _ h => absurd rfl h)
    · rw [List.getElem?_take] at hk
      split at hk
      · simpa using hk
      · cases hk
  have I' := I.turn (b := b) E (by simp) (fun i hi => upd_ne _ _ hi) (upd_same ..) ⟨(I.rng _ _ _ _ hl).1, hgl⟩ (fun i s' n' hib h1 => hib (I.inj _ _ _ _ _ _ _ h1 hl)) (fun i x0 hib h1 => ⟨x0, by rw [List.getElem?_set_ne (Ne.symm hib)]; exact h1, x0.le_refl⟩) (List.getElem?_set_self hlt)
    (by rw [← hx']; exact ⟨rfl, rfl, by rw [hx']; exact hrow⟩) (fun i d s' n' hib h1 => hother d (I.rng _ _ _ _ h1).2 fun h2 => hib (I.inj _ _ _ _ _ _ _ h1 (h2 ▸ hl)))
  exact ⟨_, I', hr _ _ _, ⟨E, hbelow⟩, by simp⟩

end

/-- The numbers of a list of values. -/
def intsOf : List V → Option (List Int)
  | [] => some []
  | .int .i64 n :: r => (intsOf r).map (n :: ·)
  | _ :: _ => none
theorem intsOf_ints (l : List Int) : intsOf (ints l) = some l := by
  induction l with
  | nil => rfl
  | cons a l ih => simp [intsOf, ih]
theorem ints_of_intsOf : ∀ {es : List V} {l : List Int}, intsOf es = some l → es = ints l
  | [], l, h => by cases h; rfl
  | .int .i64 n :: r, l, h => by
    simp only [intsOf] at h
    cases hr : intsOf r with
    | none => rw [hr] at h; cases h
    | some l' => rw [hr] at h; cases h; rw [ints_of_intsOf hr]; rfl

/-- Sorted. -/
def insI (a : Int) : List Int → List Int
  | [] => [a]
  | b :: l => if a ≤ b then a :: b :: l else b :: insI a l
def sorted : List Int → List Int
  | [] => []
  | a :: l => insI a (sorted l)
theorem insI_at (a : Int) (r : List Int) (hr : ∀ b ∈ r, a ≤ b) : ∀ l : List Int, (∀ b ∈ l, ¬ a ≤ b) → insI a (l ++ r) = l ++ a :: r
  | [], _ => by
    cases r with
    | nil => rfl
    | cons b r => show (if a ≤ b then _ else _) = _; rw [if_pos (hr b (List.mem_cons_self ..))]; rfl
  | b :: l, h => by
    show (if a ≤ b then _ else _) = _
    rw [if_neg (h b (List.mem_cons_self ..))]
    exact congrArg (b :: ·) (insI_at a r hr l fun c hc => h c (List.mem_cons_of_mem _ hc))
theorem sorted_eq : ∀ l : List Int, sorted l = l.mergeSort fun x y => decide (x ≤ y)
  | [] => by simp [sorted]
  | a :: l => by
    have tr : ∀ (a b c : Int), decide (a ≤ b) = true → decide (b ≤ c) = true → decide (a ≤ c) = true := fun a b c h1 h2 => by simp at *; omega
    have tt : ∀ (a b : Int), (decide (a ≤ b) || decide (b ≤ a)) = true := fun a b => by simp; omega
    obtain ⟨l1, l2, h1, h2, h3⟩ := List.mergeSort_cons tr tt a l
    have h4 := List.pairwise_mergeSort tr tt (a :: l)
    rw [h1, List.pairwise_append, List.pairwise_cons] at h4
    rw [sorted, sorted_eq l, h2, h1]
    exact insI_at a l2 (fun b hb => by simpa using h4.2.1.1 b hb) l1 fun b hb => by simpa using h3 b hb
theorem sorted_mem {l : List Int} {x : Int} : x ∈ sorted l ↔ x ∈ l := by rw [sorted_eq]; simp

/-- slices.Sort of numbers, evaluated. -/
def sortX : List V → Heap → Option (V × Heap)
  | [.own b tot off len], H => match H[b]? with
    | some (.dat true s es) => match intsOf es with
      | some l => if s = 1 ∧ off = 0 ∧ len = tot ∧ l.length = tot ∧ tot ≤ room then some (.tuple [], H.set b (.dat true 1 (ints (sorted l)))) else none
      | none => none
    | _ => none
  | _, _ => none

section
variable {base : Nat} {Z : Nat → Prop} {φ : Place} {H : Heap} {w : World}

theorem cells_ints : ∀ l : List Int, (ints l).flatMap V.cells = ints l
  | [] => rfl
  | a :: l => by
    have := cells_ints l
    simp only [ints, List.map_cons, List.flatMap_cons] at this ⊢
    rw [this]
    rfl
theorem crel_ints {φ : Place} {W : Nat → Prop} {w : World} {l : List Int} {vs : List Value} (h : CRel φ W w ((ints l).flatMap V.cells) vs) : vs = l.map (Value.int .i64) := by
  rw [cells_ints] at h
  obtain ⟨h1, h2, h3⟩ := h
  have h1' : l.length = vs.length := by simpa using h1
  apply List.ext_getElem (by simp [h1'])
  intro i hi hi'
  have hi2 : i < l.length := by omega
  have := h3 i (.int .i64 l[i]) vs[i] (by simp [hi2]) (by simp)
  rw [List.getElem_map]
  generalize vs[i] = v at this ⊢
  cases this
  rfl
theorem crel_ints_mk {φ : Place} {W : Nat → Prop} {w : World} (l : List Int) : CRel φ W w ((ints l).flatMap V.cells) (l.map (Value.int .i64)) := by
  rw [cells_ints]
  refine ⟨by simp, fun v hv => ?_, fun i c v hc hv => ?_⟩
  · obtain ⟨a, _, rfl⟩ := List.mem_map.1 hv
    rfl
  · simp only [ints, List.getElem?_map] at hc hv
    cases hl : l[i]? with
    | none => rw [hl] at hc; cases hc
    | some a =>
      rw [hl] at hc hv
      cases hc
      cases hv
      exact .int _ _
theorem each_ints (l : List Int) : Each 1 (ints l) := fun i e he => by
  obtain ⟨a, _, rfl⟩ := List.mem_map.1 (List.mem_of_getElem? he)
  rfl

theorem take_putInts (cur : Array Value) (ts : List Int) (h : ts.length ≤ cur.size) : (Sort.putCells (Value.int .i64) 0 ts.toArray cur).toList.take ts.length = ts.map (Value.int .i64) := by
  apply List.ext_getElem?
  intro j
  by_cases hj : j < ts.length
  · rw [List.getElem?_take_of_lt hj, Array.getElem?_toList]
    simp [Sort.putCells, hj, show j < cur.size by omega]
  · rw [List.getElem?_take_eq_none (by omega), List.getElem?_eq_none (by simp; omega)]
theorem heap_sorted_at {w : World} {g n : Nat} {os : Array Obj} {cur : Array Value} {e : TypeId} {fr : Nat × Nat} (d : Array Int) (hb : w.heap[g]? = some (.cells cur e fr)) :
    (Sort.grow (Sort.putRow (Value.int .i64) (Sort.ahead w n) g 0 d) os).heap[g]? = some (.cells (Sort.putCells (Value.int .i64) 0 d cur) e fr) := by
  have hg : g < w.heap.size := (Array.getElem?_eq_some_iff.1 hb).1
  rw [Sort.heap_grow_old _ _ (by simpa [Sort.putRow, Sort.mapBlock, Sort.ahead] using hg)]
  simp [Sort.putRow, Sort.mapBlock, Sort.ahead, Array.getElem?_modify, hb, Sort.onCells]
theorem heap_sorted_other {w : World} {g n k : Nat} {os : Array Obj} (d : Array Int) (hk : k < w.heap.size) (hne : k ≠ g) : (Sort.grow (Sort.putRow (Value.int .i64) (Sort.ahead w n) g 0 d) os).heap[k]? = w.heap[k]? := by
  rw [Sort.heap_grow_old _ _ (by simpa [Sort.putRow, Sort.mapBlock, Sort.ahead] using hk)]
  simp [Sort.putRow, Sort.mapBlock, Sort.ahead, Array.getElem?_modify, Ne.symm hne]
theorem heap_sorted_size {w : World} {g n : Nat} {os : Array Obj} (d : Array Int) : (Sort.grow (Sort.putRow (Value.int .i64) (Sort.ahead w n) g 0 d) os).heap.size = w.heap.size + os.size := by
  simp [Sort.putRow, Sort.mapBlock, Sort.ahead, Sort.grow]
theorem sorted_length (l : List Int) : (sorted l).length = l.length := by simp [sorted_eq]

theorem sort_contract {f : FuncId}
    (hsort : ∀ (blk off cap : Nat) (zs : List Int) (w : World), Sort.Holds (Value.int .i64) w blk off zs.toArray → blk < w.heap.size → zs.length < 4611686018427387904 →
      Calls P f #[.slice (some ⟨blk, off, none⟩) zs.length cap] w fun e w' =>
        e = .returned (.tuple #[]) ∧ ∃ n os, w' = Sort.grow (Sort.putRow (Value.int .i64) (Sort.ahead w n) blk off (zs.mergeSort fun x y => decide (x ≤ y)).toArray) os)
    (hnone : ∀ (p : Option Addr) (cap : Nat) (w : World), Calls P f #[.slice p 0 cap] w fun e w' => e = .returned (.tuple #[]) ∧ w' = w)
    (args : List V) (r : V) (H' : Heap) (hx : sortX args H = some (r, H')) {cargs : Array Value} (I : Inv base Z φ H w) (ha : ArgsRel φ (Wr φ H Z) w args cargs) :
    Calls P f cargs w (fun e w' => ∃ v, e = .returned v ∧ Turns base Z φ H w H' r v w') := by
  unfold sortX at hx
  split at hx
  case h_2 => cases hx
  rename_i b tot off len
  split at hx
  case h_2 => cases hx
  rename_i s es hH
  split at hx
  case h_2 => cases hx
  rename_i l hl
  split at hx
  case isFalse => cases hx
  rename_i hc
  obtain ⟨rfl, rfl, rfl, rfl, hrm⟩ := hc
  cases hx
  have hes := ints_of_intsOf hl
  subst hes
  obtain ⟨c1, rfl, r1⟩ : ∃ c, cargs = #[c] ∧ VRel φ (Wr φ H Z) w (.own b l.length 0 l.length) c := by
    obtain ⟨h1, h2⟩ := ha
    have hs : cargs.size = 1 := by simpa using h1.symm
    match cargs, hs with
    | ⟨[c]⟩, _ => exact ⟨c, rfl, h2 0 _ _ rfl rfl⟩
  have hrt : ∀ φ W w, VRel φ W w (.tuple []) (.tuple #[]) := fun φ W w => .tuple [] #[] rfl fun i c v hc => by simp at hc
  rcases own_whole I hH (by simp) r1 with ⟨hnil, h0, rfl⟩ | ⟨c, cap, cs, t, fr, hp, rfl, hcap, hsz, hmx, hh, h01, hes, hfr, hcr⟩
  · have hl0 : l = [] := List.eq_nil_of_length_eq_zero h0
    subst hl0
    refine Calls.mono (hnone none 0 w) fun x w' ⟨hx, hw⟩ => ⟨_, hx, ?_⟩
    subst hw
    have hset : H.set b (.dat true 1 (ints (sorted []))) = H := by
      apply List.ext_getElem?
      intro i
      by_cases hi : b = i
      · subst hi
        rw [List.getElem?_set_self (List.getElem?_eq_some_iff.1 hH).1, hH, show sorted [] = [] by simp [sorted]]
      · rw [List.getElem?_set_ne hi]
    rw [hset]
    exact ⟨φ, I, hrt _ _ _, ⟨Ext.refl _ _ _ _, Below.refl ..⟩, Nat.le_refl _⟩
  · simp only [Nat.mul_one] at hsz hcr
    have hcl : cs.toList.length = cs.size := Array.length_toList
    simp only [List.length_map] at hcr
    have hcs := crel_ints hcr
    have hlc : l.length ≤ cs.size := by omega
    have hholds : Sort.Holds (Value.int .i64) w c 0 l.toArray := fun j hj => by
      have hj' : j < l.length := by simpa using hj
      refine ⟨?_, frozen_at hh hfr (by omega)⟩
      rw [Nat.zero_add, cell_in hh]
      have h1 : (cs.toList.take l.length)[j]? = (l.map (Value.int .i64))[j]? := by rw [hcs]
      rw [List.getElem?_take_of_lt hj', Array.getElem?_toList] at h1
      rw [h1]
      simp [hj']
    have hc : c < w.heap.size := (Array.getElem?_eq_some_iff.1 hh).1
    refine Calls.mono (hsort c 0 cap l w hholds hc (by unfold room at hrm; omega)) fun x w' ⟨hx, n, os, hw⟩ => ⟨_, hx, ?_⟩
    subst hw
    refine e_same (b := b) (s := 1) (g := c) (es := ints l) (es' := ints (sorted l)) I (by rw [hp]; simp) hH (by omega) (each_ints _) (by simp [sorted_length]) (by rw [heap_sorted_size]; omega) (fun d hd hne => heap_sorted_other _ hd hne)
      (fun d y hy => ?_) ⟨rfl, rfl, rfl, by rw [heap_sorted_size]; omega, fun k hk => heap_sorted_other _ (by have := I.hb; omega) (by have := (I.rng _ _ _ _ hp).1; omega)⟩ (heap_sorted_at _ hh) (fun j hj => hfr j (by simpa [Sort.putCells] using hj)) ?_ hrt
    · by_cases hdc : d = c
      · subst hdc
        rw [shape_at hh] at hy
        cases hy
        rw [shape_at (heap_sorted_at _ hh)]
        simp [Sort.putCells]
      · have hd : d < w.heap.size := by
          unfold World.shape? at hy
          cases hh' : w.heap[d]? with
          | none => rw [hh'] at hy; cases hy
          | some _ => exact (Array.getElem?_eq_some_iff.1 hh').1
        rw [shape_of_heap (heap_sorted_other _ hd hdc)]; exact hy
    · have : (Sort.putCells (Value.int .i64) 0 (l.mergeSort fun x y => decide (x ≤ y)).toArray cs).toList.take ((ints (sorted l)).length * 1) = (sorted l).map (Value.int .i64) := by
        rw [← sorted_eq]
        rw [Nat.mul_one, List.length_map]
        exact take_putInts cs (sorted l) (by rw [sorted_length]; exact hlc)
      rw [this]
      exact crel_ints_mk _
end
theorem callW_extE {C : Ctx} {f : FuncId} {xs : List V} {H : Heap} {g : List V → Heap → Option (V × Heap)} (h1 : C.extE f = some g) : callW C false (.fn f []) xs H = g xs H := by
  rw [callW_def]
  simp [h1]
@[simp] theorem sortX_at {b n : Nat} {H : Heap} : sortX [.own b n 0 n] H = match H[b]? with
    | some (.dat true s es) => match intsOf es with
      | some l => if s = 1 ∧ l.length = n ∧ n ≤ room then some (.tuple [], H.set b (.dat true 1 (ints (sorted l)))) else none
      | none => none
    | _ => none := by
  simp [sortX]
attribute [simp] intsOf_ints
end Go.Abs

