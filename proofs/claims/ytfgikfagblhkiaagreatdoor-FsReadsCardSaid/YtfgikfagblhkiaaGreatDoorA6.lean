/- Proved here: part 6 of a sound evaluator for the model: what it computes of a call, the call does. No condition. -/
import Derived.Test.YtfgikfagblhkiaaGreatDoorA5
import GoSem.ClaimChange
import GoSem.ClaimDataLaid
import Derived.ChangeBears
import Derived.WideShapes
import Derived.Laws.AppendOwn
import Derived.Lib.Repeat
import Derived.Laws.IdiomCopy
import Derived.Sort.Row
import Derived.Sort.Grow
namespace Go.Abs
open Go.RowKit
set_option linter.unusedVariables false
set_option linter.unusedSimpArgs false

/-- An operation without its place in the text. -/
structure Sop where
  dst : Option Nat
  op : Op
  type : Nat
  guard : Option (Option Nat × Bool)

inductive SC where
  | skip | ret | bad
  | exit (id : Nat)
  | region (draw : Bool) (ops : List Sop)
  | regionF (draw : Bool) (fl : List Nat) (ops : List Sop)
  | seq (a b : SC)
  | cond (c : Operand) (a b : SC)
  | block (id : Nat) (b : SC)
  | loop (key : Nat) (b : SC)

def sopOf (ops : Array Oper) (o : Oper) : Sop := ⟨o.dst, o.op, o.type, o.guard.map fun g => ((ops[g.1]?).bind (·.dst), g.2)⟩

/-- The code in short; 'fr': what each region reads in no order. -/
def scOfF (fr : Nat → List Nat) : Code → SC
  | .skip => .skip
  | .ret => .ret
  | .exit id => .exit id
  | .region id ops draw => match fr id with
    | [] => .region draw (ops.toList.map (sopOf ops))
    | fl => .regionF draw fl (ops.toList.map (sopOf ops))
  | .seq a b => .seq (scOfF fr a) (scOfF fr b)
  | .cond c a b => .cond c (scOfF fr a) (scOfF fr b)
  | .block id b => .block id (scOfF fr b)
  | .loop b => .loop (loopKey b) (scOfF fr b)
  | _ => .bad
theorem scOfF_region {fr : Nat → List Nat} {id : Nat} {ops : Array Oper} {draw d : Bool} {l : List Sop} (h : scOfF fr (.region id ops draw) = .region d l) : fr id = [] ∧ draw = d ∧ ops.toList.map (sopOf ops) = l := by
  simp only [scOfF] at h
  cases hf : fr id with
  | nil => rw [hf] at h; cases h; exact ⟨rfl, rfl, rfl⟩
  | cons a b => rw [hf] at h; cases h
theorem scOfF_region_ne {fr : Nat → List Nat} {id : Nat} {ops : Array Oper} {draw : Bool} {s : SC} (h : scOfF fr (.region id ops draw) = s) : (∃ d l, s = .region d l) ∨ ∃ d fl l, s = .regionF d fl l := by
  simp only [scOfF] at h
  cases hf : fr id with
  | nil => rw [hf] at h; exact .inl ⟨_, _, h.symm⟩
  | cons a b => rw [hf] at h; exact .inr ⟨_, _, _, h.symm⟩

/-- One operation. -/
def ev1 (P : Program) (call : CallV) (env : Env) (H : Heap) (op : Op) (t : Nat) : Option (V × Heap) := evOp P call env H ⟨none, op, t, "", #[], none⟩

theorem ev1_eq {P : Program} {call : CallV} {env : Env} {H : Heap} {o : Oper} : evOp P call env H o = ev1 P call env H o.op o.type := by
  obtain ⟨dst, op, type, pos, after, guard⟩ := o
  cases op
  case call c => obtain ⟨callee, args, ats⟩ := c; cases callee <;> rfl
  case makeFunc fn _ _ => cases fn <;> rfl
  case makeMap t r => cases r <;> rfl
  case slice t x lo hi mx => cases mx <;> rfl
  all_goals rfl

/-- Is an operation to run? -/
def want1 (env : Env) : Option (Option Nat × Bool) → Wanted
  | none => .yes
  | some (none, _) => .no
  | some (some d, want) => match env.get d with
    | .bool b => if b = want then .yes else .no
    | .tuple [] => .no
    | _ => .stuck

theorem want1_eq {ops : Array Oper} {env : Env} {o : Oper} : wantedV ops env o = want1 env (sopOf ops o).guard := by
  unfold wantedV sopOf
  cases o.guard with
  | none => rfl
  | some g =>
    obtain ⟨j, w⟩ := g
    simp only [Option.map_some]
    cases (ops[j]?).bind (·.dst) <;> rfl

def evS (P : Program) (call : Op → CallV) : List Sop → Env → Heap → Option (Env × Heap)
  | [], env, H => some (env, H)
  | o :: r, env, H => match want1 env o.guard with
    | .yes => match ev1 P (call o.op) env H o.op o.type with
      | some (v, H') => evS P call r (env.put o.dst v) H'
      | none => none
    | .no => evS P call r (env.put o.dst (.tuple [])) H
    | .stuck => none

theorem evS_eq {P : Program} {call : Op → CallV} {ops : Array Oper} : ∀ {l : List Oper} {env : Env} {H : Heap}, evOps P call ops l env H = evS P call (l.map (sopOf ops)) env H
  | [], env, H => rfl
  | o :: r, env, H => by
    simp only [evOps, evS, List.map_cons, want1_eq, ev1_eq]
    simp only [show (sopOf ops o).op = o.op from rfl, show (sopOf ops o).type = o.type from rfl, show (sopOf ops o).dst = o.dst from rfl]
    cases want1 env (sopOf ops o).guard with
    | yes =>
      simp only
      cases ev1 P (call o.op) env H o.op o.type with
      | none => rfl
      | some vh => exact evS_eq
    | no => exact evS_eq
    | stuck => rfl

section
variable {C : Ctx} {f : FuncId} {h0 : Nat} {env : Env} {H : Heap} {Q : X → Env → Heap → Prop} {N : Env → Heap → Prop} {d : Bool}

/-- Code of this form runs, and in the end Q holds. -/
def Go1 (C : Ctx) (f : FuncId) (h0 : Nat) (s : SC) (env : Env) (H : Heap) (Q : X → Env → Heap → Prop) : Prop := ∀ c, scOfF (C.free f) c = s → True → Runs C f h0 c env H Q

def Op1 (C : Ctx) (d : Bool) (l : List Sop) (env : Env) (H : Heap) (N : Env → Heap → Prop) : Prop :=
  ∃ env' H', evS C.P (pickC C.loud d (callW C)) l env H = some (env', H') ∧ N env' H'

theorem go_skip (h : Q .normal env H) : Go1 C f h0 .skip env H Q := fun c hc hnf => by
  cases c
  case region => rcases scOfF_region_ne hc with ⟨_, _, h⟩ | ⟨_, _, _, h⟩ <;> cases h
  all_goals (simp only [scOfF] at hc <;> first | exact runs_skip h | cases hc)
theorem go_ret (h : Q .ret env H) : Go1 C f h0 .ret env H Q := fun c hc hnf => by
  cases c
  case region => rcases scOfF_region_ne hc with ⟨_, _, h⟩ | ⟨_, _, _, h⟩ <;> cases h
  all_goals (simp only [scOfF] at hc <;> first | exact runs_ret h | cases hc)
theorem go_exit {id : Nat} (h : Q (.exit id) env H) : Go1 C f h0 (.exit id) env H Q := fun c hc hnf => by
  cases c
  case region => rcases scOfF_region_ne hc with ⟨_, _, h⟩ | ⟨_, _, _, h⟩ <;> cases h
  all_goals (simp only [scOfF] at hc <;> first | (cases hc; exact runs_exit h) | cases hc)
theorem go_seq {a b : SC} (h : Go1 C f h0 a env H (Next (fun e h => Go1 C f h0 b e h Q) Q)) : Go1 C f h0 (.seq a b) env H Q := fun c hc hnf => by
  cases c
  case region => rcases scOfF_region_ne hc with ⟨_, _, h⟩ | ⟨_, _, _, h⟩ <;> cases h
  all_goals (simp only [scOfF] at hc)
  all_goals try (cases hc; done)
  rename_i c1 c2
  cases hc
  exact runs_seq ((h c1 rfl hnf).mono fun x e h hx => by
    cases x with
    | normal => exact hx c2 rfl hnf
    | exit id => exact hx
    | ret => exact hx)
theorem go_block {id : Nat} {b : SC} (h : Go1 C f h0 b env H (InBlock id Q)) : Go1 C f h0 (.block id b) env H Q := fun c hc hnf => by
  cases c
  case region => rcases scOfF_region_ne hc with ⟨_, _, h⟩ | ⟨_, _, _, h⟩ <;> cases h
  all_goals (simp only [scOfF] at hc)
  all_goals try (cases hc; done)
  rename_i id' c1
  cases hc
  exact runs_block (h c1 rfl hnf)
theorem go_cond {cd : Operand} {a b : SC} (t : Bool) (hc : evO env cd = .bool t) (ht : t = true → Go1 C f h0 a env H Q) (hf : t = false → Go1 C f h0 b env H Q) : Go1 C f h0 (.cond cd a b) env H Q := fun c hcc hnf => by
  cases c
  case region => rcases scOfF_region_ne hcc with ⟨_, _, h⟩ | ⟨_, _, _, h⟩ <;> cases h
  all_goals (simp only [scOfF] at hcc)
  all_goals try (cases hcc; done)
  rename_i cd' c1 c2
  cases hcc
  exact runs_cond hc (fun h => ht h c1 rfl hnf) (fun h => hf h c2 rfl hnf)
theorem go_region {l : List Sop} (h : Op1 C d l env H (Q .normal)) : Go1 C f h0 (.region d l) env H Q := fun c hc hnf => by
  cases c
  case region id ops d' =>
    obtain ⟨hf, rfl, rfl⟩ := scOfF_region hc
    obtain ⟨e, h1, h2, h3⟩ := h
    exact runs_region hf ⟨e, h1, by rw [evS_eq]; exact h2, h3⟩
  all_goals (simp only [scOfF] at hc; cases hc)

theorem op_nil (h : N env H) : Op1 C d [] env H N := ⟨_, _, rfl, h⟩
theorem op_yes {dst : Option Nat} {op : Op} {t : Nat} {g : Option (Option Nat × Bool)} {r : List Sop} {v : V} {H' : Heap} (hw : want1 env g = .yes) (he : ev1 C.P (pickC C.loud d (callW C) op) env H op t = some (v, H')) (h : Op1 C d r (env.put dst v) H' N) : Op1 C d (⟨dst, op, t, g⟩ :: r) env H N := by
  obtain ⟨e, h1, h2, h3⟩ := h
  exact ⟨e, h1, by simp only [evS, hw, he]; exact h2, h3⟩
theorem op_no {dst : Option Nat} {op : Op} {t : Nat} {g : Option (Option Nat × Bool)} {r : List Sop} (hw : want1 env g = .no) (h : Op1 C d r (env.put dst (.tuple [])) H N) : Op1 C d (⟨dst, op, t, g⟩ :: r) env H N := by
  obtain ⟨e, h1, h2, h3⟩ := h
  exact ⟨e, h1, by simp only [evS, hw]; exact h2, h3⟩

def headK (C : Ctx) (f : FuncId) (h0 key : Nat) (env : Env) (H : Heap) : Option (Env × Heap) := match C.keep f key with
  | some ks => atHead h0 ks env H
  | none => some (env, H)

theorem go_loop {b : SC} {key : Nat} (J : Nat → Env → Heap → Prop) {e0 : Env} {H0 : Heap} {n : Nat} (hh : headK C f h0 key env H = some (e0, H0)) (hJ : J n e0 H0)
    (round : ∀ n e h, J n e h → Go1 C f h0 b e h (Next (fun e' h' => ∃ m e1 h1, headK C f h0 key e' h' = some (e1, h1) ∧ m < n ∧ J m e1 h1) Q)) : Go1 C f h0 (.loop key b) env H Q := fun c hc hnf => by
  cases c
  case region => rcases scOfF_region_ne hc with ⟨_, _, h⟩ | ⟨_, _, _, h⟩ <;> cases h
  all_goals (simp only [scOfF] at hc)
  all_goals try (cases hc; done)
  rename_i c1
  cases hc
  exact runs_loop J hh hJ fun n e h hJ => round n e h hJ c1 rfl hnf

theorem go_body {fn : Body} {args : List V} {R : V → Heap → Prop} {s : SC} (hb : C.body f = some fn) (hs : scOfF (C.free f) fn.code = s) (hl : args.length ≤ fn.ntmps) (h : Go1 C f H.length s (argEnv args 0) H (Ends C fn.results H.length R)) : Body.Gives C f args H R :=
  gives_body hb hl (h fn.code hs trivial)


/-- Is this a read that may be done in another order? -/
def freeS (fl : List Nat) (dst : Option Nat) (op : Op) : Bool := readOp op && (match dst with | some d => fl.contains d | none => false)

def okAt (C : Ctx) (d : Bool) (e : Env) (op : Op) (t : Nat) (v : V) (H : Heap) : Prop := ∃ v' H', ev1 C.P (pickC C.loud d (callW C) op) e H op t = some (v', H') ∧ beqV v' v = true

structure Ob where
  e : Env
  op : Op
  t : Nat
  v : V
def allAt (C : Ctx) (d : Bool) (obl : List Ob) (H : Heap) : Prop := ∀ o ∈ obl, okAt C d o.e o.op o.t o.v H

/-- The heaps of a region's states. -/
def heapsS (P : Program) (call : Op → CallV) : List Sop → Env → Heap → List Heap
  | [], env, H => [H]
  | o :: r, env, H => H :: match want1 env o.guard with
    | .yes => match ev1 P (call o.op) env H o.op o.type with
      | some (v, H') => heapsS P call r (env.put o.dst v) H'
      | none => []
    | .no => heapsS P call r (env.put o.dst (.tuple [])) H
    | .stuck => []

/-- What each free read must read at all times. -/
def freeR (C : Ctx) (d : Bool) (fl : List Nat) (hs : List Heap) : List Sop → Env → Heap → Prop
  | [], _, _ => True
  | o :: r, env, H => match want1 env o.guard with
    | .yes => match ev1 C.P (pickC C.loud d (callW C) o.op) env H o.op o.type with
      | some (v, H') => (freeS fl o.dst o.op = true → ∀ h ∈ hs, okAt C d env o.op o.type v h) ∧ freeR C d fl hs r (env.put o.dst v) H'
      | none => False
    | .no => freeR C d fl hs r (env.put o.dst (.tuple [])) H
    | .stuck => False

/-- A region with reads in no order; 'past': the heaps before, 'obl': what was read. -/
structure OpF (C : Ctx) (d : Bool) (fl : List Nat) (past : List Heap) (obl : List Ob) (l : List Sop) (env : Env) (H : Heap) (N : Env → Heap → Prop) : Prop where
  ex : ∃ env' H', evS C.P (pickC C.loud d (callW C)) l env H = some (env', H') ∧ N env' H' ∧ (∀ h ∈ heapsS C.P (pickC C.loud d (callW C)) l env H, allAt C d obl h) ∧ (∀ hs, (∀ h ∈ hs, h ∈ past ∨ h ∈ heapsS C.P (pickC C.loud d (callW C)) l env H) → freeR C d fl hs l env H)

section
variable {fl : List Nat} {past : List Heap} {obl : List Ob} {dst : Option Nat} {op : Op} {t : Nat} {g : Option (Option Nat × Bool)} {r : List Sop} {v : V} {H' : Heap}
end

end

end Go.Abs

namespace Go.Abs
open Go.RowKit
set_option linter.unusedVariables false

/-- An evaluation's outcome. -/
def Is {α : Type} (a : Option α) (b : α) : Prop := a = some b
theorem is_rfl {α : Type} {b : α} : Is (some b) b := rfl
theorem is_ok {C : Ctx} {d : Bool} {env : Env} {H H' : Heap} {N : Env → Heap → Prop} {dst : Option Nat} {op : Op} {t : Nat} {g : Option (Option Nat × Bool)} {r : List Sop} {v : V} (hw : want1 env g = .yes) (he : Is (ev1 C.P (pickC C.loud d (callW C) op) env H op t) (v, H')) (h : Op1 C d r (env.put dst v) H' N) : Op1 C d (⟨dst, op, t, g⟩ :: r) env H N := op_yes hw he h

section
variable {P : Program} {call : CallV} {env : Env} {H : Heap} {ty : Nat}

@[simp] theorem Env.get_put_lit (e : Env) (d t : Nat) (v : V) : (e.put (some d) v).get t = if t = d then v else e.get t := rfl
@[simp] theorem Env.put_none (e : Env) (v : V) : e.put none v = e := rfl
@[simp] theorem Env.get_nil (t : Nat) : Env.get [] t = .undef := rfl
@[simp] theorem Env.get_cons (d t : Nat) (v : V) (e : List (Nat × V)) : Env.get ((d, v) :: e) t = if t = d then v else Env.get e t := rfl
@[simp] theorem argEnv_nil (i : Nat) : argEnv [] i = [] := rfl
@[simp] theorem argEnv_cons (v : V) (vs : List V) (i : Nat) : argEnv (v :: vs) i = (i, v) :: argEnv vs (i + 1) := rfl
@[simp] theorem evO_tmp (t : Nat) : evO env (.tmp t) = env.get t := rfl
@[simp] theorem evO_func (f : Nat) : evO env (.func f) = .fn f [] := rfl
@[simp] theorem evO_bool (b : Bool) : evO env (.const (.bool b)) = .bool b := rfl
@[simp] theorem evO_int (k : IntKind) (n : Int) : evO env (.const (.int k n)) = .int k n := rfl
@[simp] theorem evO_str (s : ByteArray) : evO env (.const (.string s)) = .str s.data.toList := rfl
@[simp] theorem evO_nil : evO env (.const (.slice none 0 0)) = .nils := rfl
@[simp] theorem evO_nilm : evO env (.const (.map none)) = .nilm := rfl
@[simp] theorem evO_nilx0 : evO env (.const (.pointer none)) = .nilx 0 := rfl
@[simp] theorem evO_nilx1 : evO env (.const .nilFunc) = .nilx 1 := rfl
@[simp] theorem evO_nilx2 : evO env (.const .nilIface) = .nilx 2 := rfl
@[simp] theorem evO_agg (cs : List Value) : evO env (.const (.agg ⟨cs⟩)) = ofVal (.agg ⟨cs⟩) := rfl
@[simp] theorem want1_none : want1 env none = .yes := rfl
@[simp] theorem cells_agg (cs : List V) : (V.agg cs).cells = cs := rfl
@[simp] theorem cells_bool (b : Bool) : (V.bool b).cells = [.bool b] := rfl
@[simp] theorem cells_int (k : IntKind) (n : Int) : (V.int k n).cells = [.int k n] := rfl
@[simp] theorem cells_str (s : List UInt8) : (V.str s).cells = [.str s] := rfl
@[simp] theorem cells_nils : V.nils.cells = [.nils] := rfl
@[simp] theorem cells_nilm : V.nilm.cells = [.nilm] := rfl
@[simp] theorem cells_nilx (k : Nat) : (V.nilx k).cells = [.nilx k] := rfl
@[simp] theorem cells_sl (es : List V) : (V.sl es).cells = [.sl es] := rfl
@[simp] theorem cells_own (b t o l : Nat) : (V.own b t o l).cells = [.own b t o l] := rfl
@[simp] theorem cells_ptr (b t o l : Nat) : (V.ptr b t o l).cells = [.ptr b t o l] := rfl
@[simp] theorem cells_map (b : Nat) : (V.map b).cells = [.map b] := rfl
@[simp] theorem cells_mapr (a b : List V) : (V.mapr a b).cells = [.mapr a b] := rfl
@[simp] theorem st_agg (cs : List V) : (V.agg cs).storable = true := rfl
@[simp] theorem st_bool (b : Bool) : (V.bool b).storable = true := rfl
@[simp] theorem st_int (k : IntKind) (n : Int) : (V.int k n).storable = true := rfl
@[simp] theorem st_str (s : List UInt8) : (V.str s).storable = true := rfl
@[simp] theorem st_nils : V.nils.storable = true := rfl
@[simp] theorem st_nilm : V.nilm.storable = true := rfl
@[simp] theorem st_nilx (k : Nat) : (V.nilx k).storable = true := rfl
@[simp] theorem st_sl (es : List V) : (V.sl es).storable = true := rfl
@[simp] theorem st_own (b t o l : Nat) : (V.own b t o l).storable = true := rfl
@[simp] theorem st_ptr (b t o l : Nat) : (V.ptr b t o l).storable = true := rfl
@[simp] theorem st_map (b : Nat) : (V.map b).storable = true := rfl
@[simp] theorem st_mapr (a b : List V) : (V.mapr a b).storable = true := rfl
@[simp] theorem ag_agg (cs : List V) : (V.agg cs).isAgg = true := rfl
@[simp] theorem ag_bool (b : Bool) : (V.bool b).isAgg = false := rfl
@[simp] theorem ag_int (k : IntKind) (n : Int) : (V.int k n).isAgg = false := rfl
@[simp] theorem ag_str (s : List UInt8) : (V.str s).isAgg = false := rfl
@[simp] theorem ag_nils : V.nils.isAgg = false := rfl
@[simp] theorem ag_nilm : V.nilm.isAgg = false := rfl
@[simp] theorem ag_nilx (k : Nat) : (V.nilx k).isAgg = false := rfl
@[simp] theorem ag_sl (es : List V) : (V.sl es).isAgg = false := rfl
@[simp] theorem ag_own (b t o l : Nat) : (V.own b t o l).isAgg = false := rfl
@[simp] theorem ag_ptr (b t o l : Nat) : (V.ptr b t o l).isAgg = false := rfl
@[simp] theorem ag_map (b : Nat) : (V.map b).isAgg = false := rfl
@[simp] theorem ag_mapr (a b : List V) : (V.mapr a b).isAgg = false := rfl
@[simp] theorem Next_normal {N : Env → Heap → Prop} {Q : X → Env → Heap → Prop} : Next N Q .normal = N := rfl
@[simp] theorem Next_ret {N : Env → Heap → Prop} {Q : X → Env → Heap → Prop} {e : Env} {h : Heap} : Next N Q .ret e h = Q .ret e h := rfl
@[simp] theorem Next_exit {N : Env → Heap → Prop} {Q : X → Env → Heap → Prop} {i : Nat} {e : Env} {h : Heap} : Next N Q (.exit i) e h = Q (.exit i) e h := rfl
@[simp] theorem InBlock_normal {i : Nat} {Q : X → Env → Heap → Prop} {e : Env} {h : Heap} : InBlock i Q .normal e h = Q .normal e h := rfl
@[simp] theorem InBlock_ret {i : Nat} {Q : X → Env → Heap → Prop} {e : Env} {h : Heap} : InBlock i Q .ret e h = Q .ret e h := rfl
@[simp] theorem InBlock_exit {i j : Nat} {Q : X → Env → Heap → Prop} {e : Env} {h : Heap} : InBlock i Q (.exit j) e h = Q (if j = i then .normal else .exit j) e h := rfl

@[simp] theorem ev1_move (x : Operand) : ev1 P call env H (.move x) ty = some (evO env x, H) := rfl
@[simp] theorem ev1_assign (x : Operand) : ev1 P call env H (.assign x) ty = some (ownify (slotSize P ty) (evO env x) H) := rfl
@[simp] theorem ev1_pick (c a b : Operand) : ev1 P call env H (.pick c a b) ty = match evO env c with
    | .bool t => some (if t then evO env a else evO env b, H)
    | _ => none := rfl
@[simp] theorem ev1_box (t : Nat) (x : Operand) : ev1 P call env H (.box t x) ty = if (P.info? t).map (·.size) = some (evO env x).cells.length ∧ (evO env x).storable = true ∧ (evO env x).cells ≠ [] then some (.ptr H.length 1 0 0, H ++ [.box (evO env x)]) else none := rfl
@[simp] theorem ev1_build (t : Nat) (ps : List (Nat × Operand)) : ev1 P call env H (.build t ⟨ps⟩) ty = (buildV P t (ps.map fun p => (p.1, evO env p.2))).map fun v => (v, H) := rfl
@[simp] theorem ev1_buildSlice (t n : Nat) (ps : List (Nat × Operand)) : ev1 P call env H (.buildSlice t n ⟨ps⟩) ty = buildSliceV P t n (ps.map fun p => (p.1, evO env p.2)) H := rfl
@[simp] theorem ev1_load (t : Nat) (a : Operand) : ev1 P call env H (.load t a) ty = (loadV P t (evO env a) H).map fun v => (v, H) := rfl
@[simp] theorem ev1_store (t : Nat) (a x : Operand) : ev1 P call env H (.store t a x) ty = (storeV P t (evO env a) (evO env x) H).map fun H' => (.tuple [], H') := rfl
@[simp] theorem ev1_nilCheck (x : Operand) : ev1 P call env H (.nilCheck x) ty = match evO env x with
    | .ptr b t i o => if live H b t then some (.ptr b t i o, H) else none
    | .rop v => some (.rop v, H)
    | .fn f cs => some (.fn f cs, H)
    | .meth f cs => some (.meth f cs, H)
    | _ => none := rfl
@[simp] theorem ev1_binOp (op : BinOp) (t u : Nat) (x y : Operand) : ev1 P call env H (.binOp op t x y u) ty = (binV P op t (evO env x) (evO env y)).map fun v => (v, H) := rfl
@[simp] theorem ev1_unOp (op : UnOp) (t : Nat) (x : Operand) : ev1 P call env H (.unOp op t x) ty = (unV op (evO env x)).map fun v => (v, H) := rfl
@[simp] theorem ev1_convert (s d : Nat) (x : Operand) : ev1 P call env H (.convert s d x) ty = convV P s d (evO env x) H := rfl
@[simp] theorem ev1_makeMap (t : Nat) : ev1 P call env H (.makeMap t none) ty = some (.map H.length, H ++ [.map true [] []]) := rfl
@[simp] theorem ev1_makeSlice (t : Nat) (l c : Operand) : ev1 P call env H (.makeSlice t l c) ty = makeSliceV P t (evO env l) (evO env c) H := rfl
@[simp] theorem ev1_slice (t : Nat) (x : Operand) (lo hi : Option Operand) : ev1 P call env H (.slice t x lo hi none) ty = (sliceV P t (evO env x) (lo.map (evO env)) (hi.map (evO env)) H).map fun v => (v, H) := rfl
@[simp] theorem ev1_slice3 (t : Nat) (x mx : Operand) (lo hi : Option Operand) : ev1 P call env H (.slice t x lo hi (some mx)) ty = (slice3V P t (evO env x) (lo.map (evO env)) (hi.map (evO env)) (evO env mx) H).map fun v => (v, H) := rfl
@[simp] theorem ev1_fieldAddr (t f : Nat) (x : Operand) : ev1 P call env H (.fieldAddr t x f) ty = (fieldAddrV P t (evO env x) f H).map fun v => (v, H) := rfl
@[simp] theorem ev1_field (t f : Nat) (x : Operand) : ev1 P call env H (.field t x f) ty = match fieldOf P t f, evO env x with
    | some fd, .agg cs => (sub P fd.type (.agg cs) fd.offset).map fun v => (v, H)
    | _, _ => none := rfl
@[simp] theorem ev1_indexAddr (t : Nat) (x i : Operand) : ev1 P call env H (.indexAddr t x i) ty = (indexAddrV P t (evO env x) (evO env i) H).map fun v => (v, H) := rfl
@[simp] theorem ev1_index (t : Nat) (x i : Operand) : ev1 P call env H (.index t x i) ty = (indexV P t (evO env x) (evO env i)).map fun v => (v, H) := rfl
@[simp] theorem ev1_lookup (t : Nat) (m k : Operand) (ok : Bool) : ev1 P call env H (.lookup t m k ok) ty = (lookupV P t (evO env m) (evO env k) ok H).map fun v => (v, H) := rfl
@[simp] theorem ev1_mapUpdate (t : Nat) (m k x : Operand) : ev1 P call env H (.mapUpdate t m k x) ty = (mapUpdateV P t (evO env m) (evO env k) (evO env x) H).map fun H' => (.tuple [], H') := rfl
@[simp] theorem ev1_extract (x : Operand) (i : Nat) : ev1 P call env H (.extract x i) ty = match evO env x with
    | .tuple vs => vs[i]?.map fun v => (v, H)
    | _ => none := rfl
@[simp] theorem ev1_builtin (b : Builtin) (args : List Operand) (ts : List Nat) : ev1 P call env H (.call ⟨.builtin b, ⟨args⟩, ⟨ts⟩⟩) ty = builtinV P b ts (args.map (evO env)) H := rfl
@[simp] theorem pickC_func (ld : FuncId → Bool) (d : Bool) (c : Bool → CallV) (f : Nat) (a : Array Operand) (t : Array Nat) : pickC ld d c (.call ⟨.value (.func f), a, t⟩) = if (d && ld f) = true then lenF (c false) else c d := rfl
@[simp] theorem pickC_tmp (ld : FuncId → Bool) (d : Bool) (c : Bool → CallV) (f : Nat) (a : Array Operand) (t : Array Nat) : pickC ld d c (.call ⟨.value (.tmp f), a, t⟩) = c d := by unfold pickC loudOp; simp
@[simp] theorem lenF_def (c : CallV) (x : V) (xs : List V) : lenF c x xs H = match c x xs H with
  | some (r, H') => if H.length ≤ H'.length then some (r, H') else none
  | none => none := rfl
@[simp] theorem ev1_call (f : Operand) (args : List Operand) (ts : Array Nat) : ev1 P call env H (.call ⟨.value f, ⟨args⟩, ts⟩) ty = call (evO env f) (args.map (evO env)) H := rfl

end

end Go.Abs

namespace Go.Abs
open Go.RowKit
set_option linter.unusedVariables false
set_option linter.unusedSimpArgs false

variable {P : Program}

/-- The cells of a variable of type t, as what a reading of an argument tells. -/
def HasT (P : Program) : Nat → TypeId → List V → Prop
  | 0, _, _ => False
  | n + 1, t, xs => match P.underlying t with
    | some .bool => ∃ b, xs = [.bool b]
    | some (.int k) => ∃ m, xs = [.int k m] ∧ (Lit.int k m).wf = true
    | some .string => ∃ s : List UInt8, xs = [.str s] ∧ s.length ≤ maxLen
    | some (.slice e) => if P.cellsOf e = 0 then xs.length = 1 else ∃ es, xs = [.sl es] ∧ es.length ≤ maxLen ∧ ∀ x ∈ es, aggT P e = some x.isAgg ∧ HasT P n e x.cells
    | some (.struct fs) => xs.length = P.cellsOf t ∧ ∀ f ∈ fs.toList, HasT P n f.type ((xs.drop f.offset).take (P.cellsOf f.type))
    | some (.array m e) => xs.length = P.cellsOf t ∧ ∀ i, i < m → HasT P n e ((xs.drop (i * P.cellsOf e)).take (P.cellsOf e))
    | _ => xs.length = 1

def no0 : Nat → Prop := fun _ => False

theorem crel_nil {w : World} : CRel pure0 no0 w [] [] := ⟨rfl, by simp, by simp⟩
theorem crel_one {w : World} {x : V} {v : Value} (h : VRel pure0 no0 w x v) (h1 : v.oneCell' = true) : CRel pure0 no0 w [x] [v] := by
  refine ⟨rfl, by simpa using h1, fun i c u hc hu => ?_⟩
  cases i with
  | zero => simp at hc hu; rw [← hc, ← hu]; exact h
  | succ i => simp at hc

/-- Rows put together out of parts. -/
theorem parts_of_sizes {w : World} {R : Nat → List V → Prop} : ∀ (ss : List Nat) (cs : List Value), cs.length = ss.sum →
    (∀ j s, ss[j]? = some s → ∃ xs, CRel pure0 no0 w xs ((cs.drop (ss.take j).sum).take s) ∧ R j xs) →
    ∃ xs, CRel pure0 no0 w xs cs ∧ ∀ j s, ss[j]? = some s → R j ((xs.drop (ss.take j).sum).take s)
  | [], cs, hl, h => by
    have : cs = [] := List.eq_nil_of_length_eq_zero (by simpa using hl)
    subst this
    exact ⟨[], crel_nil, by simp⟩
  | s :: ss, cs, hl, h => by
    simp only [List.sum_cons] at hl
    obtain ⟨x0, hx0, hr0⟩ := h 0 s rfl
    simp only [List.take_zero, List.sum_nil, List.drop_zero] at hx0
    obtain ⟨xs, hxs, hrs⟩ := parts_of_sizes (R := fun j => R (j + 1)) ss (cs.drop s) (by simp; omega) (fun j s' hj => by
      obtain ⟨y, hy, hr⟩ := h (j + 1) s' (by simpa using hj)
      refine ⟨y, ?_, hr⟩
      simpa [List.drop_drop] using hy)
    have hl0 : x0.length = s := by rw [hx0.1]; simp; omega
    refine ⟨x0 ++ xs, ?_, fun j s' hj => ?_⟩
    · have := hx0.append hxs
      rwa [List.take_append_drop] at this
    · cases j with
      | zero =>
        simp at hj
        subst hj
        simp [← hl0]
        exact hr0
      | succ j =>
        have := hrs j s' (by simpa using hj)
        simp only [List.take_succ_cons, List.sum_cons]
        have e : (x0 ++ xs).drop (s + (ss.take j).sum) = xs.drop (ss.take j).sum := by
          rw [List.drop_append, hl0, List.drop_eq_nil_of_le (by omega)]
          simp
        rw [e]
        exact this

theorem CRel.at {φ : Place} {W : Nat → Prop} {w : World} {xs : List V} {cs : List Value} (h : CRel φ W w xs cs) {i : Nat} {x : V} (hx : xs[i]? = some x) : ∃ c, cs[i]? = some c ∧ c.oneCell' = true ∧ VRel φ W w x c := by
  have hl := (List.getElem?_eq_some_iff.1 hx).1
  rw [h.1] at hl
  exact ⟨cs[i], List.getElem?_eq_getElem hl, h.2.1 _ (List.getElem_mem hl), h.2.2 i x _ hx (List.getElem?_eq_getElem hl)⟩

theorem mapM_at {α β : Type} {f : α → Option β} : ∀ {l : List α} {r : List β}, l.mapM f = some r → ∀ (i : Nat) (a : α), l[i]? = some a → ∃ b, f a = some b
  | [], r, h, i, a, ha => by simp at ha
  | x :: l, r, h, i, a, ha => by
    simp only [List.mapM_cons] at h
    cases hx : f x with
    | none => simp [hx] at h
    | some y =>
      cases hl : l.mapM f with
      | none => simp [hx, hl] at h
      | some ys =>
        cases i with
        | zero => simp at ha; rw [← ha]; exact ⟨y, hx⟩
        | succ i => exact mapM_at hl i a (by simpa using ha)

theorem cells_at {w : World} {base : Nat} {a : Addr} {n : Nat} {cs : List Value} (h : w.cells? base a n = some cs) : cs.length = n ∧ ∀ j v, cs[j]? = some v → w.cell? (a.add j) = some v := by
  unfold World.cells? at h
  split at h
  case isFalse => cases h
  have key : ∀ (l : List Nat) (cs : List Value), l.mapM (fun i => w.cell? (a.add i)) = some cs → cs.length = l.length ∧ ∀ (j : Nat) (v : Value), cs[j]? = some v → ∃ i, l[j]? = some i ∧ w.cell? (a.add i) = some v := fun l => by
    induction l with
    | nil => intro cs h; simp at h; subst h; simp
    | cons i l ih =>
      intro cs h
      simp only [List.mapM_cons] at h
      cases hi : w.cell? (a.add i) with
      | none => simp [hi] at h
      | some u =>
        cases hl : l.mapM (fun i => w.cell? (a.add i)) with
        | none => simp [hi, hl] at h
        | some us =>
          simp [hi, hl] at h
          subst h
          obtain ⟨h1, h2⟩ := ih us hl
          refine ⟨by simp [h1], fun j v hj => ?_⟩
          cases j with
          | zero => simp at hj; subst hj; exact ⟨i, rfl, hi⟩
          | succ j => simpa using h2 j v (by simpa using hj)
  obtain ⟨h1, h2⟩ := key _ _ h
  refine ⟨by simpa using h1, fun j v hj => ?_⟩
  obtain ⟨i, h3, h4⟩ := h2 j v hj
  have hj' : j < n := by have := (List.getElem?_eq_some_iff.1 hj).1; simp at h1; omega
  rw [List.getElem?_range hj'] at h3
  cases h3
  exact h4

/-- Elements out of a memory that holds them. -/
theorem sl_of_cells {w : World} {base : Nat} {a : Addr} {len cap s : Nat} {es : List V} (hl : es.length = len) (hcap : len ≤ cap) (h0 : 0 < s)
    (h : ∀ (i : Nat) (e : V), es[i]? = some e → ∃ cs, w.cells? base (a.add (i * s)) s = some cs ∧ CRel pure0 no0 w e.cells cs) : VRel pure0 no0 w (.sl es) (.slice (some a) len cap) := by
  subst hl
  have hadd : ∀ i j, (a.add (i * s)).add j = a.add (i * s + j) := fun i j => by rw [add_add]
  refine .sl es a cap s (fun k => (w.cell? (a.add k)).getD undef) hcap h0 (pureL_of fun i e he => ?_) (fun i e he => ?_) (fun _ h => h) (fun i j e c he hc => ?_) (fun i j e c he hc => ?_)
  · obtain ⟨cs, h1, h2⟩ := h i e he
    have hcells : ∀ (j : Nat) (c : V), e.cells[j]? = some c → pureV c = true := fun j c hc => by
      obtain ⟨u, _, _, h3⟩ := h2.at hc
      exact h3.isPure
    by_cases ha : ∃ cs, e = .agg cs
    · obtain ⟨cs, rfl⟩ := ha
      simp only [pureV]
      exact pureL_of hcells
    · have hc : e.cells = [e] := by cases e <;> first | rfl | exact absurd ⟨_, rfl⟩ ha
      exact hcells 0 e (by rw [hc]; rfl)
  · obtain ⟨cs, h1, h2⟩ := h i e he
    rw [h2.1]
    exact (cells_at h1).1
  · obtain ⟨cs, h1, h2⟩ := h i e he
    obtain ⟨u, h3, h4, _⟩ := h2.at hc
    have := (cells_at h1).2 j u h3
    rw [hadd] at this
    simp only [this, Option.getD_some]
    exact ⟨trivial, h4⟩
  · obtain ⟨cs, h1, h2⟩ := h i e he
    obtain ⟨u, h3, _, h5⟩ := h2.at hc
    have := (cells_at h1).2 j u h3
    rw [hadd] at this
    simp only [this, Option.getD_some]
    exact h5

/-- A list chosen place by place. -/
theorem list_of {R : Nat → V → Prop} : ∀ (n : Nat), (∀ i, i < n → ∃ x, R i x) → ∃ es : List V, es.length = n ∧ ∀ (i : Nat) (x : V), es[i]? = some x → R i x
  | 0, _ => ⟨[], rfl, by simp⟩
  | n + 1, h => by
    obtain ⟨es, h1, h2⟩ := list_of n (fun i hi => h i (by omega))
    obtain ⟨x, hx⟩ := h n (by omega)
    refine ⟨es ++ [x], by simp [h1], fun i y hy => ?_⟩
    rcases Nat.lt_or_ge i es.length with hi | hi
    · rw [List.getElem?_append_left hi] at hy
      exact h2 i y hy
    · rw [List.getElem?_append_right hi] at hy
      have : i = n := by have := (List.getElem?_eq_some_iff.1 hy).1; simp at this; omega
      subst this
      rw [← h1] at hy
      simp at hy
      rw [← hy]
      exact hx

/-- The cells of a variable as one value. -/
theorem one_of {t : TypeId} {xs : List V} {b : Bool} {w : World} {cs : List Value} (hb : aggT P t = some b) (h : CRel pure0 no0 w xs cs) (hl : b = false → xs.length = 1) :
    ∃ x : V, x.cells = xs ∧ aggT P t = some x.isAgg := by
  cases b with
  | true => exact ⟨.agg xs, rfl, hb⟩
  | false =>
    obtain ⟨x, rfl⟩ := List.length_eq_one_iff.1 (hl rfl)
    refine ⟨x, ?_, ?_⟩
    · cases x <;> first | rfl | skip
      obtain ⟨u, _, h1, h2⟩ := h.at (i := 0) rfl
      cases h2
      cases h1
    · cases x <;> first | exact hb | skip
      obtain ⟨u, _, h1, h2⟩ := h.at (i := 0) rfl
      cases h2
      cases h1

theorem hasT_one {n : Nat} {t : TypeId} {xs : List V} (h : HasT P n t xs) (ha : aggT P t = some false) : xs.length = 1 := by
  cases n with
  | zero => exact h.elim
  | succ n =>
    simp only [HasT] at h
    unfold aggT at ha
    split at h
    · obtain ⟨b, rfl⟩ := h; rfl
    · obtain ⟨m, rfl, _⟩ := h; rfl
    · obtain ⟨s, rfl, _⟩ := h; rfl
    · split at h
      · exact h
      · obtain ⟨es, rfl, _⟩ := h; rfl
    · rename_i he; rw [he] at ha; cases ha
    · rename_i he; rw [he] at ha; cases ha
    · exact h

theorem rowFine_at (hl : laidOutB P = true) {t : TypeId} (ht : t < P.types.size) : rowFine P t = true := by
  simp only [laidOutB, Bool.and_eq_true, List.all_eq_true, List.mem_range] at hl
  exact hl.1.1 t ht

theorem isVar_lt {t : TypeId} (h : isVar P t = true) : t < P.types.size ∧ kindOk (P.underlying t) = true := by
  simpa [isVar] using h

theorem aggT_of {t : TypeId} (h : kindOk (P.underlying t) = true) : ∃ b, aggT P t = some b := by
  unfold aggT
  cases hu : P.underlying t with
  | none => rw [hu] at h; cases h
  | some d => cases d <;> exact ⟨_, rfl⟩

section
variable {HH : Type} {enc : TypeId × Value → HH} {w : World} {base : Nat} {sp : Nat → Bool} {held : Bool}

theorem trod_rel (hl : laidOutB P = true) : ∀ (fuel : Nat) (t : TypeId) (cs : List Value) (r : DataW HH × List MemPlace), isVar P t = true → DataW.trod enc P w base sp held fuel t cs = some r →
    ∃ xs, CRel pure0 no0 w xs cs ∧ HasT P fuel t xs
  | 0, t, cs, r, ht, h => by simp [DataW.trod] at h
  | fuel + 1, t, cs, r, ht, h => by
    obtain ⟨htl, hk⟩ := isVar_lt ht
    have hrow := rowFine_at hl htl
    simp only [rowFine, ht, Bool.not_true, Bool.false_or] at hrow
    have undef1 : ∀ v : Value, cs = [v] → v.oneCell' = true → (HasT P (fuel + 1) t [.undef]) → ∃ xs, CRel pure0 no0 w xs cs ∧ HasT P (fuel + 1) t xs := fun v hv h1 h2 => ⟨[.undef], by rw [hv]; exact crel_one (.undef v) h1, h2⟩
    simp only [DataW.trod] at h
    split at h
    · rename_i b hu
      exact ⟨[.bool b], crel_one (.bool b) rfl, by simp only [HasT, hu]; exact ⟨b, rfl⟩⟩
    · rename_i k k' n hu
      split at h
      · rename_i hc
        obtain ⟨rfl, hw⟩ := hc
        exact ⟨[.int _ n], crel_one (.int _ n) rfl, by simp only [HasT, hu]; exact ⟨n, rfl, hw⟩⟩
      · cases h
    · rename_i hu; exact undef1 _ rfl rfl (by simp only [HasT, hu]; rfl)
    · rename_i s hu
      split at h
      · rename_i hs
        have he : s = ⟨s.data.toList.toArray⟩ := by cases s; simp
        refine ⟨[.str s.data.toList], ?_, by simp only [HasT, hu]; exact ⟨_, rfl, by simpa using hs⟩⟩
        rw [he]
        exact crel_one (.str _) rfl
      · cases h
    · rename_i hu; exact undef1 _ rfl rfl (by simp only [HasT, hu]; rfl)
    · rename_i hu; exact undef1 _ rfl rfl (by simp only [HasT, hu]; rfl)
    · rename_i e hu
      by_cases h0 : P.cellsOf e = 0
      · exact undef1 _ rfl rfl (by simp only [HasT, hu]; rw [if_pos h0]; rfl)
      · exact ⟨[.sl []], crel_one .slnil rfl, by simp only [HasT, hu]; rw [if_neg h0]; exact ⟨[], rfl, Nat.zero_le _, by simp⟩⟩
    · rename_i e a len cap hu
      by_cases h0 : P.cellsOf e = 0
      · exact undef1 _ rfl rfl (by simp only [HasT, hu]; rw [if_pos h0]; rfl)
      · rw [hu] at hrow
        simp only [Bool.and_eq_true] at hrow
        split at h
        case isFalse => cases h
        rename_i hc
        rw [Option.bind_eq_some_iff] at h
        obtain ⟨elems, hel, _⟩ := h
        obtain ⟨_, hke⟩ := isVar_lt hrow.1
        obtain ⟨b, hb⟩ := aggT_of hke
        have key : ∀ i, i < len → ∃ x : V, ∃ cs', w.cells? base (a.add (i * P.cellsOf e)) (P.cellsOf e) = some cs' ∧ CRel pure0 no0 w x.cells cs' ∧ aggT P e = some x.isAgg ∧ HasT P fuel e x.cells := fun i hi => by
          obtain ⟨y, hy⟩ := mapM_at hel i i (by simp [hi])
          rw [Option.bind_eq_some_iff] at hy
          obtain ⟨cs', h1, h2⟩ := hy
          obtain ⟨xs, h3, h4⟩ := trod_rel hl fuel e cs' y hrow.1 h2
          obtain ⟨x, rfl, h6⟩ := one_of hb h3 (fun hbf => hasT_one h4 (by rw [hb, hbf]))
          exact ⟨x, cs', h1, h3, h6, h4⟩
        obtain ⟨es, hel', hes⟩ := list_of len key
        refine ⟨[.sl es], crel_one (sl_of_cells (base := base) hel' hc.2.1 (Nat.pos_of_ne_zero h0) fun i x hx => ?_) rfl, ?_⟩
        · obtain ⟨cs', h1, h2, _⟩ := hes i x hx
          exact ⟨cs', h1, h2⟩
        · simp only [HasT, hu]
          rw [if_neg h0]
          refine ⟨es, rfl, by rw [hel']; exact Nat.le_trans hc.2.1 hc.2.2, fun x hx => ?_⟩
          obtain ⟨i, hi⟩ := List.getElem?_of_mem hx
          obtain ⟨_, _, _, h3, h4⟩ := hes i x hi
          exact ⟨h3, h4⟩
    · rename_i cs _ _ fs hu
      rw [hu] at hrow
      simp only [Bool.and_eq_true, List.all_eq_true, beq_iff_eq, List.mem_range] at hrow
      split at h
      case isFalse => cases h
      rename_i hlen
      rw [Option.map_eq_some_iff] at h
      obtain ⟨ys, hys, _⟩ := h
      have hoff : ∀ (j : Nat) (f : Field), fs.toList[j]? = some f → f.offset = (((fs.toList.map fun f => P.cellsOf f.type).take j)).sum := fun j f hj => by
        have h1 := hrow.2 j (List.getElem?_eq_some_iff.1 hj).1
        rw [hj] at h1
        simp only [beq_iff_eq] at h1
        rw [h1, List.map_take]
      obtain ⟨xs, h1, h2⟩ := parts_of_sizes (w := w) (R := fun j xs => ∀ f, fs.toList[j]? = some f → HasT P fuel f.type xs) (fs.toList.map fun f => P.cellsOf f.type) cs (by rw [hlen, hrow.1.2]) (fun j s hj => by
        rw [List.getElem?_map, Option.map_eq_some_iff] at hj
        obtain ⟨f, hf, rfl⟩ := hj
        obtain ⟨y, hy⟩ := mapM_at hys j f hf
        rw [hoff j f hf] at hy
        obtain ⟨xs, h3, h4⟩ := trod_rel hl fuel f.type _ y (hrow.1.1 f (List.mem_of_getElem? hf)) hy
        exact ⟨xs, h3, fun f' hf' => by rw [hf] at hf'; cases hf'; exact h4⟩)
      refine ⟨xs, h1, ?_⟩
      simp only [HasT, hu]
      refine ⟨by rw [h1.1, hlen], fun f hf => ?_⟩
      obtain ⟨j, hj⟩ := List.getElem?_of_mem hf
      have := h2 j (P.cellsOf f.type) (by rw [List.getElem?_map, hj]; rfl) f hj
      rwa [← hoff j f hj] at this
    · rename_i cs _ _ m e hu
      rw [hu] at hrow
      simp only [Bool.and_eq_true, beq_iff_eq] at hrow
      split at h
      case isFalse => cases h
      rename_i hlen
      rw [Option.map_eq_some_iff] at h
      obtain ⟨ys, hys, _⟩ := h
      have hsum : ∀ j, (List.replicate j (P.cellsOf e)).sum = j * P.cellsOf e := fun j => by simp
      obtain ⟨xs, h1, h2⟩ := parts_of_sizes (w := w) (R := fun j xs => HasT P fuel e xs) (List.replicate m (P.cellsOf e)) cs (by rw [hlen, hrow.2, hsum]) (fun j s hj => by
        rw [List.getElem?_replicate] at hj
        split at hj
        case isFalse => cases hj
        rename_i hjm
        cases hj
        obtain ⟨y, hy⟩ := mapM_at hys j j (by simp [hjm])
        have ht : (List.replicate m (P.cellsOf e)).take j = List.replicate j (P.cellsOf e) := by rw [List.take_replicate, Nat.min_eq_left (Nat.le_of_lt hjm)]
        rw [ht, hsum]
        obtain ⟨xs, h3, h4⟩ := trod_rel hl fuel e _ y hrow.1 hy
        exact ⟨xs, h3, h4⟩)
      refine ⟨xs, h1, ?_⟩
      simp only [HasT, hu]
      refine ⟨by rw [h1.1, hlen], fun j hj => ?_⟩
      have := h2 j (P.cellsOf e) (by rw [List.getElem?_replicate, if_pos hj])
      rw [List.take_replicate, Nat.min_eq_left (Nat.le_of_lt hj), hsum] at this
      exact this
    all_goals first
      | (cases h; done)
      | (rename_i hu; exact undef1 _ rfl rfl (by simp only [HasT, hu]; rfl))
      | skip

end

end Go.Abs

namespace Go.Abs
open Go.RowKit Go.WideShapes
set_option linter.unusedVariables false
set_option linter.unusedSimpArgs false

/-- What is known of an argument. -/
def ArgT (P : Program) (t : TypeId) (x : V) : Prop := ∃ n, HasT P n t x.cells ∧ aggT P t = some x.isAgg

section
variable {P : Program} {HH : Type} {enc : TypeId × Value → HH} {w : World} {base b0 : Nat} {sp : Nat → Bool} {held : Bool} {rr : Reach}

theorem rel_agg {xs : List V} {cs : Array Value} (h : CRel pure0 no0 w xs cs.toList) : VRel pure0 no0 w (.agg xs) (.agg cs) :=
  .agg xs cs (by rw [h.1]; simp) h.2.1 fun i c v hc hv => h.2.2 i c v hc (by simpa using hv)

theorem arg_rel (hl : laidOutB P = true) {t : TypeId} {v : Value} {d : DataW HH} {ps : List MemPlace} (ht : isVar P t = true) (hval : Value.okWide P w rr b0 t v) (h : DataW.Trod enc P w base sp held t v d ps) :
    ∃ x, VRel pure0 no0 w x v ∧ ArgT P t x := by
  obtain ⟨fuel, h⟩ := h
  obtain ⟨xs, h1, h2⟩ := trod_rel hl fuel t _ _ ht h
  obtain ⟨b, hb⟩ := aggT_of (isVar_lt ht).2
  have single : (∀ cs, v ≠ .agg cs) → b = false → ∃ x, VRel pure0 no0 w x v ∧ ArgT P t x := fun hv hbf => by
    have hc : v.cells.toList = [v] := by cases v <;> first | rfl | exact absurd rfl (hv _)
    rw [hc] at h1
    obtain ⟨x, rfl, hx2⟩ := one_of hb h1 (fun _ => h1.1)
    have hxc : x.cells = [x] := by cases x <;> first | rfl | (rw [hbf] at hb; rw [hb] at hx2; cases hx2)
    rw [hxc] at h1
    exact ⟨x, h1.2.2 0 x v rfl rfl, fuel, h2, hx2⟩
  have other : b = false → (HasT P fuel t [.undef]) → ∃ x, VRel pure0 no0 w x v ∧ ArgT P t x := fun hbf hu => ⟨.undef, .undef v, fuel, hu, by rw [hb, hbf]; rfl⟩
  have whole : ∀ cs : Array Value, v = .agg cs → b = true → ∃ x, VRel pure0 no0 w x v ∧ ArgT P t x := fun cs hv hbt => by
    subst hv
    exact ⟨.agg xs, rel_agg h1, fuel, h2, by rw [hb, hbt]; rfl⟩
  have pos : ∃ n, fuel = n + 1 := by cases fuel with | zero => exact h2.elim | succ n => exact ⟨n, rfl⟩
  obtain ⟨n, rfl⟩ := pos
  cases hu : P.underlying t with
  | none => unfold aggT at hb; rw [hu] at hb; cases hb
  | some dd =>
    have hb' := hb
    unfold aggT at hb'
    rw [hu] at hb'
    cases dd
    case struct fs =>
      simp only [Value.okWide, hu] at hval
      obtain ⟨cs, rfl, _⟩ := hval
      exact whole cs rfl (Option.some.inj hb').symm
    case array m e =>
      simp only [Value.okWide, hu] at hval
      obtain ⟨cs, rfl, _⟩ := hval
      exact whole cs rfl (Option.some.inj hb').symm
    case bool => obtain ⟨c, rfl⟩ := okWide_bool hu hval; exact single (by simp) (Option.some.inj hb').symm
    case int k => obtain ⟨c, rfl⟩ := okWide_int hu hval; exact single (by simp) (Option.some.inj hb').symm
    case string => obtain ⟨c, rfl⟩ := okWide_string hu hval; exact single (by simp) (Option.some.inj hb').symm
    case slice e => obtain ⟨a, l, c, rfl⟩ := okWide_slice hu hval; exact single (by simp) (Option.some.inj hb').symm
    all_goals exact other (Option.some.inj hb').symm (by simp only [HasT, hu]; rfl)

end

theorem inv_start (w : World) : Inv w.heap.size no0 pure0 [] w := inv_empty fun c h => h.elim

theorem no_wr {c : Nat} (h : Wr pure0 [] no0 c) : no0 c := by
  rcases h with h | ⟨b, s, n, x, h1, _⟩
  · exact h
  · cases h1

/-- A law's call. -/
theorem law_walk {C : Ctx} (G : Good C) {f : FuncId} {xs : List V} {args : Array Value} {w : World} {H' : Heap} (h : bodyW C f xs [] = some (.bool true, H')) (ha : ArgsRel pure0 no0 w xs args) :
    Calls C.P f args w (fun e w' => e = .returned (.bool true) ∧ Below w.heap.size w w') := by
  obtain ⟨n, hn⟩ := bodyW_iff.1 h
  have := ((all_ok G n).b _ _ _ _ _ hn).2 w.heap.size no0 pure0 w args (inv_start w) ⟨ha.1, fun i x c a b => (ha.2 i x c a b).mono (h0 := 0) (Ext.frz (w := w) fun c h => no_wr h) (fun _ h => absurd rfl h)⟩
  refine Calls.mono this fun e w' ⟨v, he, φ', ht⟩ => ?_
  have hv := isBool_of ht.rel
  rw [he, hv]
  exact ⟨rfl, ht.step.below⟩

theorem argsRel_one {φ : Place} {W : Nat → Prop} {w : World} {x : V} {v : Value} (h : VRel φ W w x v) : ArgsRel φ W w [x] #[v] := ⟨rfl, fun i a c ha hc => by
  cases i with
  | zero => simp at ha hc; rw [← ha, ← hc]; exact h
  | succ i => simp at ha⟩
theorem argsRel_two {φ : Place} {W : Nat → Prop} {w : World} {x y : V} {v u : Value} (h : VRel φ W w x v) (k : VRel φ W w y u) : ArgsRel φ W w [x, y] #[v, u] := (argsRel_one h).append (argsRel_one k)
/-- A function of a table. -/
def bodyOf (fn : Func) : Option Body := fn.body.map fun c => ⟨fn.results.toList, fn.ntmps, c⟩

theorem good_body {P : Program} {ld : FuncId → Bool} {fr : Nat → List Nat} {f : FuncId} {fn : Func} (hf : P.funcs[f]? = some fn) (hn : fn.name ≠ "runtime.NumGoroutine") (hc : (fn.body.map (codeOk P ld fr fn.ntmps)) = some true) {b : Body} (h : bodyOf fn = some b) :
    ∃ fn, P.funcs[f]? = some fn ∧ fn.name ≠ "runtime.NumGoroutine" ∧ fn.body = some b.code ∧ fn.results.toList = b.results ∧ fn.ntmps = b.ntmps ∧ codeOk P ld fr b.ntmps b.code = true := by
  unfold bodyOf at h
  cases hb : fn.body with
  | none => rw [hb] at h; cases h
  | some c =>
    rw [hb] at h hc
    cases h
    exact ⟨fn, hf, hn, hb, rfl, rfl, by simpa using hc⟩

end Go.Abs

namespace Go.Abs
open Go.RowKit
set_option linter.unusedVariables false
set_option linter.unusedSimpArgs false

variable {P : Program}

section
variable {base : Nat} {Z : Nat → Prop} {w w' : World}

theorem shape_below (hb : Below w.heap.size w w') : ∀ c x, w.shape? c = some x → w'.shape? c = some x := fun c x hx => by
  have hc : c < w.heap.size := by
    unfold World.shape? at hx
    cases hh : w.heap[c]? with
    | none => rw [hh] at hx; cases hx
    | some _ => exact (Array.getElem?_eq_some_iff.1 hh).1
  rw [shape_of_heap (hb.block c hc)]
  exact hx

theorem turns_below {r : V} {v : Value} (I : Inv base Z pure0 [] w) (hb : Below w.heap.size w w') (hr : VRel pure0 (Wr pure0 [] Z) w' r v) : Turns base Z pure0 [] w [] r v w' :=
  ⟨pure0, { I with hb := Nat.le_trans I.hb hb.size, rng := fun b c s n h => Loc.noConfusion h, blk := fun b c s n h => Loc.noConfusion h }, hr, ⟨⟨fun b h => absurd h (Nat.not_lt_zero _), fun _ _ h => h, fun c hc _ => hb.block c hc, shape_below hb, hb.size⟩, hb.mono I.hb⟩, Nat.le_refl _⟩

/-- strings.Repeat, evaluated. -/
def repeatX : List V → Option (V × Heap)
  | [.str s, .int .i64 n] => if 0 ≤ n ∧ n ≤ 9223372036854775807 ∧ s.length * n.toNat ≤ 140737488355328 then some (.str (Lib.repeatL s n.toNat), []) else none
  | _ => none

theorem repeat_contract {f : FuncId} (h : ∀ (s : ByteArray) (c : Nat) (w : World), c ≤ 9223372036854775807 → s.size * c ≤ 140737488355328 →
      Calls P f #[.string s, .int .i64 c] w fun e w' => e = .returned (.string ⟨(Lib.repeatL s.data.toList c).toArray⟩) ∧ Below w.heap.size w w')
    (asx : List V) (r : V) (H' : Heap) (hx : repeatX asx = some (r, H')) : Contract P f asx r H' := fun base Z w cargs I ha => by
  unfold repeatX at hx
  split at hx
  case h_2 => cases hx
  rename_i s n
  split at hx
  case isFalse => cases hx
  rename_i hc
  cases hx
  obtain ⟨c1, c2, rfl, h1, h2⟩ := len_two ha rfl
  cases h1
  cases h2
  obtain ⟨m, rfl⟩ : ∃ m : Nat, n = m := ⟨n.toNat, by omega⟩
  refine Calls.mono (h ⟨s.toArray⟩ m w (by omega) (by show s.toArray.size * m ≤ _; simpa using hc.2.2)) fun e w' ⟨he, hb⟩ => ⟨_, he, ?_⟩
  refine turns_below I hb ?_
  simpa using (VRel.str (φ := pure0) (W := Wr pure0 [] Z) (w := w') (Lib.repeatL s m))

/-- slices.Clone, evaluated. -/
def cloneX (s bytes : Nat) : List V → Option (V × Heap)
  | [.sl es] => if 0 < s ∧ es.length * bytes ≤ room ∧ es.length ≤ room ∧ (es.all fun e => e.cells.length == s) = true then some (.own 0 es.length 0 es.length, [.dat true s es]) else none
  | _ => none

/-- A row of the call's own, and nothing else. -/
theorem own_row {s n : Nat} {e : TypeId} {es : List V} {v : Value} {news : List Value} (I : Inv base Z pure0 [] w) (hb : Below w.heap.size w w') (h0 : 0 < s) (hn : n = es.length) (hs : Each s es)
    (hown : w'.ownsRow w.heap.size e s v n news) (hrel : ∀ (i j : Nat) (x c : V), es[i]? = some x → x.cells[j]? = some c → ∃ u, news[i * s + j]? = some u ∧ u.oneCell' = true ∧ VRel pure0 (Wr pure0 [] Z) w c u) :
    Turns base Z pure0 [] w [.dat true s es] (.own 0 n 0 n) v w' := by
  obtain ⟨hl, hown⟩ := hown
  have E : ∀ (φ' : Place) (W' : Nat → Prop), (∀ c, c < w.heap.size → W' c → Wr pure0 [] Z c) → Ext 0 pure0 (Wr pure0 [] Z) w φ' W' w' := fun φ' W' hW =>
    ⟨fun b h => absurd h (Nat.not_lt_zero _), hW, fun c hc _ => hb.block c hc, shape_below hb, hb.size⟩
  have hzb : base ≤ w'.heap.size := Nat.le_trans I.hb hb.size
  rcases hown with ⟨rfl, rfl⟩ | ⟨g, cap, cur, rfl, hg, hh, hcap, hmax, hsz, htake⟩
  · have hes : es = [] := List.eq_nil_of_length_eq_zero hn.symm
    subst hes
    have at0 : ∀ b c s' n', (upd pure0 0 Loc.nil) b = .at c s' n' → False := fun b c s' n' h => by
      by_cases hb0 : b = 0
      · subst hb0; rw [upd_same] at h; cases h
      · rw [upd_ne _ _ hb0] at h; cases h
    refine ⟨upd pure0 0 .nil, ⟨I.hz, hzb, fun b hb' => ?_, fun b b' c s' n' s'' n'' h => (at0 _ _ _ _ h).elim, fun b c s' n' h => (at0 _ _ _ _ h).elim, fun b c s' n' h => (at0 _ _ _ _ h).elim, fun b h => ?_⟩, ?_, ⟨E _ _ fun c _ h => ?_, hb.mono I.hb⟩, Nat.zero_le _⟩
    · rw [upd_ne _ _ (by simp at hb'; omega)]; rfl
    · by_cases hb0 : b = 0
      · subst hb0; exact .inl ⟨true, s, rfl, h0⟩
      · rw [upd_ne _ _ hb0] at h; cases h
    · exact .own 0 0 0 0 _ rfl (Nat.le_refl _) (by simp) (fun _ => ⟨rfl, rfl⟩) (fun c s' n' h => (at0 _ _ _ _ h).elim)
    · rcases h with h | ⟨b, s', n', x, h1, _⟩
      · exact .inl h
      · exact (at0 _ _ _ _ h1).elim
  · have at0 : ∀ b c s' n', (upd pure0 0 (Loc.at g s n)) b = .at c s' n' → b = 0 ∧ c = g ∧ s' = s ∧ n' = n := fun b c s' n' h => by
      by_cases hb0 : b = 0
      · subst hb0; rw [upd_same] at h; cases h; exact ⟨rfl, rfl, rfl, rfl⟩
      · rw [upd_ne _ _ hb0] at h; cases h
    have hW : ∀ c, c < w.heap.size → Wr (upd pure0 0 (.at g s n)) [.dat true s es] Z c → Wr pure0 [] Z c := fun c hc h => by
      rcases h with h | ⟨b, s', n', x, h1, _⟩
      · exact .inl h
      · have := (at0 _ _ _ _ h1).2.1; omega
    have hgl : g < w'.heap.size := (Array.getElem?_eq_some_iff.1 hh).1
    have ext := E (upd pure0 0 (.at g s n)) _ hW
    have hrow : Row pure0 (Wr (upd pure0 0 (.at g s n)) [.dat true s es] Z) w' g s es := by
      refine ⟨h0, cur, e, (0, 0), hh, ?_, Frz.none _ _, fun i x hx => ⟨hs i x hx, fun j c hc => ?_⟩⟩
      · rw [hsz, ← hn]; exact Nat.mul_le_mul_right _ hcap
      · obtain ⟨u, h1, h2, h3⟩ := hrel i j x c hx hc
        refine ⟨u, ?_, h2, h3.mono0 ext⟩
        rw [← htake, List.getElem?_take] at h1
        split at h1
        · simpa using h1
        · cases h1
    refine ⟨upd pure0 0 (.at g s n), ⟨I.hz, hzb, fun b hb' => ?_, fun b b' c s' n' s'' n'' h h' => ?_, fun b c s' n' h => ?_, fun b c s' n' h => ?_, fun b h => ?_⟩, ?_, ⟨ext, hb.mono I.hb⟩, Nat.zero_le _⟩
    · rw [upd_ne _ _ (by simp at hb'; omega)]; rfl
    · rw [(at0 _ _ _ _ h).1, (at0 _ _ _ _ h').1]
    · obtain ⟨_, rfl, _, _⟩ := at0 _ _ _ _ h
      exact ⟨Nat.le_trans I.hb hg, hgl⟩
    · obtain ⟨rfl, rfl, rfl, rfl⟩ := at0 _ _ _ _ h
      exact ⟨_, rfl, hn, rfl, hrow⟩
    · by_cases hb0 : b = 0
      · subst hb0; rw [upd_same] at h; cases h
      · rw [upd_ne _ _ hb0] at h; cases h
    · refine .own 0 n 0 n _ rfl (by omega) (by simp) (fun h => by rw [upd_same] at h; cases h) (fun c s' n' h => ?_)
      obtain ⟨_, rfl, rfl, rfl⟩ := at0 _ _ _ _ h
      refine ⟨Nat.le_refl _, fun _ => ⟨_, cap, e, cur.size, rfl, by simp [World.shape?, hh], hcap, fun _ => by simp, fun _ => ⟨hcap, by rw [hsz]; exact Nat.le_refl _, hmax⟩⟩⟩

theorem clone_contract {f : FuncId} {s bytes : Nat} {e : TypeId} (hnil : ∀ (n c : Nat) (w : World), Calls P f #[.slice none n c] w fun e w' => e = .returned (.slice none 0 0) ∧ w' = w)
    (hzero : ∀ (a : Addr) (c : Nat) (w : World), Calls P f #[.slice (some a) 0 c] w fun x w' => ∃ v', x = .returned v' ∧ w'.ownsRow w.heap.size e s v' 0 [] ∧ v' ≠ .slice none 0 0 ∧ Below w.heap.size w w')
    (hmain : ∀ (b off n c : Nat) (news : List Value) (w : World), news.length = n * s → n ≤ maxLen → n * bytes ≤ 140737488355328 → (∀ j u, news[j]? = some u → w.cell? ⟨b, off + j, none⟩ = some u) → (∀ u ∈ news, u.oneCell' = true) →
      Calls P f #[.slice (some ⟨b, off, none⟩) n c] w fun x w' => ∃ v', x = .returned v' ∧ w'.ownsRow w.heap.size e s v' n news ∧ v' ≠ .slice none 0 0 ∧ Below w.heap.size w w')
    (asx : List V) (r : V) (H' : Heap) (hx : cloneX s bytes asx = some (r, H')) : Contract P f asx r H' := fun base Z w cargs I ha => by
  unfold cloneX at hx
  split at hx
  case h_2 => cases hx
  rename_i es
  split at hx
  case isFalse => cases hx
  rename_i hc
  obtain ⟨h0, hb1, hb2, hall⟩ := hc
  cases hx
  obtain ⟨cv, rfl, hr⟩ := len_one ha rfl
  have hs : Each s es := .of_mem fun x hx => by simpa using List.all_eq_true.1 hall x hx
  rcases sl_mem hr with ⟨rfl, rfl⟩ | ⟨a, cap, s', rfl, hcap, h0', hp, hW, hmem⟩
  · refine Calls.mono (hnil 0 0 w) fun x w' ⟨he, hw⟩ => ⟨_, he, ?_⟩
    subst hw
    exact own_row (e := e) (news := []) I (.refl _ _) h0 rfl hs ⟨by simp, .inl ⟨rfl, rfl⟩⟩ (fun i j x c hx => by simp at hx)
  · cases es with
    | nil =>
      refine Calls.mono (hzero a cap w) fun x w' ⟨v', he, hown, _, hb⟩ => ⟨_, he, ?_⟩
      exact own_row I hb h0 rfl hs hown (fun i j x c hx => by simp at hx)
    | cons e0 es =>
      have hss : s' = s := by rw [← (hmem 0 e0 rfl).1]; exact hs 0 e0 rfl
      subst hss
      have hfl := flat_length _ hs
      have hat : ∀ (k : Nat) (c : V), ((e0 :: es).flatMap V.cells)[k]? = some c → ∃ v, w.cell? (a.add k) = some v ∧ v.oneCell' = true ∧ VRel pure0 (Wr pure0 [] Z) w c v := fun k c hk => by
        obtain ⟨i, j, x, rfl, h1, h2⟩ := flat_at _ hs k c hk
        obtain ⟨v, h3, h4, h5⟩ := (hmem i x h1).2 j c h2
        rw [add_add] at h3
        exact ⟨v, h3, h4, h5⟩
      have hlt : ∀ k, k < (e0 :: es).length * s' → ∃ c v, ((e0 :: es).flatMap V.cells)[k]? = some c ∧ w.cell? (a.add k) = some v ∧ v.oneCell' = true ∧ VRel pure0 (Wr pure0 [] Z) w c v := fun k hk => by
        have hc := List.getElem?_eq_getElem (l := (e0 :: es).flatMap V.cells) (i := k) (by omega)
        obtain ⟨v, h1, h2, h3⟩ := hat k _ hc
        exact ⟨_, v, hc, h1, h2, h3⟩
      have hpos : 0 < (e0 :: es).length * s' := Nat.mul_pos (by simp) h0
      obtain ⟨b, off, spot⟩ := a
      have hspot : spot = none := by
        obtain ⟨_, v, _, h1, _⟩ := hlt 0 hpos
        simp only [Addr.add, if_pos, World.cell?] at h1
        split at h1
        · split at h1
          · cases h1
          · rename_i hsp; simpa using hsp
        · cases h1
      subst hspot
      have hadd : ∀ k, (⟨b, off, none⟩ : Addr).add k = ⟨b, off + k, none⟩ := fun k => by
        unfold Addr.add
        split
        · rename_i hk; subst hk; rfl
        · rfl
      have hnews : ∀ (k : Nat) (u : Value), ((List.range ((e0 :: es).length * s')).map fun k => (w.cell? ⟨b, off + k, none⟩).getD undef)[k]? = some u → k < (e0 :: es).length * s' ∧ w.cell? ⟨b, off + k, none⟩ = some u ∧ u.oneCell' = true := fun k u hk => by
        rw [List.getElem?_map, Option.map_eq_some_iff] at hk
        obtain ⟨k', h1, h2⟩ := hk
        have hkl : k < (e0 :: es).length * s' := by have := (List.getElem?_eq_some_iff.1 h1).1; simpa using this
        rw [List.getElem?_range hkl] at h1
        cases h1
        obtain ⟨_, v, _, h3, h4, _⟩ := hlt k hkl
        rw [hadd] at h3
        rw [h3] at h2
        simp only [Option.getD_some] at h2
        rw [← h2]
        exact ⟨hkl, h3, h4⟩
      refine Calls.mono (hmain b off (e0 :: es).length cap ((List.range ((e0 :: es).length * s')).map fun k => (w.cell? ⟨b, off + k, none⟩).getD undef) w (by simp) (Nat.le_trans hb2 (by unfold room maxLen; decide)) (Nat.le_trans hb1 (by unfold room; decide)) (fun j u hj => (hnews j u hj).2.1) (fun u hu => ?_)) fun x w' ⟨v', he, hown, _, hb⟩ => ⟨_, he, ?_⟩
      · obtain ⟨k, hk⟩ := List.getElem?_of_mem hu
        exact (hnews k u hk).2.2
      · refine own_row I hb h0 rfl hs hown (fun i j x c hx hc => ?_)
        have hg := flat_get _ hs i j x c hx hc
        obtain ⟨v, h3, h4, h5⟩ := hat _ c hg
        rw [hadd] at h3
        have hkl : i * s' + j < (e0 :: es).length * s' := by have := (List.getElem?_eq_some_iff.1 hg).1; omega
        exact ⟨v, by rw [List.getElem?_map, List.getElem?_range hkl]; simp [h3], h4, h5⟩

end

end Go.Abs

namespace Go.Abs
open Go.RowKit
set_option linter.unusedVariables false
set_option linter.unusedSimpArgs false

variable {P : Program}

section
variable {base : Nat} {Z : Nat → Prop} {φ : Place} {H : Heap} {w w' : World}

/-- An own slice made longer, in place or elsewhere. -/
theorem e_redo {b s tot cap g : Nat} {es es' : List V} {cs : Array Value} {e : TypeId} {fr : Nat × Nat} (I : Inv base Z φ H w) (hl : φ b = .nil ∨ ∃ c, φ b = .at c s tot) (hb : H[b]? = some (.dat true s es)) (h0 : 0 < s)
    (hes : Each s es') (hn : tot < es'.length) (hsize : w.heap.size ≤ w'.heap.size) (hother : ∀ d, d < w.heap.size → (∀ s' n', φ b ≠ .at d s' n') → w'.heap[d]? = w.heap[d]?) (hshape : ∀ d x, w.shape? d = some x → w'.shape? d = some x)
    (hbelow : Below base w w') (hg : w.heap.size ≤ g ∨ φ b = .at g s tot) (hh : w'.heap[g]? = some (.cells cs e fr)) (hfr : Frz s cs.size fr) (hcap : es'.length ≤ cap) (hcs : cap * s ≤ cs.size) (hmax : cap ≤ maxLen)
    (hcells : CRel pure0 (Wr φ H Z) w (es'.flatMap V.cells) (cs.toList.take (es'.length * s))) :
    Turns base Z φ H w (H.set b (.dat true s es')) (.own b es'.length 0 es'.length) (.slice (some ⟨g, 0, none⟩) es'.length cap) w' := by
  have hlt := (List.getElem?_eq_some_iff.1 hb).1
  generalize hx' : Blk.dat true s es' = x'
  have hgl : g < w'.heap.size := (Array.getElem?_eq_some_iff.1 hh).1
  have hk : Keeps (φ b) (.at g s es'.length) := by
    refine ⟨by simp, by simp, fun c s' n' h => ?_⟩
    cases h
    rcases hl with hl | ⟨c', hl⟩
    · exact .inr (.inr ⟨hl, by omega⟩)
    · exact .inr (.inl ⟨c', s, tot, hl, hn⟩)
  have hold : ∀ d s' n', φ b = .at d s' n' → Wr φ H Z d := fun d s' n' h => .inr ⟨b, s', n', _, h, hb, rfl⟩
  have E : Ext H.length φ (Wr φ H Z) w (upd φ b (.at g s es'.length)) (Wr (upd φ b (.at g s es'.length)) (H.set b x') Z) w' :=
    ⟨fun i _ hi => keeps_upd (fun _ => hk) i hi, fun d hd h => wr_upd (w := w) hb rfl (fun h => by
        rcases hg with hg | hg
        · omega
        · exact ⟨s, tot, hg⟩) d hd h, fun d hd hnw => hother d hd fun s' n' h => hnw (hold d s' n' h), hshape, hsize⟩
  have hrow : Row pure0 (Wr (upd φ b (.at g s es'.length)) (H.set b x') Z) w' g s es' := by
    refine Row.ofFlat h0 hh hfr hes (vs := cs.toList.take (es'.length * s)) ?_ fun k v hk => ?_
    · exact hcells.mono E.pure (fun _ h => absurd rfl h)
    · rw [List.getElem?_take] at hk
      split at hk
      · simpa using hk
      · cases hk
  have I' := I.turn (b := b) E (by simp) (fun i hi => upd_ne _ _ hi) (upd_same ..) ⟨by
      rcases hg with hg | hg
      · exact Nat.le_trans I.hb hg
      · exact (I.rng _ _ _ _ hg).1, hgl⟩ (fun i s' n' hib h1 => by
      rcases hg with hg | hg
      · have := (I.rng _ _ _ _ h1).2; omega
      · exact hib (I.inj _ _ _ _ _ _ _ h1 hg)) (fun i x0 hib h1 => ⟨x0, by rw [List.getElem?_set_ne (Ne.symm hib)]; exact h1, x0.le_refl⟩) (List.getElem?_set_self hlt)
    (by rw [← hx']; exact ⟨rfl, rfl, by rw [hx']; exact hrow⟩) (fun i d s' n' hib h1 => hother d (I.rng _ _ _ _ h1).2 fun s'' n'' h2 => hib (I.inj _ _ _ _ _ _ _ h1 h2))
  refine ⟨_, I', .own _ _ _ _ _ rfl (by omega) (by simp) (by simp) fun c' s' n' h => ?_, ⟨E, hbelow⟩, by simp⟩
  rw [upd_same] at h
  cases h
  exact ⟨Nat.le_refl _, fun _ => ⟨_, cap, e, cs.size, rfl, by simp [World.shape?, hh], hcap, fun _ => by simp, fun _ => ⟨hcap, hcs, hmax⟩⟩⟩

end

end Go.Abs

namespace Go.Abs
open Go.RowKit
set_option linter.unusedVariables false
set_option linter.unusedSimpArgs false

/-- Cells set one by one are a row turned. -/
theorem setCells_row {c : Nat} {t : TypeId} {fr : Nat × Nat} : ∀ (vs : List Value) (o : Nat) (cs : Array Value) (w : World), w.heap[c]? = some (.cells cs t fr) → o + vs.length ≤ cs.size →
    (w.setCells c o vs).heap[c]? = some (.cells (cs.toList.take o ++ vs ++ cs.toList.drop (o + vs.length)).toArray t fr) ∧ (w.setCells c o vs).heap.size = w.heap.size ∧ ∀ d, d ≠ c → (w.setCells c o vs).heap[d]? = w.heap[d]?
  | [], o, cs, w, hh, _ => ⟨by simp [World.setCells, hh], rfl, fun _ _ => rfl⟩
  | v :: vs, o, cs, w, hh, hl => by
    simp only [List.length_cons] at hl
    have hlt : o < cs.size := by omega
    have e : w.setCell ⟨c, o, none⟩ v = w.setRow c (cs.setIfInBounds o v) := setCell_eq_setRow w c o cs t fr v hh
    obtain ⟨h1, h2, h3⟩ := setCells_row vs (o + 1) (cs.setIfInBounds o v) (w.setRow c (cs.setIfInBounds o v)) (setRow_heap w c cs _ t fr hh) (by simp; omega)
    simp only [World.setCells, e]
    refine ⟨?_, by rw [h2]; simp [World.setRow], fun d hd => by rw [h3 d hd]; exact setRow_other w c d _ hd⟩
    rw [h1, Array.toList_setIfInBounds, splice_step cs.toList o vs.length v vs (by simpa using hlt), List.length_cons]

end Go.Abs

namespace Go.Abs
open Go.RowKit
set_option linter.unusedVariables false
set_option linter.unusedSimpArgs false

variable {P : Program}

section
variable {base : Nat} {Z : Nat → Prop} {φ : Place} {H : Heap} {w w' : World} {cv : Value}

/-- A whole own slice: where it is. -/
theorem own_whole {b tot s : Nat} {wr : Bool} {es : List V} (I : Inv base Z φ H w) (hb : H[b]? = some (.dat wr s es)) (ht : es.length = tot) (h : VRel φ (Wr φ H Z) w (.own b tot 0 tot) cv) :
    (φ b = .nil ∧ tot = 0 ∧ cv = .slice none 0 0) ∨ ∃ c cap cs t fr, φ b = .at c s tot ∧ cv = .slice (some ⟨c, 0, none⟩) tot cap ∧ tot ≤ cap ∧ cap * s ≤ cs.size ∧ cap ≤ maxLen ∧ w.heap[c]? = some (.cells cs t fr) ∧ 0 < s ∧ Each s es ∧
      Frz s cs.size fr ∧ CRel pure0 (Wr φ H Z) w (es.flatMap V.cells) (cs.toList.take (es.length * s)) := by
  cases h with
  | own _ _ _ _ _ hv h0 h1 h2 h3 =>
    cases hp : φ b with
    | unborn => exact absurd hp h1
    | nil => exact .inl ⟨rfl, h2 hp⟩
    | «at» c s' n =>
      right
      obtain ⟨x, hx, hr⟩ := I.blk _ _ _ _ hp
      rw [hb] at hx
      cases hx
      obtain ⟨hn, hss, hrow⟩ := hr
      subst hss
      obtain ⟨h0', hes, cs, t, fr, hh, hsz, hfr, hcr⟩ := hrow.toFlat
      obtain ⟨a, cap, t', z, e, hsh, hlc, ha, hz⟩ := (h3 c s n hp).2 (by omega)
      have hsh' := shape_at hh
      rw [hsh'] at hsh
      cases hsh
      have := ha (.inr rfl)
      subst this
      refine ⟨c, cap, cs, t, fr, by rw [← ht, ← hn], by rw [e]; simp, hlc, (hz rfl).2.1, (hz rfl).2.2, hh, h0', hes, hfr, hcr⟩

end

end Go.Abs

namespace Go.Abs
open Go.RowKit
set_option linter.unusedVariables false
set_option linter.unusedSimpArgs false

variable {P : Program}

theorem cell_in {w : World} {c k : Nat} {cs : Array Value} {t : TypeId} {fr : Nat × Nat} (h : w.heap[c]? = some (.cells cs t fr)) : w.cell? ⟨c, k, none⟩ = cs[k]? := by
  simp [World.cell?, h]

theorem len_three' {φ : Place} {W : Nat → Prop} {w : World} {xs : List V} {cxs : Array Value} (h : ArgsRel φ W w xs cxs) {x y z : V} (he : xs = [x, y, z]) : ∃ c d e, cxs = #[c, d, e] ∧ VRel φ W w x c ∧ VRel φ W w y d ∧ VRel φ W w z e := by
  subst he
  obtain ⟨h1, h2⟩ := h
  have hs : cxs.size = 3 := by simpa using h1.symm
  match cxs, hs with
  | ⟨[c, d, e]⟩, _ => exact ⟨c, d, e, rfl, h2 0 _ _ rfl rfl, h2 1 _ _ rfl rfl, h2 2 _ _ rfl rfl⟩

section
variable {base : Nat} {Z : Nat → Prop} {φ : Place} {H : Heap} {w : World}

end
end Go.Abs

namespace Go.Abs
open Go.RowKit
set_option linter.unusedVariables false
set_option linter.unusedSimpArgs false

variable {P : Program}

/-- math/bits.Mul, evaluated. -/
def mulX : List V → Option (V × Heap)
  | [.int .u64 a, .int .u64 b] => if 0 ≤ a ∧ a < 18446744073709551616 ∧ 0 ≤ b ∧ b < 18446744073709551616 then
      some (.tuple [.int .u64 ((a.toNat * b.toNat / 18446744073709551616 : Nat) : Int), .int .u64 ((a.toNat * b.toNat % 18446744073709551616 : Nat) : Int)], []) else none
  | _ => none

theorem mul_contract {f : FuncId} (h : ∀ (x y : Nat) (w : World), x < 18446744073709551616 → y < 18446744073709551616 →
      Calls P f #[.int .u64 x, .int .u64 y] w fun e w' => e = .returned (.tuple #[.int .u64 ((x * y / 18446744073709551616 : Nat) : Int), .int .u64 ((x * y % 18446744073709551616 : Nat) : Int)]) ∧ w' = w)
    (asx : List V) (r : V) (H' : Heap) (hx : mulX asx = some (r, H')) : Contract P f asx r H' := fun base Z w cargs I ha => by
  unfold mulX at hx
  split at hx
  case h_2 => cases hx
  rename_i a b
  split at hx
  case isFalse => cases hx
  rename_i hc
  cases hx
  obtain ⟨c1, c2, rfl, h1, h2⟩ := len_two ha rfl
  cases h1
  cases h2
  obtain ⟨m, rfl⟩ : ∃ m : Nat, a = m := ⟨a.toNat, by omega⟩
  obtain ⟨n, rfl⟩ : ∃ n : Nat, b = n := ⟨b.toNat, by omega⟩
  refine Calls.mono (h m n w (by omega) (by omega)) fun e w' ⟨he, hw⟩ => ⟨_, he, ?_⟩
  subst hw
  refine turns_below I (.refl _ _) ?_
  refine .tuple _ _ rfl fun i c v hc hv => ?_
  match i with
  | 0 => simp at hc hv; rw [← hc, ← hv]; exact .int _ _
  | 1 => simp at hc hv; rw [← hc, ← hv]; exact .int _ _
  | _ + 2 => simp at hc
end Go.Abs

namespace Go.Abs
open Go.RowKit
set_option linter.unusedVariables false
set_option linter.unusedSimpArgs false

/-- Words of one kind. -/
abbrev strs (S : List (List UInt8)) : List V := S.map V.str
abbrev ints (B : List Int) : List V := B.map (V.int .i64)

attribute [simp] slice3V fieldAddrV loadV mk live lenT lenV elems srcV binV intOp strOp unV convV ownify storeV builtinV isShift indexAddrV indexV sliceV loIdx hiIdx
  resultsV resV expo reach pack blocksOf nodup above refsH refsOf atHead headK zeroOk freeze appendV appendA srcA sliceElem bldE copyV clearV makeSliceV buildV buildSliceV setElems placesOf fillV lookupV mapUpdateV mapOf keyOk findK setK sameKey
@[simp low] theorem sub_unf (P : Program) (t : TypeId) (e : V) (off : Nat) : sub P t e off = match (P.info? t).map (·.size) with
    | none => none
    | some n => if off = 0 ∧ n = e.cells.length ∧ some e.isAgg = aggT P t then some e
      else if off + n ≤ e.cells.length then mk P t ((e.cells.drop off).take n) else none := rfl
@[simp low] theorem setSub_unf (e : V) (off : Nat) (x : V) : setSub e off x = match e with
    | .agg cs => if off = 0 ∧ x.isAgg = true ∧ x.cells.length = cs.length then some x
        else if off + x.cells.length ≤ cs.length then some (.agg (cs.take off ++ x.cells ++ cs.drop (off + x.cells.length))) else none
    | _ => if off = 0 ∧ x.isAgg = false then some x else none := rfl
attribute [simp] indexOf isIntT isStrT isBoolT

section
variable {H : Heap} {ρ : Nat → Option Nat}
@[simp] theorem want1_some {env : Env} {d : Nat} {want b : Bool} (h : env.get d = .bool b) : want1 env (some (some d, want)) = if b = want then .yes else .no := by simp [want1, h]
@[simp] theorem want1_tup {env : Env} {d : Nat} {want : Bool} (h : env.get d = .tuple []) : want1 env (some (some d, want)) = .no := by simp [want1, h]
@[simp] theorem want1_dead {env : Env} {want : Bool} : want1 env (some (none, want)) = .no := rfl

@[simp] theorem seal_bool (b : Bool) : sealV H (.bool b) = some (.bool b, []) := rfl
@[simp] theorem seal_int (k : IntKind) (n : Int) : sealV H (.int k n) = some (.int k n, []) := rfl
@[simp] theorem seal_str (s : List UInt8) : sealV H (.str s) = some (.str s, []) := rfl
@[simp] theorem seal_sl (es : List V) : sealV H (.sl es) = some (.sl es, []) := rfl
@[simp] theorem seal_nils : sealV H .nils = some (.sl [], []) := rfl
@[simp] theorem seal_nilm : sealV H .nilm = some (.mapr [] [], []) := rfl
@[simp] theorem seal_nilx (k : Nat) : sealV H (.nilx k) = some (.nilx k, []) := rfl
@[simp] theorem seal_mapr (a b : List V) : sealV H (.mapr a b) = some (.mapr a b, []) := rfl
@[simp] theorem seal_rop (e : V) : sealV H (.rop e) = none := rfl
@[simp] theorem seal_ptr (a b c d : Nat) : sealV H (.ptr a b c d) = none := rfl
@[simp] theorem seal_fn (f : Nat) (cs : List V) : sealV H (.fn f cs) = none := rfl
@[simp] theorem seal_meth (f : Nat) (cs : List V) : sealV H (.meth f cs) = none := rfl
@[simp] theorem seal_view (b t i o l : Nat) : sealV H (.view b t i o l) = none := rfl
@[simp] theorem seal_own (b tot off len : Nat) : sealV H (.own b tot off len) = match H[b]? with
    | some (.dat _ sz es) => if es.length = tot then some (.sl (if off = 0 ∧ len = tot then es else (es.drop off).take len), [b]) else none
    | _ => none := rfl
@[simp] theorem seal_map (b : Nat) : sealV H (.map b) = match H[b]? with
    | some (.map _ ks vs) => some (.mapr ks vs, [b])
    | _ => none := rfl
@[simp] theorem seal_agg (cs : List V) : sealV H (.agg cs) = match sealL H cs with
    | some (cs', bs) => some (.agg cs', bs)
    | none => none := rfl
@[simp] theorem seal_tuple (cs : List V) : sealV H (.tuple cs) = match sealL H cs with
    | some (cs', bs) => some (.tuple cs', bs)
    | none => none := rfl
@[simp] theorem sealL_nil : sealL H [] = some ([], []) := rfl
@[simp] theorem sealL_cons (c : V) (cs : List V) : sealL H (c :: cs) = match sealV H c, sealL H cs with
    | some (c', b), some (cs', bs) => some (c' :: cs', b ++ bs)
    | _, _ => none := rfl

@[simp] theorem hasRo_bool (b : Bool) : hasRo (.bool b) = false := rfl
@[simp] theorem hasRo_int (k : IntKind) (n : Int) : hasRo (.int k n) = false := rfl
@[simp] theorem hasRo_str (s : List UInt8) : hasRo (.str s) = false := rfl
@[simp] theorem hasRo_nils : hasRo .nils = false := rfl
@[simp] theorem hasRo_nilm : hasRo .nilm = false := rfl
@[simp] theorem hasRo_nilx (k : Nat) : hasRo (.nilx k) = false := rfl
@[simp] theorem hasRo_own (b t o l : Nat) : hasRo (.own b t o l) = false := rfl
@[simp] theorem hasRo_ptr (b t o l : Nat) : hasRo (.ptr b t o l) = false := rfl
@[simp] theorem hasRo_map (b : Nat) : hasRo (.map b) = false := rfl
@[simp] theorem hasRo_sl (es : List V) : hasRo (.sl es) = !es.isEmpty := rfl
@[simp] theorem hasRo_mapr (a b : List V) : hasRo (.mapr a b) = true := rfl
@[simp] theorem hasRo_rop (e : V) : hasRo (.rop e) = true := rfl
@[simp] theorem hasRo_agg (cs : List V) : hasRo (.agg cs) = hasRoL cs := rfl
@[simp] theorem hasRo_tuple (cs : List V) : hasRo (.tuple cs) = hasRoL cs := rfl
@[simp] theorem hasRo_fn (f : Nat) (cs : List V) : hasRo (.fn f cs) = hasRoL cs := rfl
@[simp] theorem hasRo_meth (f : Nat) (cs : List V) : hasRo (.meth f cs) = hasRoL cs := rfl
@[simp] theorem hasRo_view (b t i o l : Nat) : hasRo (.view b t i o l) = false := rfl
@[simp] theorem hasRoL_nil : hasRoL [] = false := rfl
@[simp] theorem hasRoL_cons (c : V) (cs : List V) : hasRoL (c :: cs) = (hasRo c || hasRoL cs) := rfl
theorem hasRoL_any (cs : List V) : hasRoL cs = cs.any hasRo := by
  induction cs with
  | nil => rfl
  | cons c cs ih => rw [hasRoL, ih]; rfl
@[simp] theorem hasRoL_append (a b : List V) : hasRoL (a ++ b) = (hasRoL a || hasRoL b) := by simp [hasRoL_any]
@[simp] theorem hasRoL_strs {α : Type} (f : α → List UInt8) (S : List α) : hasRoL (S.map fun x => V.str (f x)) = false := by simp [hasRoL_any]
@[simp] theorem hasRoL_strs' (S : List (List UInt8)) : hasRoL (S.map V.str) = false := hasRoL_strs id S
@[simp] theorem hasRoL_ints {α : Type} (k : IntKind) (f : α → Int) (S : List α) : hasRoL (S.map fun x => V.int k (f x)) = false := by simp [hasRoL_any]
@[simp] theorem hasRoL_ints' (k : IntKind) (S : List Int) : hasRoL (S.map (V.int k)) = false := hasRoL_ints k id S
@[simp] theorem hasRoL_rep (n : Nat) (v : V) (h : hasRo v = false) : hasRoL (List.replicate n v) = false := by
  rw [hasRoL_any, List.any_eq_false]
  intro x hx
  rw [(List.mem_replicate.1 hx).2, h]; simp
@[simp] theorem hasRoL_u8s (s : List UInt8) : hasRoL (u8s s) = false := by simp [hasRoL_any, u8s]
@[simp] theorem hasRoB_dat (w : Bool) (s : Nat) (es : List V) : hasRoB (.dat w s es) = hasRoL es := rfl
@[simp] theorem hasRoB_arr (t : Option TypeId) (s : Nat) (es : List V) : hasRoB (.arr t s es) = hasRoL es := rfl
@[simp] theorem hasRoB_dead : hasRoB .dead = false := rfl
@[simp] theorem hasRoB_box (e : V) : hasRoB (.box e) = hasRo e := rfl
@[simp] theorem hasRoB_map (w : Bool) (a b : List V) : hasRoB (.map w a b) = (hasRoL a || hasRoL b) := rfl

@[simp] theorem refs_own (b t o l : Nat) : refs (.own b t o l) = [b] := rfl
@[simp] theorem refs_ptr (b t o l : Nat) : refs (.ptr b t o l) = [b] := rfl
@[simp] theorem refs_map (b : Nat) : refs (.map b) = [b] := rfl
@[simp] theorem refs_agg (cs : List V) : refs (.agg cs) = refsL cs := rfl
@[simp] theorem refs_tuple (cs : List V) : refs (.tuple cs) = refsL cs := rfl
@[simp] theorem refs_fn (f : Nat) (cs : List V) : refs (.fn f cs) = refsL cs := rfl
@[simp] theorem refs_meth (f : Nat) (cs : List V) : refs (.meth f cs) = refsL cs := rfl
@[simp] theorem refs_view (b t i o l : Nat) : refs (.view b t i o l) = [b] := rfl
@[simp] theorem refs_bool (b : Bool) : refs (.bool b) = [] := rfl
@[simp] theorem refs_int (k : IntKind) (n : Int) : refs (.int k n) = [] := rfl
@[simp] theorem refs_str (s : List UInt8) : refs (.str s) = [] := rfl
@[simp] theorem refs_nils : refs .nils = [] := rfl
@[simp] theorem refs_nilm : refs .nilm = [] := rfl
@[simp] theorem refs_nilx (k : Nat) : refs (.nilx k) = [] := rfl
@[simp] theorem refs_undef : refs .undef = [] := rfl
@[simp] theorem refs_sl (es : List V) : refs (.sl es) = [] := rfl
@[simp] theorem refs_mapr (a b : List V) : refs (.mapr a b) = [] := rfl
@[simp] theorem refs_rop (e : V) : refs (.rop e) = [] := rfl
@[simp] theorem refsL_nil : refsL [] = [] := rfl
@[simp] theorem refsL_cons (c : V) (cs : List V) : refsL (c :: cs) = refs c ++ refsL cs := rfl

@[simp] theorem ren_own (b t o l : Nat) : ren ρ (.own b t o l) = match ρ b with | some b' => .own b' t o l | none => .undef := rfl
@[simp] theorem ren_ptr (b t i o : Nat) : ren ρ (.ptr b t i o) = match ρ b with | some b' => .ptr b' t i o | none => .undef := rfl
@[simp] theorem ren_map (b : Nat) : ren ρ (.map b) = match ρ b with | some b' => .map b' | none => .undef := rfl
@[simp] theorem ren_agg' (cs : List V) : ren ρ (.agg cs) = .agg (renL ρ cs) := rfl
@[simp] theorem ren_tuple (cs : List V) : ren ρ (.tuple cs) = .tuple (renL ρ cs) := rfl
@[simp] theorem ren_fn (f : Nat) (cs : List V) : ren ρ (.fn f cs) = .fn f (renL ρ cs) := rfl
@[simp] theorem ren_meth (f : Nat) (cs : List V) : ren ρ (.meth f cs) = .meth f (renL ρ cs) := rfl
@[simp] theorem ren_view (b t i o l : Nat) : ren ρ (.view b t i o l) = match ρ b with | some b' => .view b' t i o l | none => .undef := rfl
@[simp] theorem ren_bool (b : Bool) : ren ρ (.bool b) = .bool b := rfl
@[simp] theorem ren_int (k : IntKind) (n : Int) : ren ρ (.int k n) = .int k n := rfl
@[simp] theorem ren_str (s : List UInt8) : ren ρ (.str s) = .str s := rfl
@[simp] theorem ren_nils : ren ρ .nils = .nils := rfl
@[simp] theorem ren_nilm : ren ρ .nilm = .nilm := rfl
@[simp] theorem ren_nilx (k : Nat) : ren ρ (.nilx k) = .nilx k := rfl
@[simp] theorem ren_undef : ren ρ .undef = .undef := rfl
@[simp] theorem ren_sl (es : List V) : ren ρ (.sl es) = .sl es := rfl
@[simp] theorem ren_mapr (a b : List V) : ren ρ (.mapr a b) = .mapr a b := rfl
@[simp] theorem ren_rop (e : V) : ren ρ (.rop e) = .rop (ren ρ e) := rfl
@[simp] theorem renL_nil : renL ρ [] = [] := rfl
@[simp] theorem renL_cons (c : V) (cs : List V) : renL ρ (c :: cs) = ren ρ c :: renL ρ cs := rfl
@[simp] theorem renB_arr (t : Option TypeId) (s : Nat) (es : List V) : renB ρ (.arr t s es) = .arr t s (renL ρ es) := rfl
@[simp] theorem renB_dead : renB ρ .dead = .dead := rfl
@[simp] theorem renB_box (e : V) : renB ρ (.box e) = .box (ren ρ e) := rfl
@[simp] theorem renB_dat (w : Bool) (s : Nat) (es : List V) : renB ρ (.dat w s es) = .dat w s es := rfl
@[simp] theorem renB_map (w : Bool) (a b : List V) : renB ρ (.map w a b) = .map w a b := rfl
@[simp] theorem shift_eq (n b : Nat) : shift n b = some (b + n) := rfl
@[simp] theorem toK_eq (h0 : Nat) (K : List Nat) (b : Nat) : toK h0 K b = if b < h0 then some b else indexOf b K h0 := rfl

@[simp] theorem idx_int (k : IntKind) (n : Int) : idx? (.int k n) = if 0 ≤ n then some n.toNat else none := by
  cases n with
  | ofNat n => simp [idx?]
  | negSucc n => simp [idx?]
theorem wrap_id {x : Int} (h : -9223372036854775808 ≤ x) (h' : x ≤ 9223372036854775807) : IntKind.i64.wrap x = x := by rw [IntKind.wrap_i64]; omega
end

@[simp] theorem ofU8s_rep (n : Nat) : ofU8s (List.replicate n (.int .u8 0)) = some (List.replicate n 0) := by
  induction n with
  | zero => rfl
  | succ n ih => simp [List.replicate_succ, ofU8s, ih]
@[simp] theorem ofU8s_u8 (s : List UInt8) : ofU8s (u8s s) = some s := by
  induction s with
  | nil => rfl
  | cons b s ih => simp only [u8s, List.map_cons, ofU8s] at ih ⊢; rw [ih]; simp

/-- A call of a function of the table. -/
theorem callW_body {C : Ctx} {d : Bool} {f : FuncId} {xs : List V} {H : Heap} (h1 : C.extE f = none) (h2 : C.ext f = none) (h3 : C.direct f = false) : callW C d (.fn f []) xs H = match sealL H xs with
    | some (ys, bs) => match bodyW C f ys [] with
      | some (r, H') => some (ren (shift H.length) r, (if hasRo r || H'.any hasRoB then freeze H bs else H) ++ H'.map (renB (shift H.length)))
      | none => none
    | none => if d then none else bodyW C f xs H := by
  rw [callW_def, h1, h2]
  simp only [ite_self, List.append_nil, sealD, h3, Bool.and_false, Bool.false_eq_true, if_false]
  rfl

theorem callW_ext {C : Ctx} {d : Bool} {f : FuncId} {xs : List V} {H : Heap} {g : List V → Option (V × Heap)} (h1 : C.extE f = none) (h2 : C.ext f = some g) (h3 : C.direct f = false) : callW C d (.fn f []) xs H = match sealL H xs with
    | some (ys, bs) => match g ys with
      | some (r, H') => some (ren (shift H.length) r, (if hasRo r || H'.any hasRoB then freeze H bs else H) ++ H'.map (renB (shift H.length)))
      | none => none
    | none => if d then none else bodyW C f xs H := by
  rw [callW_def, h1, h2]
  simp only [ite_self, List.append_nil, sealD, h3, Bool.and_false, Bool.false_eq_true, if_false]
  rfl

theorem callW_direct {C : Ctx} {f : FuncId} {xs : List V} {H : Heap} (h1 : C.extE f = none) (h3 : C.direct f = true) : callW C false (.fn f []) xs H = bodyW C f xs H := by
  rw [callW_def, h1]
  simp [sealD, h3]

/-- A loop whose state is told by s. -/
theorem go_while {C : Ctx} {f : FuncId} {h0 key : Nat} {b : SC} {env : Env} {H : Heap} {Q : X → Env → Heap → Prop} {σ : Type} (e : σ → Env) (h : σ → Heap) (I : σ → Prop) (μ : σ → Nat) (s0 : σ) (hh : headK C f h0 key env H = some (e s0, h s0)) (hI : I s0)
    (round : ∀ s, I s → Go1 C f h0 b (e s) (h s) (Next (fun e' h' => ∃ s', headK C f h0 key e' h' = some (e s', h s') ∧ μ s' < μ s ∧ I s') Q)) : Go1 C f h0 (.loop key b) env H Q := by
  refine go_loop (n := μ s0) (fun n e' h' => ∃ s, e' = e s ∧ h' = h s ∧ n = μ s ∧ I s) hh ⟨s0, rfl, rfl, rfl, hI⟩ fun n e' h' ⟨s, h1, h2, h3, h4⟩ => ?_
  subst h1 h2 h3
  intro c hc hnf
  refine (round s h4 c hc hnf).mono fun x e1 h1 hx => ?_
  cases x with
  | normal =>
    obtain ⟨s', p1, p2, p3⟩ := hx
    exact ⟨_, _, _, p1, p2, s', rfl, rfl, rfl, p3⟩
  | exit i => exact hx
  | ret => exact hx

/-- A loop that counts. -/
theorem go_count {C : Ctx} {f : FuncId} {h0 key : Nat} {b : SC} {env : Env} {H : Heap} {Q : X → Env → Heap → Prop} (N : Nat) (e : Nat → Env) (h : Nat → Heap) (I : Nat → Prop) (hh : headK C f h0 key env H = some (e 0, h 0)) (hI : I 0)
    (round : ∀ i, i ≤ N → I i → Go1 C f h0 b (e i) (h i) (Next (fun e' h' => i < N ∧ headK C f h0 key e' h' = some (e (i + 1), h (i + 1)) ∧ I (i + 1)) Q)) : Go1 C f h0 (.loop key b) env H Q := by
  refine go_while e h (fun i => i ≤ N ∧ I i) (fun i => N - i) 0 hh ⟨Nat.zero_le _, hI⟩ fun i hi c hc hnf => ?_
  refine (round i hi.1 hi.2 c hc hnf).mono fun x e1 h1 hx => ?_
  cases x with
  | normal => exact ⟨i + 1, hx.2.1, by show N - (i + 1) < N - i; have := hx.1; omega, hx.1, hx.2.2⟩
  | exit i => exact hx
  | ret => exact hx

section
variable {C : Ctx} {f : FuncId} {h0 : Nat} {env : Env} {H : Heap} {Q : X → Env → Heap → Prop} {N : Env → Heap → Prop} {i j : Nat}
theorem next_normal (h : N env H) : Next N Q .normal env H := h
theorem next_exit (h : Q (.exit i) env H) : Next N Q (.exit i) env H := h
theorem next_ret (h : Q .ret env H) : Next N Q .ret env H := h
theorem inb_normal (h : Q .normal env H) : InBlock i Q .normal env H := h
theorem inb_ret (h : Q .ret env H) : InBlock i Q .ret env H := h
theorem inb_here (h : Q .normal env H) : InBlock i Q (.exit i) env H := by show Q (if i = i then .normal else .exit i) env H; rw [if_pos rfl]; exact h
theorem inb_past (hn : j ≠ i) (h : Q (.exit j) env H) : InBlock i Q (.exit j) env H := by show Q (if j = i then .normal else .exit j) env H; rw [if_neg hn]; exact h
theorem go_yes {c : Operand} {a b : SC} (hc : evO env c = .bool true) (h : Go1 C f h0 a env H Q) : Go1 C f h0 (.cond c a b) env H Q := go_cond true hc (fun _ => h) (fun h => by cases h)
theorem go_no {c : Operand} {a b : SC} (hc : evO env c = .bool false) (h : Go1 C f h0 b env H Q) : Go1 C f h0 (.cond c a b) env H Q := go_cond false hc (fun h => by cases h) (fun _ => h)
theorem ends_ok {rs : List ResultVar} {R : V → Heap → Prop} {vs : List V} {r : V} {H' : Heap} (h1 : Is (resultsV C.P env H rs) vs) (h2 : Is (expo h0 (resV vs) H) (r, H')) (h3 : R r H') : Ends C rs h0 R .ret env H := ⟨vs, r, H', h1, h2, h3⟩
end

theorem gives_iff {C : Ctx} {f : FuncId} {args : List V} {H H' : Heap} {r : V} (h : Body.Gives C f args H fun r' h' => r' = r ∧ h' = H') : bodyW C f args H = some (r, H') := by
  obtain ⟨r', h', h1, rfl, rfl⟩ := h
  exact h1

section
variable {C : Ctx} {env : Env} {H : Heap} {N : Env → Heap → Prop} {d : Bool} {fl : List Nat} {past : List Heap} {obl : List Ob} {dst : Option Nat} {op : Op} {t : Nat} {g : Option (Option Nat × Bool)} {r : List Sop} {v : V} {H' : Heap}
end
@[simp] theorem allAt_nil {C : Ctx} {d : Bool} {H : Heap} : allAt C d [] H := fun _ h => by cases h
@[simp] theorem allAt_cons {C : Ctx} {d : Bool} {H : Heap} (o : Ob) (r : List Ob) : allAt C d (o :: r) H ↔ okAt C d o.e o.op o.t o.v H ∧ allAt C d r H := by simp [allAt]
@[simp] theorem okAt_iff {C : Ctx} {d : Bool} {e : Env} {op : Op} {t : Nat} {v : V} {H : Heap} : okAt C d e op t v H ↔ ∃ v' H', ev1 C.P (pickC C.loud d (callW C) op) e H op t = some (v', H') ∧ beqV v' v = true := Iff.rfl
@[simp] theorem beqV_int (k : IntKind) (n : Int) : beqV (.int k n) (.int k n) = true := by simp [beqV]
@[simp] theorem beqV_bool (b : Bool) : beqV (.bool b) (.bool b) = true := by simp [beqV]
@[simp] theorem beqV_str (s : List UInt8) : beqV (.str s) (.str s) = true := by simp [beqV]
@[simp] theorem beqV_ptr (a b c d : Nat) : beqV (.ptr a b c d) (.ptr a b c d) = true := by simp [beqV]
@[simp] theorem beqV_own (a b c d : Nat) : beqV (.own a b c d) (.own a b c d) = true := by simp [beqV]
@[simp] theorem beqL_map {α : Type} (f : α → V) (hf : ∀ a, beqV (f a) (f a) = true) : ∀ (l : List α), beqL (l.map f) (l.map f) = true
  | [] => rfl
  | a :: l => by simp [beqL, hf a, beqL_map f hf l]
@[simp] theorem beqV_ints (l : List Int) : beqV (.sl (ints l)) (.sl (ints l)) = true := by simp [beqV]
@[simp] theorem beqV_ints' (k : IntKind) (l : List Int) : beqV (.sl (l.map (V.int k))) (.sl (l.map (V.int k))) = true := by simp [beqV]
@[simp] theorem beqV_strs' (l : List (List UInt8)) : beqV (.sl (l.map V.str)) (.sl (l.map V.str)) = true := by simp [beqV]

end Go.Abs

namespace Go.Abs
open Go.RowKit
set_option linter.unusedVariables false
set_option linter.unusedSimpArgs false

def dstAt : List Oper → Nat → Option Nat
  | [], _ => none
  | o :: _, 0 => o.dst
  | _ :: r, n + 1 => dstAt r n

def guardL (ops : List Oper) : Option (Nat × Bool) → Option (Option Nat × Bool)
  | none => none
  | some (j, w) => some (dstAt ops j, w)

def sopsL (ops : List Oper) : List Oper → List Sop
  | [] => []
  | o :: r => ⟨o.dst, o.op, o.type, guardL ops o.guard⟩ :: sopsL ops r

def scL : Code → SC
  | .skip => .skip
  | .ret => .ret
  | .exit id => .exit id
  | .region _ ⟨ops⟩ draw => .region draw (sopsL ops ops)
  | .seq a b => .seq (scL a) (scL b)
  | .cond c a b => .cond c (scL a) (scL b)
  | .block id b => .block id (scL b)
  | .loop b => .loop (loopKey b) (scL b)
  | _ => .bad

theorem dstAt_eq : ∀ (ops : List Oper) (j : Nat), dstAt ops j = (ops[j]?).bind (·.dst)
  | [], _ => rfl
  | _ :: _, 0 => rfl
  | _ :: r, n + 1 => by rw [dstAt, dstAt_eq r n]; simp

theorem sopsL_eq (ops : List Oper) : ∀ (l : List Oper), sopsL ops l = l.map (sopOf ⟨ops⟩)
  | [] => rfl
  | o :: r => by
    rw [sopsL, sopsL_eq ops r, List.map_cons]
    congr 1
    unfold sopOf
    congr 1
    cases o.guard with
    | none => rfl
    | some g => simp [guardL, dstAt_eq]

theorem scL_eq {fr : Nat → List Nat} (hnf : ∀ id, fr id = []) : ∀ c, scOfF fr c = scL c
  | .skip => rfl
  | .ret => rfl
  | .exit id => rfl
  | .region id ⟨ops⟩ draw => by simp [scOfF, hnf id, scL, sopsL_eq]
  | .seq a b => by rw [scOfF, scL, scL_eq hnf a, scL_eq hnf b]
  | .cond c a b => by rw [scOfF, scL, scL_eq hnf a, scL_eq hnf b]
  | .block id b => by rw [scOfF, scL, scL_eq hnf b]
  | .loop b => by rw [scOfF, scL, scL_eq hnf b]
  | .scope _ => rfl
  | .rangeFunc _ _ _ _ => rfl
  | .label _ => rfl
  | .goto _ => rfl
  | .refuse _ => rfl

/-- A function's code, in short. -/
def codeL (F : Func) : SC := match F.body with
  | some c => scL c
  | none => .bad

theorem go_func {C : Ctx} {f : FuncId} {args : List V} {H : Heap} {R : V → Heap → Prop} (F : Func) (hb : C.body f = bodyOf F) (hs : F.body.isSome = true) (hl : args.length ≤ F.ntmps)
    (h : Go1 C f H.length (codeL F) (argEnv args 0) H (Ends C F.results.toList H.length R)) (hnf : ∀ id, C.free f id = [] := by intro id; rfl) : Body.Gives C f args H R := by
  cases hF : F.body with
  | none => rw [hF] at hs; cases hs
  | some c =>
    unfold bodyOf at hb
    rw [hF] at hb
    unfold codeL at h
    rw [hF] at h
    exact go_body hb (scL_eq hnf c) hl h

section
variable {P : Program} {call : CallV} {env : Env} {H : Heap} {ty : Nat}
@[simp] theorem ev1_alloc (t : Nat) : ev1 P call env H (.alloc t) ty = match zeroV P t with
    | some z => match z with
      | .agg cs => if cs.isEmpty then none else match bldE P t cs with
        | some e => some (.ptr (H.length + 1) 1 0 0, H ++ [.arr (some e) 1 [], .arr (some t) 2 [.agg [.nilx 0, .own H.length 0 0 0]]])
        | none => some (.ptr (ownifyL (slotSizes P t) cs H).2.length 1 0 0, (ownifyL (slotSizes P t) cs H).2 ++ [.box (.agg (ownifyL (slotSizes P t) cs H).1)])
      | z => if z.storable then some (.ptr (ownify (slotSize P t) z H).2.length 1 0 0, (ownify (slotSize P t) z H).2 ++ [.box (ownify (slotSize P t) z H).1]) else none
    | none => none := rfl
@[simp] theorem ev1_sap (t : Nat) (x : Operand) : ev1 P call env H (.sliceToArrayPointer t x) ty = (arrAtV P t (evO env x) H).map fun v => (v, H) := rfl
@[simp] theorem ev1_makeMeth (f : Nat) (x : Operand) (xs : List Operand) : ev1 P call env H (.makeFunc (.func f) ⟨x :: xs⟩ ⟨[]⟩) ty = some (.meth f ((x :: xs).map (evO env)), H) := rfl
@[simp] theorem ev1_makeFunc (f : Nat) (caps : List Operand) : ev1 P call env H (.makeFunc (.func f) ⟨[]⟩ ⟨caps⟩) ty = some (.fn f (caps.map (evO env)), H) := rfl
@[simp] theorem ownifyL_nil (ss : List Nat) : ownifyL ss [] H = ([], H) := by cases ss <;> rfl
@[simp] theorem ownifyL_cons (s : Nat) (ss : List Nat) (c : V) (cs : List V) : ownifyL (s :: ss) (c :: cs) H = ((ownify s c H).1 :: (ownifyL ss cs (ownify s c H).2).1, (ownifyL ss cs (ownify s c H).2).2) := rfl
@[simp] theorem ownifyL_none (cs : List V) : ownifyL [] cs H = (cs, H) := by cases cs <;> rfl
end

@[simp] theorem hasRoL_rep_bool (n : Nat) (b : Bool) : hasRoL (List.replicate n (V.bool b)) = false := hasRoL_rep _ _ rfl
@[simp] theorem hasRoL_rep_int (n : Nat) (k : IntKind) (b : Int) : hasRoL (List.replicate n (V.int k b)) = false := hasRoL_rep _ _ rfl
@[simp] theorem hasRoL_rep_str (n : Nat) (b : List UInt8) : hasRoL (List.replicate n (V.str b)) = false := hasRoL_rep _ _ rfl

end Go.Abs

namespace Go.Abs
open Go.RowKit
set_option linter.unusedVariables false
set_option linter.unusedSimpArgs false

variable {P : Program}

theorem pureRun_bind {α β : Type} (s : Sem α) (f : α → Sem β) : pureRun P (s >>= f) = (pureRun P s).bind fun a => pureRun P (f a) := by
  show pureRun P (Sem.bind s f) = _
  cases s with
  | program k =>
    simp only [Sem.bind, pureRun]
    exact pureRun_bind (k P) f
  | _ => rfl
@[simp] theorem pureRun_pure {α : Type} (a : α) : pureRun P (pure a : Sem α) = some a := rfl

/-- One round of a loop. -/
theorem go_unroll {C : Ctx} {f : FuncId} {h0 key : Nat} {b : SC} {env e0 : Env} {H H0 : Heap} {Q : X → Env → Heap → Prop} (hh : Is (headK C f h0 key env H) (e0, H0)) (h : Go1 C f h0 b e0 H0 (Next (fun e' h' => Go1 C f h0 (.loop key b) e' h' Q) Q)) : Go1 C f h0 (.loop key b) env H Q := fun c hc hnf => by
  cases c
  case region => rcases scOfF_region_ne hc with ⟨_, _, h⟩ | ⟨_, _, _, h⟩ <;> cases h
  all_goals (simp only [scOfF] at hc)
  all_goals try (cases hc; done)
  rename_i c1
  cases hc
  obtain ⟨x, e1, h1, p1, p2⟩ := h c1 rfl hnf
  have hE : headE C f h0 c1 env H = some (e0, H0) := hh
  cases x with
  | normal =>
    obtain ⟨x', e', h', q1, q2⟩ := p2 (.loop c1) rfl hnf
    exact ⟨x', e', h', by rw [codeW_loop, hE]; simp only [loopW, p1]; exact q1, q2⟩
  | exit i => exact ⟨_, _, _, by rw [codeW_loop, hE]; simp only [loopW, p1], p2⟩
  | ret => exact ⟨_, _, _, by rw [codeW_loop, hE]; simp only [loopW, p1], p2⟩

end Go.Abs

namespace Go.Abs
open Go.RowKit
set_option linter.unusedVariables false
set_option linter.unusedSimpArgs false

section
variable {P : Program}

def andO (a b : Option Bool) : Option Bool := match a with
  | some true => b
  | some false => some false
  | none => none
@[simp] theorem andO_some (a b : Bool) : andO (some a) (some b) = some (a && b) := by cases a <;> rfl

def eqFs (g : Field → Option Bool) : List Field → Option Bool
  | [] => some true
  | f :: r => if f.name = "_" then eqFs g r else andO (g f) (eqFs g r)

def eqNs (g : Nat → Option Bool) : List Nat → Option Bool
  | [] => some true
  | i :: r => andO (g i) (eqNs g r)

def sizeL (P : Program) (t : TypeId) : Nat := ((P.info? t).map (·.size)).getD 0

def okT (P : Program) (t : TypeId) : Bool := (P.info? t).isSome && match aggT P t with
  | some true => true
  | some false => sizeL P t == 1
  | none => false

/-- '==' of two values by their cells. -/
def eqL (P : Program) : Nat → TypeId → List V → List V → Option Bool
  | 0, _, _, _ => none
  | d + 1, t, xs, ys => match P.underlying t with
    | some .bool => match xs, ys with
      | [.bool a], [.bool b] => some (a == b)
      | _, _ => none
    | some (.int _) => match xs, ys with
      | [.int k a], [.int k' b] => if k = k' then some (a == b) else none
      | _, _ => none
    | some .string => match xs, ys with
      | [.str a], [.str b] => some (a == b)
      | _, _ => none
    | some (.struct fs) => if P.stoodInHeld t then none else eqFs (fun f => if okT P f.type = true ∧ f.offset + sizeL P f.type ≤ xs.length ∧ xs.length = ys.length then eqL P d f.type ((xs.drop f.offset).take (sizeL P f.type)) ((ys.drop f.offset).take (sizeL P f.type)) else none) fs.toList
    | some (.array n e) => if okT P e = true then eqNs (fun i => if i * sizeL P e + sizeL P e ≤ xs.length ∧ xs.length = ys.length then eqL P d e ((xs.drop (i * sizeL P e)).take (sizeL P e)) ((ys.drop (i * sizeL P e)).take (sizeL P e)) else none) (List.range n) else none
    | _ => none

theorem pr_map {α β : Type} (f : α → β) (s : Sem α) : pureRun P (f <$> s) = (pureRun P s).map f := by
  show pureRun P (s >>= fun a => pure (f a)) = _
  rw [pureRun_bind]
  cases pureRun P s <;> rfl
theorem pr_underlying {t : TypeId} {d : TypeDesc} (h : P.underlying t = some d) : pureRun P (Go.underlying t) = some d := by
  simp [Go.underlying, program, pureRun_bind, pureRun, h]
theorem pr_info {t : TypeId} {z : TypeInfo} (h : P.info? t = some z) : pureRun P (typeInfo t) = some z := by
  simp [typeInfo, program, pureRun_bind, pureRun, h]
theorem pr_size {t : TypeId} {z : TypeInfo} (h : P.info? t = some z) : pureRun P (sizeOf t) = some z.size := by
  simp [sizeOf, pureRun_bind, pr_map, pr_info h]
theorem pr_isAgg {t : TypeId} {b : Bool} (h : aggT P t = some b) : pureRun P (isAgg t) = some b := by
  unfold aggT at h
  cases hu : P.underlying t with
  | none => rw [hu] at h; cases h
  | some d =>
    rw [hu] at h
    unfold isAgg
    rw [pureRun_bind, pr_underlying hu]
    cases d <;> simp_all

/-- A value of type t and its cells. -/
def CellsAs (P : Program) (t : TypeId) (xs : List V) (x : Value) : Prop := ∃ cx, toVals xs = some cx ∧ match aggT P t with
  | some true => x = .agg cx.toArray
  | some false => cx = [x]
  | none => False

theorem toVals_append : ∀ (xs ys : List V), toVals (xs ++ ys) = (toVals xs).bind fun a => (toVals ys).map fun b => a ++ b
  | [], ys => by simp [toVals]
  | x :: xs, ys => by
    simp only [List.cons_append, toVals, toVals_append xs ys]
    cases toVal x <;> cases toVals xs <;> cases toVals ys <;> simp

theorem toVals_part {xs : List V} {cx : List Value} (h : toVals xs = some cx) (o n : Nat) : toVals ((xs.drop o).take n) = some ((cx.drop o).take n) := by
  have e : xs = xs.take o ++ ((xs.drop o).take n ++ (xs.drop o).drop n) := by rw [List.take_append_drop, List.take_append_drop]
  rw [e, toVals_append, toVals_append] at h
  have len : ∀ (ys : List V) (cy : List Value), toVals ys = some cy → cy.length = ys.length := by
    intro ys
    induction ys with
    | nil => intro cy h; simp [toVals] at h; subst h; rfl
    | cons y ys ih =>
      intro cy h
      simp only [toVals] at h
      cases h1 : toVal y with
      | none => rw [h1] at h; cases h
      | some v =>
        cases h2 : toVals ys with
        | none => rw [h1, h2] at h; cases h
        | some vs => rw [h1, h2] at h; cases h; simp [ih _ h2]
  cases h1 : toVals (xs.take o) with
  | none => rw [h1] at h; cases h
  | some a =>
    cases h2 : toVals ((xs.drop o).take n) with
    | none => rw [h1, h2] at h; cases h
    | some b =>
      cases h3 : toVals ((xs.drop o).drop n) with
      | none => rw [h1, h2, h3] at h; cases h
      | some c =>
        rw [h1, h2, h3] at h
        simp only [Option.bind_some, Option.map_some, Option.some.injEq] at h
        have la := len _ _ h1
        have lb := len _ _ h2
        rw [List.length_take] at la lb
        rw [List.length_drop] at lb
        subst h
        congr 1
        by_cases ho : o ≤ xs.length
        · have la' : a.length = o := by omega
          rw [List.drop_left' la']
          by_cases hn : n ≤ xs.length - o
          · rw [List.take_left' (by omega)]
          · have : c = [] := by
              have lc := len _ _ h3
              rw [List.length_drop, List.length_drop] at lc
              exact List.eq_nil_of_length_eq_zero (by omega)
            subst this
            rw [List.append_nil, List.take_of_length_le (by omega)]
        · have hb : b = [] := List.eq_nil_of_length_eq_zero (by omega)
          have hc : c = [] := by
            have lc := len _ _ h3
            rw [List.length_drop, List.length_drop] at lc
            exact List.eq_nil_of_length_eq_zero (by omega)
          subst hb hc
          rw [List.append_nil, List.append_nil, List.drop_eq_nil_of_le (by omega), List.take_nil]

theorem pr_part {t : TypeId} {z : TypeInfo} {b : Bool} {xs : List V} {cx : List Value} (hz : P.info? t = some z) (hb : aggT P t = some b) (h : toVals xs = some cx) {o : Nat} (hl : o + z.size ≤ cx.length) (h1 : b = false → z.size = 1) :
    ∃ x, pureRun P (part t cx.toArray o) = some x ∧ CellsAs P t ((xs.drop o).take z.size) x := by
  unfold part
  rw [pureRun_bind, pr_isAgg hb]
  cases b with
  | true =>
    refine ⟨.agg ((cx.drop o).take z.size).toArray, ?_, _, toVals_part h o z.size, ?_⟩
    · simp [pureRun_bind, pr_map, pr_size hz, List.extract_toArray, List.extract_eq_take_drop]
    · rw [hb]
  | false =>
    have hs := h1 rfl
    have hlt : o < cx.length := by omega
    refine ⟨cx[o], ?_, _, toVals_part h o z.size, ?_⟩
    · simp [hlt]
    · rw [hb, hs]
      simp only
      rw [List.drop_eq_getElem_cons hlt]
      rfl

theorem toVals_length : ∀ {ys : List V} {cy : List Value}, toVals ys = some cy → cy.length = ys.length
  | [], cy, h => by simp [toVals] at h; subst h; rfl
  | y :: ys, cy, h => by
    simp only [toVals] at h
    cases h1 : toVal y with
    | none => rw [h1] at h; cases h
    | some v =>
      cases h2 : toVals ys with
      | none => rw [h1, h2] at h; cases h
      | some vs => rw [h1, h2] at h; cases h; simp [toVals_length h2]

theorem eq_part {d : Nat} {t : TypeId} (ih : ∀ t xs ys r, eqL P d t xs ys = some r → ∀ x y, CellsAs P t xs x → CellsAs P t ys y → pureRun P (Op.equalIn d t x y) = some r)
    (hk : okT P t = true) {xs ys : List V} {cx cy : List Value} (hx : toVals xs = some cx) (hy : toVals ys = some cy) {o : Nat} (hl : o + sizeL P t ≤ xs.length) (he : xs.length = ys.length) {r : Bool}
    (h : eqL P d t ((xs.drop o).take (sizeL P t)) ((ys.drop o).take (sizeL P t)) = some r) :
    ∃ a b, pureRun P (part t cx.toArray o) = some a ∧ pureRun P (part t cy.toArray o) = some b ∧ pureRun P (Op.equalIn d t a b) = some r := by
  unfold okT at hk
  rw [Bool.and_eq_true] at hk
  obtain ⟨z, hz⟩ := Option.isSome_iff_exists.1 hk.1
  have hsz : sizeL P t = z.size := by simp [sizeL, hz]
  obtain ⟨b, hb, h1⟩ : ∃ b, aggT P t = some b ∧ (b = false → z.size = 1) := by
    cases hb : aggT P t with
    | none => rw [hb] at hk; exact absurd hk.2 (by simp)
    | some b =>
      refine ⟨b, rfl, fun hbf => ?_⟩
      subst hbf
      rw [hb] at hk
      simpa [hsz] using hk.2
  rw [hsz] at h hl
  have lx := toVals_length hx
  have ly := toVals_length hy
  obtain ⟨a, p1, p2⟩ := pr_part hz hb hx (o := o) (by omega) h1
  obtain ⟨c, q1, q2⟩ := pr_part hz hb hy (o := o) (by omega) h1
  exact ⟨a, c, p1, q1, ih _ _ _ _ h _ _ p2 q2⟩

def loopR (r : Bool) : Option Bool × Unit := if r then (none, ()) else (some false, ())

theorem fs_loop {g : Field → Option Bool} {body : Field → Option Bool × Unit → Sem (ForInStep (Option Bool × Unit))} (hskip : ∀ f, f.name = "_" → pureRun P (body f (none, ())) = some (.yield (none, ())))
    (hbody : ∀ f r, f.name ≠ "_" → g f = some r → pureRun P (body f (none, ())) = some (if r then .yield (none, ()) else .done (some false, ()))) :
    ∀ (l : List Field) (r : Bool), eqFs g l = some r → pureRun P (forIn l (none, ()) body) = some (loopR r)
  | [], r, h => by simp [eqFs] at h; subst h; rfl
  | f :: l, r, h => by
    rw [List.forIn_cons, pureRun_bind]
    simp only [eqFs] at h
    by_cases hn : f.name = "_"
    · rw [if_pos hn] at h
      rw [hskip f hn]
      exact fs_loop hskip hbody l r h
    · rw [if_neg hn] at h
      unfold andO at h
      cases hg : g f with
      | none => rw [hg] at h; cases h
      | some b =>
        rw [hg] at h
        rw [hbody f b hn hg]
        cases b with
        | true => exact fs_loop hskip hbody l r h
        | false => cases h; rfl

theorem ns_loop {g : Nat → Option Bool} {body : Nat → Option Bool × Unit → Sem (ForInStep (Option Bool × Unit))}
    (hbody : ∀ f r, g f = some r → pureRun P (body f (none, ())) = some (if r then .yield (none, ()) else .done (some false, ()))) :
    ∀ (l : List Nat) (r : Bool), eqNs g l = some r → pureRun P (forIn l (none, ()) body) = some (loopR r)
  | [], r, h => by simp [eqNs] at h; subst h; rfl
  | f :: l, r, h => by
    rw [List.forIn_cons, pureRun_bind]
    simp only [eqNs] at h
    unfold andO at h
    cases hg : g f with
    | none => rw [hg] at h; cases h
    | some b =>
      rw [hg] at h
      rw [hbody f b hg]
      cases b with
      | true => exact ns_loop hbody l r h
      | false => cases h; rfl

theorem one_cell {t : TypeId} {x : V} {v : Value} (h : CellsAs P t [x] v) (hb : aggT P t = some false) : toVal x = some v := by
  obtain ⟨cx, h1, h2⟩ := h
  rw [hb] at h2
  subst h2
  simp only [toVals] at h1
  cases hx : toVal x with
  | none => rw [hx] at h1; cases h1
  | some u => rw [hx] at h1; cases h1; rfl

theorem eqL_ok : ∀ (d : Nat) (t : TypeId) (xs ys : List V) (r : Bool), eqL P d t xs ys = some r → ∀ x y, CellsAs P t xs x → CellsAs P t ys y → pureRun P (Op.equalIn d t x y) = some r
  | 0, _, _, _, _, h => by cases h
  | d + 1, t, xs, ys, r, h => fun x y hx hy => by
    simp only [eqL] at h
    cases hu : P.underlying t with
    | none => rw [hu] at h; cases h
    | some dd =>
      rw [hu] at h
      have agg1 : ∀ cs, (aggT P t = some true) → CellsAs P t cs x → ∃ cx, toVals cs = some cx ∧ x = .agg cx.toArray := fun cs ha ⟨cx, h1, h2⟩ => by rw [ha] at h2; exact ⟨cx, h1, h2⟩
      have agg2 : ∀ cs, (aggT P t = some true) → CellsAs P t cs y → ∃ cx, toVals cs = some cx ∧ y = .agg cx.toArray := fun cs ha ⟨cx, h1, h2⟩ => by rw [ha] at h2; exact ⟨cx, h1, h2⟩
      cases dd
      case bool =>
        simp only at h
        split at h
        · rename_i a b
          cases h
          have e1 := one_cell hx (by simp [aggT, hu])
          have e2 := one_cell hy (by simp [aggT, hu])
          simp only [toVal, Option.some.injEq] at e1 e2
          subst e1 e2
          rw [Op.equalIn, pureRun_bind, pr_underlying hu]
          rfl
        · cases h
      case int k0 =>
        simp only at h
        split at h
        · rename_i k a k' b
          split at h
          · rename_i hk
            cases h
            have e1 := one_cell hx (by simp [aggT, hu])
            have e2 := one_cell hy (by simp [aggT, hu])
            simp only [toVal, Option.some.injEq] at e1 e2
            subst e1 e2 hk
            rw [Op.equalIn, pureRun_bind, pr_underlying hu]
            simp
          · cases h
        · cases h
      case string =>
        simp only at h
        split at h
        · rename_i a b
          cases h
          have e1 := one_cell hx (by simp [aggT, hu])
          have e2 := one_cell hy (by simp [aggT, hu])
          simp only [toVal, Option.some.injEq] at e1 e2
          subst e1 e2
          rw [Op.equalIn, pureRun_bind, pr_underlying hu]
          simp only [Option.bind_some, pureRun_pure, Option.some.injEq]
          exact bytes_beq a b
        · cases h
      case struct fs =>
        obtain ⟨cx, h1, rfl⟩ := agg1 xs (by simp [aggT, hu]) hx
        obtain ⟨cy, h2, rfl⟩ := agg2 ys (by simp [aggT, hu]) hy
        simp only at h
        split at h
        · cases h
        · rename_i hst
          rw [Op.equalIn, pureRun_bind, pr_underlying hu]
          simp only [Option.bind_some]
          rw [pureRun_bind]
          show pureRun P (if P.stoodInHeld t = true then _ else _) = _
          rw [if_neg hst, pureRun_bind, ← Array.forIn_toList]
          rw [fs_loop (g := _) ?_ ?_ fs.toList r h]
          · cases r <;> rfl
          · intro f hn
            rw [if_neg (by simpa using hn)]
            rfl
          · intro f b hn hg
            rw [if_pos hn]
            split at hg
            · rename_i hc
              obtain ⟨a, c, p1, p2, p3⟩ := eq_part (eqL_ok d) hc.1 h1 h2 hc.2.1 hc.2.2 hg
              rw [pureRun_bind, p1]
              simp only [Option.bind_some]
              rw [pureRun_bind, p2]
              simp only [Option.bind_some]
              rw [pureRun_bind, p3]
              cases b <;> rfl
            · cases hg
      case array n e =>
        obtain ⟨cx, h1, rfl⟩ := agg1 xs (by simp [aggT, hu]) hx
        obtain ⟨cy, h2, rfl⟩ := agg2 ys (by simp [aggT, hu]) hy
        simp only at h
        split at h
        · rename_i hk
          have hk' := hk
          unfold okT at hk'
          rw [Bool.and_eq_true] at hk'
          obtain ⟨z, hz⟩ := Option.isSome_iff_exists.1 hk'.1
          have hsz : sizeL P e = z.size := by simp [sizeL, hz]
          rw [Op.equalIn, pureRun_bind, pr_underlying hu]
          simp only [Option.bind_some]
          rw [pureRun_bind, pr_size hz]
          simp only [Option.bind_some]
          rw [pureRun_bind, Std.Legacy.Range.forIn_eq_forIn_range']
          rw [show List.range' ([:n] : Std.Legacy.Range).start ([:n] : Std.Legacy.Range).size ([:n] : Std.Legacy.Range).step = List.range n by simp [Std.Legacy.Range.size, List.range_eq_range']]
          rw [ns_loop (g := _) ?_ (List.range n) r h]
          · cases r <;> rfl
          · intro i b hg
            split at hg
            · rename_i hc
              obtain ⟨a, c, p1, p2, p3⟩ := eq_part (eqL_ok d) hk h1 h2 hc.1 hc.2 hg
              rw [hsz] at p1 p2
              rw [pureRun_bind, p1]
              simp only [Option.bind_some]
              rw [pureRun_bind, p2]
              simp only [Option.bind_some]
              rw [pureRun_bind, p3]
              cases b <;> rfl
            · cases hg
        · cases h
      all_goals (simp only at h; cases h)

theorem binV_agg {t : TypeId} {xs ys : List V} {cx cy : List Value} {r : Bool} {d : Nat} (hd : Op.maxDepth = d) (hag : aggT P t = some true) (hg : P.eqGuardType P.depth t = false) (hx : toVals xs = some cx) (hy : toVals ys = some cy) (he : eqL P d t xs ys = some r) :
    binV P .eql t (.agg xs) (.agg ys) = some (.bool r) ∧ binV P .neq t (.agg xs) (.agg ys) = some (.bool !r) := by
  have h : pureRun P (Op.equal t (.agg cx.toArray) (.agg cy.toArray)) = some r := by
    unfold Op.equal
    rw [hd]
    exact eqL_ok d t xs ys r he _ _ ⟨cx, hx, by rw [hag]⟩ ⟨cy, hy, by rw [hag]⟩
  have e1 : toVal (.agg xs) = some (.agg cx.toArray) := by simp [toVal, hx]
  have e2 : toVal (.agg ys) = some (.agg cy.toArray) := by simp [toVal, hy]
  constructor <;> simp [binV, e1, e2, hg, h]

end

end Go.Abs

namespace Go.Abs
open Go.RowKit
set_option linter.unusedVariables false
set_option linter.unusedSimpArgs false

variable {P : Program}

section
variable {base : Nat} {Z : Nat → Prop} {φ : Place} {H : Heap} {w w' : World}

end

/-- The numbers of a list of values. -/
def intsOf : List V → Option (List Int)
  | [] => some []
  | .int .i64 n :: r => (intsOf r).map (n :: ·)
  | _ :: _ => none
theorem intsOf_ints (l : List Int) : intsOf (ints l) = some l := by
  induction l with
  | nil => rfl
  | cons a l ih => simp [intsOf, ih]
/-- Sorted. -/
def insI (a : Int) : List Int → List Int
  | [] => [a]
  | b :: l => if a ≤ b then a :: b :: l else b :: insI a l
def sorted : List Int → List Int
  | [] => []
  | a :: l => insI a (sorted l)
/-- slices.Sort of numbers, evaluated. -/
def sortX : List V → Heap → Option (V × Heap)
  | [.own b tot off len], H => match H[b]? with
    | some (.dat true s es) => match intsOf es with
      | some l => if s = 1 ∧ off = 0 ∧ len = tot ∧ l.length = tot ∧ tot ≤ room then some (.tuple [], H.set b (.dat true 1 (ints (sorted l)))) else none
      | none => none
    | _ => none
  | _, _ => none

section
variable {base : Nat} {Z : Nat → Prop} {φ : Place} {H : Heap} {w : World}

end
theorem callW_extE {C : Ctx} {f : FuncId} {xs : List V} {H : Heap} {g : List V → Heap → Option (V × Heap)} (h1 : C.extE f = some g) : callW C false (.fn f []) xs H = g xs H := by
  rw [callW_def]
  simp [h1]
@[simp] theorem sortX_at {b n : Nat} {H : Heap} : sortX [.own b n 0 n] H = match H[b]? with
    | some (.dat true s es) => match intsOf es with
      | some l => if s = 1 ∧ l.length = n ∧ n ≤ room then some (.tuple [], H.set b (.dat true 1 (ints (sorted l)))) else none
      | none => none
    | _ => none := by
  simp [sortX]
attribute [simp] intsOf_ints
end Go.Abs

