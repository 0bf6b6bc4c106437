/- Proved here: what functions of the program compute, over the evaluator. No condition but those that each theorem states. -/
import Derived.Test.YtefdoccoajhefaaDoorVAL
import Derived.RangeFuncBox
import Derived.RangeFuncLeaves
import Derived.RangeFuncCalls
import Derived.Shelf.Abstract
import Derived.WalkKit
import Derived.OwnWalkIn
import Derived.TacticsInMore
import Derived.LoopNIn
import Derived.LoopIn
import Derived.Maps.AppendAt
import Derived.WalkSpells
import Derived.BigRegionIn
namespace Go.Proofs
open Go.RowKit Go.Shelf Go.Abs
attribute [local go_sem] Oper.semAt_some

section
variable {F : Fence} {n : Nat} {P : Program}

/-- The record of a loop over a function. -/
def recOf (fn : FuncId) (tmps : Array Value) (ps : Array Tmp) (assign body : Code) (D : Nat) (st : LoopState) (pe : Option Code) : Loop :=
  { state := st, pending := pe, fn, tmps, params := ps, assign, body, defers := D }

-- The statement
set_option maxHeartbeats 80000 in
theorem rangeFunc_gen {g : Operand} {ps : Array Tmp} {assign body : Code} {Q : Exit → Act → World → Prop} {a : Act} {w : World}
    (hro : F.round = none) (h1 : 1 ≤ n) {gf : Nat} {lb : Array Value} (hg : a.eval g = .func (.func gf) #[] lb) (hFg : F.fn gf) (eg : ∀ args w, (callFunc gf args).run P w = .ok (.enter gf args) w)
    (hcall : ∀ fn, F.fn fn → CallsIn F (n - 1) P gf (#[.func (.yield (w.heap.size + 1)) #[] #[]] ++ lb) ((w.alloc (.deferred (some []))).alloc (.loop (recOf fn a.tmps ps assign body w.heap.size .ready none)))
      fun e W2 => (∃ v, e = .returned v) ∧ ∃ st pe, st ≠ .busy ∧ W2.heap[w.heap.size + 1]? = some (.loop (recOf fn a.tmps ps assign body w.heap.size st pe)) ∧
        (match pe with
         | none => Q .normal { a with defers := { target := .collected w.heap.size, args := #[] } :: a.defers } (W2.putObj (w.heap.size + 1) (.loop (recOf fn a.tmps ps assign body w.heap.size .exhausted pe)))
         | some c => c.wpIn F n P Q { a with defers := { target := .collected w.heap.size, args := #[] } :: a.defers } (W2.putObj (w.heap.size + 1) (.loop (recOf fn a.tmps ps assign body w.heap.size .exhausted pe))))) :
    (Code.rangeFunc g ps assign body).wpIn F n P Q a w := by
  refine wpIn_rangeFunc ?_
  intro fn hfn
  rw [hro]
  have hent : (Instr.enterLoop fn a.tmps ps assign body none).run P w = .ok (w.heap.size + 1, [{ target := .collected w.heap.size, args := #[] }]) ((w.alloc (.deferred (some []))).alloc (.loop (recOf fn a.tmps ps assign body w.heap.size .ready none))) := run_enterLoop_outer fn a.tmps ps assign body
  have hcl := hcall fn hfn
  generalize hW1 : (w.alloc (.deferred (some []))).alloc (.loop (recOf fn a.tmps ps assign body w.heap.size .ready none)) = W1 at hent hcl
  have h4 : (resolve a.eval (rangeCall g (w.heap.size + 1)) 0).run P W1 = .ok { target := .fn (.func gf) lb, args := #[.func (.yield (w.heap.size + 1)) #[] #[]] } W1 := by
    simp only [resolve, hg]
    simp [go_sem]
  have h5 : (invoke (.fn (.func gf) lb) #[.func (.yield (w.heap.size + 1)) #[] #[]]).run P W1 = .ok (.enter gf (#[.func (.yield (w.heap.size + 1)) #[] #[]] ++ lb)) W1 := by simp [invoke, go_sem, eg]
  have h6 : ∀ f', Target.leads P W1 (.fn (.func gf) lb) #[.func (.yield (w.heap.size + 1)) #[] #[]] = some f' → F.fn f' := by
    intro f' hf'; simp [Target.leads] at hf'; subst hf'; exact hFg
  refine ⟨w.heap.size + 1, [{ target := .collected w.heap.size, args := #[] }], W1, { target := .fn (.func gf) lb, args := #[.func (.yield (w.heap.size + 1)) #[] #[]] }, W1, gf,
    #[.func (.yield (w.heap.size + 1)) #[] #[]] ++ lb, W1, ?_, ?_, ?_, ?_, fun _ => h1, ?_⟩
  · exact hent
  · exact h4
  · exact h6
  · exact h5
  refine CallsIn.mono hcl ?_
  intro e W2 h
  obtain ⟨⟨v, he⟩, st, pe, hst, hl, hp⟩ := h
  subst he
  have hend := run_endLoop (P := P) hl hst
  refine ⟨pe, _, hend, ?_⟩
  cases pe with
  | none => exact hp
  | some c => exact hp

theorem rangeFunc_rec {g : Operand} {ps : Array Tmp} {assign body : Code} {Q : Exit → Act → World → Prop} {a : Act} {w : World}
    (hro : F.round = none) (h1 : 1 ≤ n) {gf : Nat} {lb : Array Value} (hg : a.eval g = .func (.func gf) #[] lb) (hFg : F.fn gf) (eg : ∀ args w, (callFunc gf args).run P w = .ok (.enter gf args) w)
    (hcall : ∀ (fn : FuncId) (R : LoopState → Option Code → Loop), F.fn fn → R = recOf fn a.tmps ps assign body w.heap.size → CallsIn F (n - 1) P gf (#[.func (.yield (w.heap.size + 1)) #[] #[]] ++ lb) ((w.alloc (.deferred (some []))).alloc (.loop (R .ready none)))
      fun e W2 => (∃ v, e = .returned v) ∧ ∃ st pe, st ≠ .busy ∧ W2.heap[w.heap.size + 1]? = some (.loop (R st pe)) ∧
        (match pe with
         | none => Q .normal { a with defers := { target := .collected w.heap.size, args := #[] } :: a.defers } (W2.putObj (w.heap.size + 1) (.loop (R .exhausted pe)))
         | some c => c.wpIn F n P Q { a with defers := { target := .collected w.heap.size, args := #[] } :: a.defers } (W2.putObj (w.heap.size + 1) (.loop (R .exhausted pe))))) :
    (Code.rangeFunc g ps assign body).wpIn F n P Q a w :=
  rangeFunc_gen hro h1 hg hFg eg fun fn hfn => hcall fn _ hfn rfl

/-- One round. -/
theorem yield_gen {fn : FuncId} {tmps : Array Value} {ps : Array Tmp} {assign body : Code} {D l m : Nat} {x : Value} {W : World} {R : Ending → World → Prop} (hfn : F.fn fn)
    (hl : W.heap[l]? = some (.loop (recOf fn tmps ps assign body D .ready none))) (hps : ps.size = 1) (a₁ : Act)
    (hassign : ∀ (K : Act → World → Prop), K a₁ W → assign.wpIn (F.inRound l) m P (Exit.then K (fun _ _ _ => False)) { tmps := (ps.zip #[x]).foldl (fun t (p, v) => t.setIfInBounds p v) tmps, defers := [] } W)
    (hbody : body.wpIn (F.inRound l) m P (fun e _ W3 => match e with
      | .normal => W3.heap[l]? = some (.loop (recOf fn tmps ps assign body D .busy none)) ∧ R (.returned (.bool true)) (W3.putObj l (.loop (recOf fn tmps ps assign body D .ready none)))
      | .ret => W3.heap[l]? = some (.loop (recOf fn tmps ps assign body D .busy none)) ∧ R (.returned (.bool false)) (W3.putObj l (.loop (recOf fn tmps ps assign body D .done (some .ret))))
      | _ => False) a₁ (W.putObj l (.loop (recOf fn tmps ps assign body D .busy none)))) :
    YieldAt F m P l #[x] W R := by
  refine ⟨fn, _, assign, body, run_yield (P := P) (args := #[x]) hl (by simp [recOf, hps]), roundIn_of_wpIn hfn (hassign _ ⟨_, run_beginRound hl rfl, ?_⟩)⟩
  refine wpIn_mono hbody ?_
  rintro e a3 W3 hp
  cases e with
  | normal => exact ⟨_, _, run_endRound none hp.1, hp.2⟩
  | ret => exact ⟨_, _, run_endRound (some .ret) hp.1, hp.2⟩
  | exit id => exact hp.elim
  | goto t => exact hp.elim
  | panic ch => exact hp.elim
  | outgrown => exact hp.elim

theorem yield_rec {fn : FuncId} {tmps : Array Value} {ps : Array Tmp} {assign body : Code} {D l m : Nat} {x : Value} {W : World} {R : Ending → World → Prop} {S : LoopState → Option Code → Loop} (hS : S = recOf fn tmps ps assign body D) (hfn : F.fn fn)
    (hl : W.heap[l]? = some (.loop (S .ready none))) (hps : ps.size = 1) (a₁ : Act)
    (hassign : ∀ (K : Act → World → Prop), K a₁ W → assign.wpIn (F.inRound l) m P (Exit.then K (fun _ _ _ => False)) { tmps := (ps.zip #[x]).foldl (fun t (p, v) => t.setIfInBounds p v) tmps, defers := [] } W)
    (hbody : body.wpIn (F.inRound l) m P (fun e _ W3 => match e with
      | .normal => W3.heap[l]? = some (.loop (S .busy none)) ∧ R (.returned (.bool true)) (W3.putObj l (.loop (S .ready none)))
      | .ret => W3.heap[l]? = some (.loop (S .busy none)) ∧ R (.returned (.bool false)) (W3.putObj l (.loop (S .done (some .ret))))
      | _ => False) a₁ (W.putObj l (.loop (S .busy none)))) :
    YieldAt F m P l #[x] W R := by
  subst hS
  exact yield_gen hfn hl hps a₁ hassign hbody

end

def stv (s : List UInt8) : Value := .string ⟨s.toArray⟩

theorem calls_of_contract {P : Program} {f : FuncId} {xs : List V} {r : V} {cargs : Array Value} {w : World} (hc : Contract P f xs r []) (ha : ArgsRel pure0 (Wr pure0 [] fun _ => False) w xs cargs) :
    Calls P f cargs w fun e w' => ∃ v, e = .returned v ∧ Below w.heap.size w w' ∧ ∃ φ W, VRel φ W w' r v := by
  refine Calls.mono (hc w.heap.size (fun _ => False) w cargs (inv_empty fun c h => h.elim) ha) ?_
  rintro e w' ⟨v, he, φ', h⟩
  exact ⟨v, he, h.step.below, _, _, h.rel⟩

theorem args_strs {W : Nat → Prop} {w : World} (a b : List UInt8) : ArgsRel pure0 W w [.str a, .str b] #[stv a, stv b] := by
  refine ⟨rfl, fun i x c hx hc => ?_⟩
  match i with
  | 0 => simp at hx hc; subst hx; subst hc; exact .str a
  | 1 => simp at hx hc; subst hx; subst hc; exact .str b
  | i+2 => simp at hx

theorem args_str {W : Nat → Prop} {w : World} (a : List UInt8) : ArgsRel pure0 W w [.str a] #[stv a] := by
  refine ⟨rfl, fun i x c hx hc => ?_⟩
  match i with
  | 0 => simp at hx hc; subst hx; subst hc; exact .str a
  | i+1 => simp at hx

set_option maxRecDepth 100000 in
set_option maxHeartbeats 1000000 in
theorem parts_in (F : Fence) (n : Nat) (h26 : F.fn 26) (hro : F.round = none) (s : ByteArray) (w : World) :
    CallsIn F n Tryd.prog 26 #[.string s] w fun e w' => e = .returned (.func (.func 43) #[] #[.pointer (some ⟨w.heap.size, 0, none⟩)]) ∧ w' = w.alloc (.cells #[.string s] 9) := by
  refine callsIn_of_wp Tryd.func26 rfl h26 ?_ hro
  simp only [Tryd.ntmps26, List.size_toArray, List.length_cons, List.length_nil, Nat.reduceAdd, Nat.reduceSub, Array.replicate_succ, Array.replicate_zero, List.push_toArray, List.append_toArray, List.nil_append, List.cons_append]
  gi_wp2
  go_ret
  exact ⟨rfl, rfl⟩

theorem tuple3 {φ : Abs.Place} {W : Nat → Prop} {w : World} {a b : List UInt8} {f : Bool} {v : Value} (h : VRel φ W w (.tuple [.str a, .str b, .bool f]) v) : v = .tuple #[stv a, stv b, .bool f] := by
  cases h with
  | tuple _ vs hl h =>
    obtain ⟨vs⟩ := vs
    match vs, hl with
    | [x, y, z], _ =>
      have h0 := h 0 _ _ rfl rfl
      have h1 := h 1 _ _ rfl rfl
      have h2 := h 2 _ _ rfl rfl
      cases h0; cases h1; cases h2; rfl

/-- How many bytes the box's string has. -/
def boxLen (B : Nat) (W : World) : Nat := match W.cell? ⟨B, 0, none⟩ with
  | some (.string b) => b.size
  | _ => 0

theorem boxLen_eq {B : Nat} {W : World} {p : List UInt8} (h : Boxed W B 9 (stv p)) : boxLen B W = p.length := by
  unfold boxLen; rw [h.cell]; simp [stv, ByteArray.size]

theorem cutB_lt {s : List UInt8} (h : s ≠ []) : (cutB s).length < s.length := by
  unfold cutB
  have h1 : (s.dropWhile (· != 47)).length ≤ s.length := (List.dropWhile_sublist _).length_le
  rw [List.length_drop]
  have : 0 < s.length := List.length_pos_iff.2 h
  omega

theorem partsF_cons {s : List UInt8} (h : s ≠ []) : ∀ n, s.length ≤ n → partsF n s = (if cutA s = [] then [] else [cutA s]) ++ partsF (cutB s).length (cutB s) := by
  have key : ∀ n m (t : List UInt8), t.length ≤ n → t.length ≤ m → partsF n t = partsF m t := by
    intro n
    induction n with
    | zero => intro m t h1 h2; have : t = [] := List.eq_nil_of_length_eq_zero (by omega); subst this; cases m <;> rfl
    | succ n ih =>
      intro m t h1 h2
      by_cases ht : t = []
      · subst ht; cases m <;> rfl
      · have hl := cutB_lt ht
        have hp := List.length_pos_iff.2 ht
        obtain ⟨m, rfl⟩ : ∃ k, m = k + 1 := ⟨m - 1, by omega⟩
        simp only [partsF, if_neg ht]
        rw [ih m (cutB t) (by omega) (by omega)]
  intro n hn
  have hp := List.length_pos_iff.2 h
  obtain ⟨n, rfl⟩ : ∃ k, n = k + 1 := ⟨n - 1, by omega⟩
  have hl := cutB_lt h
  simp only [partsF, if_neg h]
  rw [key n (cutB s).length (cutB s) (by omega) (Nat.le_refl _)]
  split <;> simp

theorem partsF_le : ∀ n s, (partsF n s).length ≤ n
  | 0, _ => Nat.le_refl _
  | n + 1, s => by
    have h := partsF_le n (cutB s)
    unfold partsF
    split
    · simp
    · split
      · omega
      · simp; omega

theorem parts_room {s p : List UInt8} {ns : List (List UInt8)} (hx : partsF s.length s = ns ++ partsF p.length p) : ns.length ≤ s.length := by
  have h := partsF_le s.length s
  rw [hx] at h
  simp at h
  omega

set_option maxRecDepth 100000 in
set_option maxHeartbeats 1000000 in
theorem iter_in (F : Fence) (n : Nat) (hC : ∀ m f args w R, Calls Tryd.prog f args w R → CallsIn F m Tryd.prog f args w R) (h43 : F.fn 43) (h44 : F.fn 44) (hro : F.round = none) (hn : 1 ≤ n) (l B : Nat) (J : List UInt8 → List (List UInt8) → World → Prop) (Jx : World → Prop) (ok : List UInt8 → Bool)
    (hcut : ∀ s : List UInt8, s.length ≤ 256 → ∃ f, Contract Tryd.prog 44 [.str s, .str [47]] (.tuple [.str (cutA s), .str (cutB s), .bool f]) [])
    (hJc : ∀ p ns W, J p ns W → Boxed W B 9 (stv p))
    (hJset : ∀ p q ns W, J p ns W → J q ns (W.setCell ⟨B, 0, none⟩ (stv q)))
    (hJcut : ∀ p ns W W', J p ns W → Below W.heap.size W W' → J p ns W')
    (s : List UInt8) (hs : s.length ≤ 256) (hY : ∀ p ns x W, J p ns W → x.length ≤ 256 → ns.length ≤ s.length → YieldAt F (n - 1) Tryd.prog l #[stv x] W fun e W' =>
      (e = .returned (.bool true) ∧ ok x = true ∧ J p (ns ++ [x]) W') ∨ (e = .returned (.bool false) ∧ ok x = false ∧ Jx W'))
    (W : World) (h0 : J s [] W) :
    CallsIn F n Tryd.prog 43 #[.func (.yield l) #[] #[], .pointer (some ⟨B, 0, none⟩)] W fun e W' => (∃ v, e = .returned v) ∧
      (((partsF s.length s).all ok = true ∧ J [] (partsF s.length s) W') ∨ ((partsF s.length s).all ok = false ∧ Jx W')) := by
  refine callsIn_of_wp Tryd.func43 rfl h43 ?_ hro
  simp only [Tryd.ntmps43, List.size_toArray, List.length_cons, List.length_nil, Nat.reduceAdd, Nat.reduceSub, Array.replicate_succ, Array.replicate_zero, List.push_toArray, List.append_toArray, List.nil_append, List.cons_append]
  gi_wp2
  gi_loopw [3] (fun _ wr => ∃ (p : List UInt8) (ns : List (List UInt8)), p.length ≤ 256 ∧ partsF s.length s = ns ++ partsF p.length p ∧ ns.all ok = true ∧ J p ns wr) (fun _ wr => boxLen B wr)
  case atStart =>
    exact ⟨s, [], hs, rfl, rfl, h0⟩
  case round =>
    obtain ⟨p, ns, hp, hx, hall, hJ⟩ := hrel
    have hc : wr.cell? ⟨B, 0, none⟩ = some (.string ⟨p.toArray⟩) := (hJc _ _ _ hJ).cell
    have hfz := (hJc _ _ _ hJ).frozen
    gi_wp2_with (gi_at_call 44; obtain ⟨f, hct⟩ := hcut p hp; refine (hC _ _ _ _ _ (calls_of_contract hct (args_strs p [47]))).mono ?_; rintro e w1 ⟨v, rfl, hb1, φ1, W1, hv⟩; obtain rfl := tuple3 hv; have hJ1 := hJcut _ _ _ _ hJ hb1; have hc1 : w1.cell? ⟨B, 0, none⟩ = some (.string ⟨p.toArray⟩) := (hJc _ _ _ hJ1).cell; have hfz1 := (hJc _ _ _ hJ1).frozen; have hJ2 := hJset _ (cutB p) _ _ hJ1; obtain ⟨fn, tmps, assign, body, hy, hR⟩ := hY _ _ (cutA p) _ hJ2 (Nat.le_trans (List.takeWhile_sublist _).length_le hp) (parts_room hx); simp only [stv] at hy hR hJ2 ⊢)
    · refine ⟨(by intro f h; cases h), ?_⟩
      have hA : cutA p = [] := by simp_all
      have hpe : p ≠ [] := by simp_all
      gi_wp2
      go_roundw
      case rel => exact ⟨cutB p, ns, Nat.le_trans (Nat.le_of_lt (cutB_lt hpe)) hp, by rw [hx, partsF_cons hpe _ (Nat.le_refl _), if_pos hA, List.nil_append], hall, hJ2⟩
      case measure => rw [boxLen_eq (hJc _ _ _ hJ2), boxLen_eq (hJc _ _ _ hJ)]; exact cutB_lt hpe
    · have hA : cutA p ≠ [] := by simp_all
      have hpe : p ≠ [] := by simp_all
      refine hR.mono ?_
      rintro e W3 (⟨rfl, ho, hJ3⟩ | ⟨rfl, ho, hJ3⟩)
      · gi_wp2
        refine ⟨⟨cutB p, ns ++ [cutA p], Nat.le_trans (Nat.le_of_lt (cutB_lt hpe)) hp, by rw [hx, partsF_cons hpe _ (Nat.le_refl _), if_neg hA, List.append_assoc], by simp [hall, ho], hJ3⟩, ?_⟩
        rw [boxLen_eq (hJc _ _ _ hJ3), boxLen_eq (hJc _ _ _ hJ)]; exact cutB_lt hpe
      · gi_wp2
        · refine bodyPost_ret (results_none rfl _ _ _) rfl ?_
          exact ⟨⟨_, rfl⟩, .inr ⟨by rw [hx, partsF_cons hpe _ (Nat.le_refl _), if_neg hA]; simp [ho], hJ3⟩⟩
        · simp_all
    · go_end0
      have hpe : p = [] := by simp_all
      subst hpe
      have hx' : partsF s.length s = ns := by rw [hx]; simp [partsF]
      rw [hx']
      exact ⟨⟨_, rfl⟩, .inl ⟨hall, hJ⟩⟩

/-- What Split's blocks hold: the results' boxes, the names', the path's, the deferred calls', the loop's record. -/
structure SpJ (w : World) (R : Loop) (k : Int) (p : List UInt8) (ns : List (List UInt8)) (W : World) : Prop where
  b0 : Boxed W w.heap.size 4 (.bool false)
  b1 : Boxed W (w.heap.size + 1) 23 (.slice none 0 0)
  b2 : Boxed W (w.heap.size + 1 + 1) 24 (.int .i64 k)
  b3 : ∃ v, Boxed W (w.heap.size + 1 + 1 + 1) 23 v ∧ W.ownsRow (w.heap.size + 7) 9 1 v ns.length (ns.map stv)
  b4 : Boxed W (w.heap.size + 1 + 1 + 1 + 1) 9 (stv p)
  b5 : W.heap[w.heap.size + 1 + 1 + 1 + 1 + 1]? = some (.deferred (some []))
  b6 : W.heap[w.heap.size + 1 + 1 + 1 + 1 + 1 + 1]? = some (.loop R)
  below : Below w.heap.size w W

theorem ownsRow_below {W W' : World} {base : Nat} {e : TypeId} {size : Nat} {v : Value} {n : Nat} {xs : List Value} (h : W.ownsRow base e size v n xs) (hb : Below W.heap.size W W') : W'.ownsRow base e size v n xs :=
  h.kept (row := none) ⟨hb.os, hb.tape, hb.output, hb.size, fun k hk _ => hb.block k hk⟩ (by cases hv : v.ownBlock <;> simp)

theorem boxed_below {W W' : World} {B : Nat} {t : TypeId} {v : Value} (h : Boxed W B t v) (hb : Below W.heap.size W W') : Boxed W' B t v := (hb.block _ h.lt).trans h

theorem SpJ.keep {w : World} {R : Loop} {k : Int} {p : List UInt8} {ns : List (List UInt8)} {W W' : World} (h : SpJ w R k p ns W) (hb : Below W.heap.size W W') : SpJ w R k p ns W' where
  b0 := boxed_below h.b0 hb
  b1 := boxed_below h.b1 hb
  b2 := boxed_below h.b2 hb
  b3 := by obtain ⟨v, h1, h2⟩ := h.b3; exact ⟨v, boxed_below h1 hb, ownsRow_below h2 hb⟩
  b4 := boxed_below h.b4 hb
  b5 := (hb.block _ (Array.getElem?_eq_some_iff.1 h.b5).1).trans h.b5
  b6 := (hb.block _ (Array.getElem?_eq_some_iff.1 h.b6).1).trans h.b6
  below := h.below.trans (hb.mono h.below.size)

theorem boxed_other {W : World} {B c : Nat} {t : TypeId} {v u : Value} (h : Boxed W B t v) (hne : B ≠ c) : Boxed (W.setCell ⟨c, 0, none⟩ u) B t v := (Below.heap_setCell W ⟨c, 0, none⟩ u B hne).trans h

theorem SpJ.setp {w : World} {R : Loop} {k : Int} {p q : List UInt8} {ns : List (List UInt8)} {W : World} (h : SpJ w R k p ns W) : SpJ w R k q ns (W.setCell ⟨w.heap.size + 1 + 1 + 1 + 1, 0, none⟩ (stv q)) where
  b0 := boxed_other h.b0 (by omega)
  b1 := boxed_other h.b1 (by omega)
  b2 := boxed_other h.b2 (by omega)
  b3 := by obtain ⟨v, h1, h2⟩ := h.b3; exact ⟨v, boxed_other h1 (by omega), ownsRow_setCell_below h2 (by show w.heap.size + 1 + 1 + 1 + 1 < _; omega) _⟩
  b4 := h.b4.set _
  b5 := (Below.heap_setCell W ⟨w.heap.size + 1 + 1 + 1 + 1, 0, none⟩ _ _ (by show _ ≠ w.heap.size + 1 + 1 + 1 + 1; omega)).trans h.b5
  b6 := (Below.heap_setCell W ⟨w.heap.size + 1 + 1 + 1 + 1, 0, none⟩ _ _ (by show _ ≠ w.heap.size + 1 + 1 + 1 + 1; omega)).trans h.b6
  below := h.below.setCell (p := ⟨w.heap.size + 1 + 1 + 1 + 1, 0, none⟩) (by show _ ≤ w.heap.size + 1 + 1 + 1 + 1; omega) _


theorem SpJ.putRec {w : World} {R R' : Loop} {k : Int} {p : List UInt8} {ns : List (List UInt8)} {W : World} (h : SpJ w R k p ns W) : SpJ w R' k p ns (W.putObj (w.heap.size + 1 + 1 + 1 + 1 + 1 + 1) (.loop R')) where
  b0 := (World.putObj_heap_other (by omega)).trans h.b0
  b1 := (World.putObj_heap_other (by omega)).trans h.b1
  b2 := (World.putObj_heap_other (by omega)).trans h.b2
  b3 := by obtain ⟨v, h1, h2⟩ := h.b3; exact ⟨v, (World.putObj_heap_other (by omega)).trans h1, ownsRow_putObj h2 _ h.b6 rfl⟩
  b4 := (World.putObj_heap_other (by omega)).trans h.b4
  b5 := (World.putObj_heap_other (by omega)).trans h.b5
  b6 := World.putObj_heap_same (Array.getElem?_eq_some_iff.1 h.b6).1
  below := h.below.trans ⟨rfl, rfl, rfl, by simp, fun k hk => World.putObj_heap_other (by omega)⟩

theorem boxed_of {W : World} {B : Nat} {t : TypeId} {v : Value} (h : W.heap[B]? = some (.cells #[v] t (0, 0))) : Boxed W B t v := h

theorem SpJ.start (w : World) (s : List UInt8) (R : Loop) :
    SpJ w R 0 s [] (((((((w.alloc (.cells #[.bool false] 4)).alloc (.cells #[.slice none 0 0] 23)).alloc (.cells #[.int .i64 0] 24)).alloc (.cells #[.slice none 0 0] 23)).alloc (.cells #[stv s] 9)).alloc (.deferred (some []))).alloc (.loop R)) := by
  have hs : ∀ (k : Nat) (o : Obj) (W : World), k < W.heap.size → (W.alloc o).heap[k]? = W.heap[k]? := fun k o W h => Below.heap_alloc W o k h
  have hn : ∀ (W : World) (o : Obj), (W.alloc o).heap[W.heap.size]? = some o := World.alloc_heap_new
  have z : ∀ (W : World) (o : Obj), (W.alloc o).heap.size = W.heap.size + 1 := fun W o => World.size_alloc ..
  have f0 : (((((((w.alloc (.cells #[.bool false] 4)).alloc (.cells #[.slice none 0 0] 23)).alloc (.cells #[.int .i64 0] 24)).alloc (.cells #[.slice none 0 0] 23)).alloc (.cells #[stv s] 9)).alloc (.deferred (some []))).alloc (.loop R)).heap[w.heap.size]? = some (.cells #[.bool false] 4) := by
    rw [hs (w.heap.size) (.loop R) ((((((w.alloc (.cells #[.bool false] 4)).alloc (.cells #[.slice none 0 0] 23)).alloc (.cells #[.int .i64 0] 24)).alloc (.cells #[.slice none 0 0] 23)).alloc (.cells #[stv s] 9)).alloc (.deferred (some []))) (by simp only [z]; omega), hs (w.heap.size) (.deferred (some [])) (((((w.alloc (.cells #[.bool false] 4)).alloc (.cells #[.slice none 0 0] 23)).alloc (.cells #[.int .i64 0] 24)).alloc (.cells #[.slice none 0 0] 23)).alloc (.cells #[stv s] 9)) (by simp only [z]; omega), hs (w.heap.size) (.cells #[stv s] 9) ((((w.alloc (.cells #[.bool false] 4)).alloc (.cells #[.slice none 0 0] 23)).alloc (.cells #[.int .i64 0] 24)).alloc (.cells #[.slice none 0 0] 23)) (by simp only [z]; omega), hs (w.heap.size) (.cells #[.slice none 0 0] 23) (((w.alloc (.cells #[.bool false] 4)).alloc (.cells #[.slice none 0 0] 23)).alloc (.cells #[.int .i64 0] 24)) (by simp only [z]; omega), hs (w.heap.size) (.cells #[.int .i64 0] 24) ((w.alloc (.cells #[.bool false] 4)).alloc (.cells #[.slice none 0 0] 23)) (by simp only [z]; omega), hs (w.heap.size) (.cells #[.slice none 0 0] 23) (w.alloc (.cells #[.bool false] 4)) (by simp only [z]; omega)]
    have h := hn w (.cells #[.bool false] 4)
    simpa only [z] using h
  have f1 : (((((((w.alloc (.cells #[.bool false] 4)).alloc (.cells #[.slice none 0 0] 23)).alloc (.cells #[.int .i64 0] 24)).alloc (.cells #[.slice none 0 0] 23)).alloc (.cells #[stv s] 9)).alloc (.deferred (some []))).alloc (.loop R)).heap[w.heap.size + 1]? = some (.cells #[.slice none 0 0] 23) := by
    rw [hs (w.heap.size + 1) (.loop R) ((((((w.alloc (.cells #[.bool false] 4)).alloc (.cells #[.slice none 0 0] 23)).alloc (.cells #[.int .i64 0] 24)).alloc (.cells #[.slice none 0 0] 23)).alloc (.cells #[stv s] 9)).alloc (.deferred (some []))) (by simp only [z]; omega), hs (w.heap.size + 1) (.deferred (some [])) (((((w.alloc (.cells #[.bool false] 4)).alloc (.cells #[.slice none 0 0] 23)).alloc (.cells #[.int .i64 0] 24)).alloc (.cells #[.slice none 0 0] 23)).alloc (.cells #[stv s] 9)) (by simp only [z]; omega), hs (w.heap.size + 1) (.cells #[stv s] 9) ((((w.alloc (.cells #[.bool false] 4)).alloc (.cells #[.slice none 0 0] 23)).alloc (.cells #[.int .i64 0] 24)).alloc (.cells #[.slice none 0 0] 23)) (by simp only [z]; omega), hs (w.heap.size + 1) (.cells #[.slice none 0 0] 23) (((w.alloc (.cells #[.bool false] 4)).alloc (.cells #[.slice none 0 0] 23)).alloc (.cells #[.int .i64 0] 24)) (by simp only [z]; omega), hs (w.heap.size + 1) (.cells #[.int .i64 0] 24) ((w.alloc (.cells #[.bool false] 4)).alloc (.cells #[.slice none 0 0] 23)) (by simp only [z]; omega)]
    have h := hn (w.alloc (.cells #[.bool false] 4)) (.cells #[.slice none 0 0] 23)
    simpa only [z] using h
  have f2 : (((((((w.alloc (.cells #[.bool false] 4)).alloc (.cells #[.slice none 0 0] 23)).alloc (.cells #[.int .i64 0] 24)).alloc (.cells #[.slice none 0 0] 23)).alloc (.cells #[stv s] 9)).alloc (.deferred (some []))).alloc (.loop R)).heap[w.heap.size + 1 + 1]? = some (.cells #[.int .i64 0] 24) := by
    rw [hs (w.heap.size + 1 + 1) (.loop R) ((((((w.alloc (.cells #[.bool false] 4)).alloc (.cells #[.slice none 0 0] 23)).alloc (.cells #[.int .i64 0] 24)).alloc (.cells #[.slice none 0 0] 23)).alloc (.cells #[stv s] 9)).alloc (.deferred (some []))) (by simp only [z]; omega), hs (w.heap.size + 1 + 1) (.deferred (some [])) (((((w.alloc (.cells #[.bool false] 4)).alloc (.cells #[.slice none 0 0] 23)).alloc (.cells #[.int .i64 0] 24)).alloc (.cells #[.slice none 0 0] 23)).alloc (.cells #[stv s] 9)) (by simp only [z]; omega), hs (w.heap.size + 1 + 1) (.cells #[stv s] 9) ((((w.alloc (.cells #[.bool false] 4)).alloc (.cells #[.slice none 0 0] 23)).alloc (.cells #[.int .i64 0] 24)).alloc (.cells #[.slice none 0 0] 23)) (by simp only [z]; omega), hs (w.heap.size + 1 + 1) (.cells #[.slice none 0 0] 23) (((w.alloc (.cells #[.bool false] 4)).alloc (.cells #[.slice none 0 0] 23)).alloc (.cells #[.int .i64 0] 24)) (by simp only [z]; omega)]
    have h := hn ((w.alloc (.cells #[.bool false] 4)).alloc (.cells #[.slice none 0 0] 23)) (.cells #[.int .i64 0] 24)
    simpa only [z] using h
  have f3 : (((((((w.alloc (.cells #[.bool false] 4)).alloc (.cells #[.slice none 0 0] 23)).alloc (.cells #[.int .i64 0] 24)).alloc (.cells #[.slice none 0 0] 23)).alloc (.cells #[stv s] 9)).alloc (.deferred (some []))).alloc (.loop R)).heap[w.heap.size + 1 + 1 + 1]? = some (.cells #[.slice none 0 0] 23) := by
    rw [hs (w.heap.size + 1 + 1 + 1) (.loop R) ((((((w.alloc (.cells #[.bool false] 4)).alloc (.cells #[.slice none 0 0] 23)).alloc (.cells #[.int .i64 0] 24)).alloc (.cells #[.slice none 0 0] 23)).alloc (.cells #[stv s] 9)).alloc (.deferred (some []))) (by simp only [z]; omega), hs (w.heap.size + 1 + 1 + 1) (.deferred (some [])) (((((w.alloc (.cells #[.bool false] 4)).alloc (.cells #[.slice none 0 0] 23)).alloc (.cells #[.int .i64 0] 24)).alloc (.cells #[.slice none 0 0] 23)).alloc (.cells #[stv s] 9)) (by simp only [z]; omega), hs (w.heap.size + 1 + 1 + 1) (.cells #[stv s] 9) ((((w.alloc (.cells #[.bool false] 4)).alloc (.cells #[.slice none 0 0] 23)).alloc (.cells #[.int .i64 0] 24)).alloc (.cells #[.slice none 0 0] 23)) (by simp only [z]; omega)]
    have h := hn (((w.alloc (.cells #[.bool false] 4)).alloc (.cells #[.slice none 0 0] 23)).alloc (.cells #[.int .i64 0] 24)) (.cells #[.slice none 0 0] 23)
    simpa only [z] using h
  have f4 : (((((((w.alloc (.cells #[.bool false] 4)).alloc (.cells #[.slice none 0 0] 23)).alloc (.cells #[.int .i64 0] 24)).alloc (.cells #[.slice none 0 0] 23)).alloc (.cells #[stv s] 9)).alloc (.deferred (some []))).alloc (.loop R)).heap[w.heap.size + 1 + 1 + 1 + 1]? = some (.cells #[stv s] 9) := by
    rw [hs (w.heap.size + 1 + 1 + 1 + 1) (.loop R) ((((((w.alloc (.cells #[.bool false] 4)).alloc (.cells #[.slice none 0 0] 23)).alloc (.cells #[.int .i64 0] 24)).alloc (.cells #[.slice none 0 0] 23)).alloc (.cells #[stv s] 9)).alloc (.deferred (some []))) (by simp only [z]; omega), hs (w.heap.size + 1 + 1 + 1 + 1) (.deferred (some [])) (((((w.alloc (.cells #[.bool false] 4)).alloc (.cells #[.slice none 0 0] 23)).alloc (.cells #[.int .i64 0] 24)).alloc (.cells #[.slice none 0 0] 23)).alloc (.cells #[stv s] 9)) (by simp only [z]; omega)]
    have h := hn ((((w.alloc (.cells #[.bool false] 4)).alloc (.cells #[.slice none 0 0] 23)).alloc (.cells #[.int .i64 0] 24)).alloc (.cells #[.slice none 0 0] 23)) (.cells #[stv s] 9)
    simpa only [z] using h
  have f5 : (((((((w.alloc (.cells #[.bool false] 4)).alloc (.cells #[.slice none 0 0] 23)).alloc (.cells #[.int .i64 0] 24)).alloc (.cells #[.slice none 0 0] 23)).alloc (.cells #[stv s] 9)).alloc (.deferred (some []))).alloc (.loop R)).heap[w.heap.size + 1 + 1 + 1 + 1 + 1]? = some (.deferred (some [])) := by
    rw [hs (w.heap.size + 1 + 1 + 1 + 1 + 1) (.loop R) ((((((w.alloc (.cells #[.bool false] 4)).alloc (.cells #[.slice none 0 0] 23)).alloc (.cells #[.int .i64 0] 24)).alloc (.cells #[.slice none 0 0] 23)).alloc (.cells #[stv s] 9)).alloc (.deferred (some []))) (by simp only [z]; omega)]
    have h := hn (((((w.alloc (.cells #[.bool false] 4)).alloc (.cells #[.slice none 0 0] 23)).alloc (.cells #[.int .i64 0] 24)).alloc (.cells #[.slice none 0 0] 23)).alloc (.cells #[stv s] 9)) (.deferred (some []))
    simpa only [z] using h
  have f6 : (((((((w.alloc (.cells #[.bool false] 4)).alloc (.cells #[.slice none 0 0] 23)).alloc (.cells #[.int .i64 0] 24)).alloc (.cells #[.slice none 0 0] 23)).alloc (.cells #[stv s] 9)).alloc (.deferred (some []))).alloc (.loop R)).heap[w.heap.size + 1 + 1 + 1 + 1 + 1 + 1]? = some (.loop R) := by
    have h := hn ((((((w.alloc (.cells #[.bool false] 4)).alloc (.cells #[.slice none 0 0] 23)).alloc (.cells #[.int .i64 0] 24)).alloc (.cells #[.slice none 0 0] 23)).alloc (.cells #[stv s] 9)).alloc (.deferred (some []))) (.loop R)
    simpa only [z] using h
  exact ⟨f0, f1, f2, ⟨_, f3, World.ownsRow_nil _ _ _ _⟩, f4, f5, f6, (((((((Below.refl _ w).alloc (Nat.le_refl _) _).alloc (by simp only [z]; omega) _).alloc (by simp only [z]; omega) _).alloc (by simp only [z]; omega) _).alloc (by simp only [z]; omega) _).alloc (by simp only [z]; omega) _).alloc (by simp only [z]; omega) _⟩

theorem info9t : (Tryd.prog.info? 9).map (fun i => (i.zero, i.size, i.bytes)) = some (some (.string ⟨#[]⟩), 1, 16) := by kernel_rfl

theorem enters_of43 : ∀ args w, (callFunc 43 args).run Tryd.prog w = .ok (.enter 43 args) w := enters_of Tryd.func43 (by kernel_rfl) rfl


theorem SpJ.append {w : World} {R : Loop} {k : Int} {p x : List UInt8} {ns : List (List UInt8)} {W w1 : World} {v v' : Value} {tmp : Obj} (h : SpJ w R k p ns W) (hv : Boxed W (w.heap.size + 1 + 1 + 1) 23 v) (hrow : W.ownsRow (w.heap.size + 7) 9 1 v ns.length (ns.map stv))
    (hown' : w1.ownsRow (w.heap.size + 7) 9 1 v' (ns.length + 1) (ns.map stv ++ [stv x])) (hgrow : (W.alloc tmp).grownBy w1 v.ownBlock) : Boxed w1 (w.heap.size + 1 + 1 + 1) 23 v ∧ SpJ w R k p (ns ++ [x]) (w1.setCell ⟨w.heap.size + 1 + 1 + 1, 0, none⟩ v') := by
  have hsz : w.heap.size + 7 ≤ W.heap.size := by have := (Array.getElem?_eq_some_iff.1 h.b6).1; omega
  obtain ⟨hv1, hv2, hr2, _, hb2⟩ := hv.appended (n₀ := w.heap.size + 1 + 1 + 1) (e := 9) (size := 1) (by decide) ⟨hrow.1, hrow.2.imp id fun ⟨g, cap, cur, a, b, c⟩ => ⟨g, cap, cur, a, by omega, c⟩⟩ (by omega) (Nat.le_refl _)
    ⟨hown'.1, hown'.2.imp id fun ⟨g, cap, cur, a, b, c⟩ => ⟨g, cap, cur, a, by omega, c⟩⟩ hgrow
  have hne : ∀ j, j < w.heap.size + 7 → some j ≠ v.ownBlock := fun j hj e => by
    rcases hrow.2 with ⟨rfl, _⟩ | ⟨g, cap, cur, rfl, hb, _, _⟩
    · simp [Value.ownBlock] at e
    · simp [Value.ownBlock] at e; omega
  have keep : ∀ j, j < w.heap.size + 7 → j ≠ w.heap.size + 1 + 1 + 1 → (w1.setCell ⟨w.heap.size + 1 + 1 + 1, 0, none⟩ v').heap[j]? = W.heap[j]? := fun j hj hn => by
    rw [Below.heap_setCell _ _ _ _ (by show j ≠ w.heap.size + 1 + 1 + 1; exact hn), hgrow.block j (by simp; omega) (hne j hj)]
    exact Below.heap_alloc W tmp j (by omega)
  have hr3 : (w1.setCell ⟨w.heap.size + 1 + 1 + 1, 0, none⟩ v').ownsRow (w.heap.size + 7) 9 1 v' (ns ++ [x]).length ((ns ++ [x]).map stv) := by
    have := ownsRow_setCell_below hown' (a := ⟨w.heap.size + 1 + 1 + 1, 0, none⟩) (by show w.heap.size + 1 + 1 + 1 < _; omega) v'
    simpa using this
  exact ⟨hv1, (keep _ (by omega) (by omega)).trans h.b0, (keep _ (by omega) (by omega)).trans h.b1, (keep _ (by omega) (by omega)).trans h.b2, ⟨v', hv2, hr3⟩, (keep _ (by omega) (by omega)).trans h.b4, (keep _ (by omega) (by omega)).trans h.b5, (keep _ (by omega) (by omega)).trans h.b6,
    h.below.trans (hb2.mono (by omega))⟩

theorem SpJ.err {w : World} {R : Loop} {p : List UInt8} {ns : List (List UInt8)} {W : World} (h : SpJ w R 0 p ns W) :
    SpJ w R 4 p ns (((W.setCell ⟨w.heap.size, 0, none⟩ (.bool false)).setCell ⟨w.heap.size + 1, 0, none⟩ (.slice none 0 0)).setCell ⟨w.heap.size + 1 + 1, 0, none⟩ (.int .i64 4)) where
  b0 := boxed_other (boxed_other (h.b0.set _) (by omega)) (by omega)
  b1 := boxed_other ((boxed_other h.b1 (by omega)).set _) (by omega)
  b2 := (boxed_other (boxed_other h.b2 (by omega)) (by omega)).set _
  b3 := by obtain ⟨v, h1, h2⟩ := h.b3; exact ⟨v, boxed_other (boxed_other (boxed_other h1 (by omega)) (by omega)) (by omega), ownsRow_setCell_below (ownsRow_setCell_below (ownsRow_setCell_below h2 (by show w.heap.size < _; omega) _) (by show w.heap.size + 1 < _; omega) _) (by show w.heap.size + 1 + 1 < _; omega) _⟩
  b4 := boxed_other (boxed_other (boxed_other h.b4 (by omega)) (by omega)) (by omega)
  b5 := (Below.heap_setCell _ ⟨w.heap.size + 1 + 1, 0, none⟩ _ _ (by show _ ≠ w.heap.size + 1 + 1; omega)).trans ((Below.heap_setCell _ ⟨w.heap.size + 1, 0, none⟩ _ _ (by show _ ≠ w.heap.size + 1; omega)).trans ((Below.heap_setCell W ⟨w.heap.size, 0, none⟩ _ _ (by show _ ≠ w.heap.size; omega)).trans h.b5))
  b6 := (Below.heap_setCell _ ⟨w.heap.size + 1 + 1, 0, none⟩ _ _ (by show _ ≠ w.heap.size + 1 + 1; omega)).trans ((Below.heap_setCell _ ⟨w.heap.size + 1, 0, none⟩ _ _ (by show _ ≠ w.heap.size + 1; omega)).trans ((Below.heap_setCell W ⟨w.heap.size, 0, none⟩ _ _ (by show _ ≠ w.heap.size; omega)).trans h.b6))
  below := ((h.below.setCell (p := ⟨w.heap.size, 0, none⟩) (Nat.le_refl _) _).setCell (p := ⟨w.heap.size + 1, 0, none⟩) (by show _ ≤ w.heap.size + 1; omega) _).setCell (p := ⟨w.heap.size + 1 + 1, 0, none⟩) (by show _ ≤ w.heap.size + 1 + 1; omega) _

theorem load_box {W : World} {B t : Nat} {v : Value} (h : Boxed W B t v) (ty : TypeId) (ha : ∀ w, (isAgg ty).run Tryd.prog w = .ok false w) : (loadVar ty ⟨B, 0, none⟩).run Tryd.prog W = .ok v W := by
  have hc := h.cell
  simp [loadVar, ha, load, Sem.run, hc]

theorem res9 {tmps : Array Value} {W : World} {B : Nat} {v0 v1 v2 : Value} (h2 : tmps[2]? = some (.pointer (some ⟨B, 0, none⟩))) (h3 : tmps[3]? = some (.pointer (some ⟨B + 1, 0, none⟩))) (h4 : tmps[4]? = some (.pointer (some ⟨B + 1 + 1, 0, none⟩)))
    (b0 : Boxed W B 4 v0) (b1 : Boxed W (B + 1) 23 v1) (b2 : Boxed W (B + 1 + 1) 24 v2) : (results Tryd.f9 tmps).run Tryd.prog W = .ok (.tuple #[v0, v1, v2]) W := by
  have e0 := load_box b0 4 Tryd.isAgg4
  have e1 := load_box b1 23 Tryd.isAgg23
  have e2 := load_box b2 24 Tryd.isAgg24
  have hr : Tryd.f9.results = #[.cell 2 4, .cell 3 23, .cell 4 24] := rfl
  simp only [results, hr]
  simp [h2, h3, h4, asAddr, e0, e1, e2]

theorem three (w : World) (v0 v1 v2 : Value) : Boxed (((w.alloc (.cells #[v0] 4)).alloc (.cells #[v1] 23)).alloc (.cells #[v2] 24)) w.heap.size 4 v0 ∧ Boxed (((w.alloc (.cells #[v0] 4)).alloc (.cells #[v1] 23)).alloc (.cells #[v2] 24)) (w.heap.size + 1) 23 v1 ∧
    Boxed (((w.alloc (.cells #[v0] 4)).alloc (.cells #[v1] 23)).alloc (.cells #[v2] 24)) (w.heap.size + 1 + 1) 24 v2 ∧ Below w.heap.size w (((w.alloc (.cells #[v0] 4)).alloc (.cells #[v1] 23)).alloc (.cells #[v2] 24)) := by
  have z : ∀ (W : World) (o : Obj), (W.alloc o).heap.size = W.heap.size + 1 := fun W o => World.size_alloc ..
  have hs : ∀ (k : Nat) (o : Obj) (W : World), k < W.heap.size → (W.alloc o).heap[k]? = W.heap[k]? := fun k o W h => Below.heap_alloc W o k h
  have a0 := World.alloc_heap_new w (.cells #[v0] 4)
  have a1 := World.alloc_heap_new (w.alloc (.cells #[v0] 4)) (.cells #[v1] 23)
  have a2 := World.alloc_heap_new ((w.alloc (.cells #[v0] 4)).alloc (.cells #[v1] 23)) (.cells #[v2] 24)
  simp only [z] at a1 a2
  refine ⟨?_, ?_, a2, (((Below.refl _ w).alloc (Nat.le_refl _) _).alloc (by rw [z]; omega) _).alloc (by rw [z, z]; omega) _⟩
  · show _ = _
    rw [hs _ _ _ (by rw [z, z]; omega), hs _ _ _ (by rw [z]; omega)]
    exact a0
  · show _ = _
    rw [hs _ _ _ (by rw [z, z]; omega)]
    exact a1

theorem boxed_put {W : World} {B t l : Nat} {v : Value} {o : Obj} (h : Boxed W B t v) (hne : B ≠ l) : Boxed (W.putObj l o) B t v := (World.putObj_heap_other (by omega)).trans h
theorem below_put {n l : Nat} (W : World) (o : Obj) (h : n ≤ l) : Below n W (W.putObj l o) := ⟨rfl, rfl, rfl, by simp, fun k hk => World.putObj_heap_other (by omega)⟩

theorem ownsRow_drew {W : World} {base : Nat} {e : TypeId} {size : Nat} {v : Value} {n : Nat} {xs : List Value} (h : W.ownsRow base e size v n xs) : W.drew.ownsRow base e size v n xs := h

theorem SpJ.fin {w : World} {R : Loop} {p : List UInt8} {ns : List (List UInt8)} {W : World} {v3 : Value} (h : SpJ w R 0 p ns W) (hrow : W.ownsRow (w.heap.size + 7) 9 1 v3 ns.length (ns.map stv)) (b : Bool) :
    Boxed (((W.setCell ⟨w.heap.size, 0, none⟩ (.bool b)).setCell ⟨w.heap.size + 1, 0, none⟩ v3).setCell ⟨w.heap.size + 1 + 1, 0, none⟩ (.int .i64 0)).drew w.heap.size 4 (.bool b) ∧
    Boxed (((W.setCell ⟨w.heap.size, 0, none⟩ (.bool b)).setCell ⟨w.heap.size + 1, 0, none⟩ v3).setCell ⟨w.heap.size + 1 + 1, 0, none⟩ (.int .i64 0)).drew (w.heap.size + 1) 23 v3 ∧
    Boxed (((W.setCell ⟨w.heap.size, 0, none⟩ (.bool b)).setCell ⟨w.heap.size + 1, 0, none⟩ v3).setCell ⟨w.heap.size + 1 + 1, 0, none⟩ (.int .i64 0)).drew (w.heap.size + 1 + 1) 24 (.int .i64 0) ∧
    (((W.setCell ⟨w.heap.size, 0, none⟩ (.bool b)).setCell ⟨w.heap.size + 1, 0, none⟩ v3).setCell ⟨w.heap.size + 1 + 1, 0, none⟩ (.int .i64 0)).drew.heap[w.heap.size + 1 + 1 + 1 + 1 + 1]? = some (.deferred (some [])) ∧
    (((W.setCell ⟨w.heap.size, 0, none⟩ (.bool b)).setCell ⟨w.heap.size + 1, 0, none⟩ v3).setCell ⟨w.heap.size + 1 + 1, 0, none⟩ (.int .i64 0)).drew.ownsRow (w.heap.size + 7) 9 1 v3 ns.length (ns.map stv) ∧
    Below w.heap.size w (((W.setCell ⟨w.heap.size, 0, none⟩ (.bool b)).setCell ⟨w.heap.size + 1, 0, none⟩ v3).setCell ⟨w.heap.size + 1 + 1, 0, none⟩ (.int .i64 0)).drew := by
  refine ⟨boxed_other (boxed_other (h.b0.set _) (by omega)) (by omega), boxed_other ((boxed_other h.b1 (by omega)).set _) (by omega), (boxed_other (boxed_other h.b2 (by omega)) (by omega)).set _, ?_, ?_, ?_⟩
  · exact (Below.heap_setCell _ ⟨w.heap.size + 1 + 1, 0, none⟩ _ _ (by show _ ≠ w.heap.size + 1 + 1; omega)).trans ((Below.heap_setCell _ ⟨w.heap.size + 1, 0, none⟩ _ _ (by show _ ≠ w.heap.size + 1; omega)).trans ((Below.heap_setCell W ⟨w.heap.size, 0, none⟩ _ _ (by show _ ≠ w.heap.size; omega)).trans h.b5))
  · exact ownsRow_drew (ownsRow_setCell_below (ownsRow_setCell_below (ownsRow_setCell_below hrow (by show w.heap.size < _; omega) _) (by show w.heap.size + 1 < _; omega) _) (by show w.heap.size + 1 + 1 < _; omega) _)
  · exact Below.drew (((h.below.setCell (p := ⟨w.heap.size, 0, none⟩) (Nat.le_refl _) _).setCell (p := ⟨w.heap.size + 1, 0, none⟩) (by show _ ≤ w.heap.size + 1; omega) _).setCell (p := ⟨w.heap.size + 1 + 1, 0, none⟩) (by show _ ≤ w.heap.size + 1 + 1; omega) _)

/-- What Split leaves. -/
def SpPost (ok : List UInt8 → Bool) (s : List UInt8) (w : World) (e : Ending) (w' : World) : Prop :=
  Below w.heap.size w w' ∧ ((s = [] ∧ e = .returned (.tuple #[.bool false, .slice none 0 0, .int .i64 4])) ∨ (s ≠ [] ∧ 256 < s.length ∧ e = .returned (.tuple #[.bool false, .slice none 0 0, .int .i64 7])) ∨
    (s ≠ [] ∧ s.length ≤ 256 ∧ (partsF s.length s).all ok = false ∧ e = .returned (.tuple #[.bool false, .slice none 0 0, .int .i64 4])) ∨
    (s ≠ [] ∧ s.length ≤ 256 ∧ (partsF s.length s).all ok = true ∧ ∃ v, e = .returned (.tuple #[.bool (s.head? == some 47), v, .int .i64 0]) ∧ w'.ownsRow w.heap.size 9 1 v (partsF s.length s).length ((partsF s.length s).map stv)))

theorem spFinish {n : Nat} {ok : List UInt8 → Bool} {s p : List UInt8} {w W3 : World} {R : Loop} {b : Bool} {v3 : Value} {tmps : Array Value} (h : SpJ w R 0 p (partsF s.length s) W3) (hrow : W3.ownsRow (w.heap.size + 7) 9 1 v3 (partsF s.length s).length ((partsF s.length s).map stv)) (hs0 : s ≠ []) (hs : s.length ≤ 256) (hok : (partsF s.length s).all ok = true)
    (h2 : tmps[2]? = some (.pointer (some ⟨w.heap.size, 0, none⟩))) (h3 : tmps[3]? = some (.pointer (some ⟨w.heap.size + 1, 0, none⟩))) (h4 : tmps[4]? = some (.pointer (some ⟨w.heap.size + 1 + 1, 0, none⟩))) (hb : b = (s.head? == some 47)) :
    bodyPostM Fence.wide n Tryd.prog Tryd.f9 (SpPost ok s w) .ret { tmps, defers := [{ target := .collected (w.heap.size + 1 + 1 + 1 + 1 + 1), args := #[] }] }
      (((W3.setCell ⟨w.heap.size, 0, none⟩ (.bool b)).setCell ⟨w.heap.size + 1, 0, none⟩ v3).setCell ⟨w.heap.size + 1 + 1, 0, none⟩ (.int .i64 0)).drew := by
  obtain ⟨f0, f1, f2, f3, f4, f5⟩ := SpJ.fin h hrow b
  subst hb
  refine ⟨by simp, .inl ⟨_, _, rfl, run_takeDeferred f3, _, res9 h2 h3 h4 (boxed_put f0 (by omega)) (boxed_put f1 (by omega)) (boxed_put f2 (by omega)), f5.trans (below_put _ _ (by omega)), .inr (.inr (.inr ⟨hs0, hs, hok, v3, rfl, ?_⟩))⟩⟩
  have := ownsRow_putObj f4 (.deferred none) f3 rfl
  exact ⟨this.1, this.2.imp id fun ⟨g, cap, cur, a, b, c⟩ => ⟨g, cap, cur, a, by omega, c⟩⟩

set_option maxRecDepth 100000 in
set_option maxHeartbeats 2000000 in
theorem split_in (n : Nat) (hC : ∀ m f args w R, Calls Tryd.prog f args w R → CallsIn Fence.wide m Tryd.prog f args w R) (hall : ∀ f, Fence.wide.fn f) (h9 : Fence.wide.fn 9) (h26 : Fence.wide.fn 26) (h43 : Fence.wide.fn 43) (hro : Fence.wide.round = none) (hn : 3 ≤ n) (ok : List UInt8 → Bool)
    (hcut : ∀ s : List UInt8, s.length ≤ 256 → ∃ f, Contract Tryd.prog 44 [.str s, .str [47]] (.tuple [.str (cutA s), .str (cutB s), .bool f]) []) (hval : ∀ s : List UInt8, s.length ≤ 256 → Contract Tryd.prog 11 [.str s] (.bool (ok s)) []) (s : List UInt8) (w : World) :
    CallsIn Fence.wide n Tryd.prog 9 #[stv s] w (SpPost ok s w) := by
  have h1 : 1 ≤ n := by omega
  refine callsIn_of_wp_marks Tryd.func9 rfl h9 ?_ hro
  simp only [Tryd.ntmps9, stv, List.size_toArray, List.length_cons, List.length_nil, Nat.reduceAdd, Nat.reduceSub, Array.replicate_succ, Array.replicate_zero, List.push_toArray, List.append_toArray, List.nil_append, List.cons_append]
  gi_wp2_with (gi_at_call 26; refine (parts_in Fence.wide (n - 1) h26 hro _ _).mono ?_; rintro e w' ⟨rfl, rfl⟩)
  · obtain ⟨b0, b1, b2, hb⟩ := three w (.bool false) (.slice none 0 0) (.int .i64 4)
    have hs : s = [] := by simpa using ‹s.isEmpty = true›
    exact ⟨_, res9 rfl rfl rfl b0 b1 b2, hb, .inl ⟨hs, rfl⟩⟩
  · obtain ⟨b0, b1, b2, hb⟩ := three w (.bool false) (.slice none 0 0) (.int .i64 7)
    have hs : s ≠ [] := by simpa using ‹s.isEmpty = false›
    exact ⟨_, res9 rfl rfl rfl b0 b1 b2, hb, .inr (.inl ⟨hs, by omega, rfl⟩)⟩
  · refine rangeFunc_rec hro h1 (gf := 43) rfl h43 enters_of43 ?_
    intro fn R hfn hR
    have hst := SpJ.start w s (R .ready none)
    simp only [stv] at hst
    simp only [World.size_alloc] at *
    generalize hW1 : (((((((w.alloc (.cells #[.bool false] 4)).alloc (.cells #[.slice none 0 0] 23)).alloc (.cells #[.int .i64 0] 24)).alloc (.cells #[.slice none 0 0] 23)).alloc (.cells #[.string ⟨s.toArray⟩] 9)).alloc (.deferred (some []))).alloc (.loop (R .ready none))) = W1 at hst ⊢
    have hs : s.length ≤ 256 := by omega
    refine (iter_in Fence.wide (n - 1) hC h43 (hall 44) hro (by omega) (w.heap.size + 1 + 1 + 1 + 1 + 1 + 1) (w.heap.size + 1 + 1 + 1 + 1) (SpJ w (R .ready none) 0) (fun W => ∃ p ns, SpJ w (R .done (some .ret)) 4 p ns W) ok hcut (fun p ns W h => h.b4) (fun p q ns W h => h.setp) (fun p ns W W' h hb => h.keep hb) s hs ?_ W1 hst).mono ?_
    · intro p ns x W hJ hx hns
      refine yield_rec (F := Fence.wide) hR hfn hJ.b6 rfl { tmps := #[.string ⟨s.toArray⟩, undef, .pointer (some ⟨w.heap.size, 0, none⟩), .pointer (some ⟨w.heap.size + 1, 0, none⟩), .pointer (some ⟨w.heap.size + 1 + 1, 0, none⟩), .pointer (some ⟨w.heap.size + 1 + 1 + 1, 0, none⟩), .string ⟨x.toArray⟩, .bool false, .string ⟨s.toArray⟩, .bool false, .bool (decide ((256 : Int) < s.length)), .string ⟨s.toArray⟩, .int .i64 s.length, .bool (decide ((256 : Int) < s.length)), .string ⟨s.toArray⟩, .func (.func 43) #[] #[.pointer (some ⟨w.heap.size + 1 + 1 + 1 + 1, 0, none⟩)], .string ⟨x.toArray⟩, undef, undef, undef, undef, undef, undef, undef, undef, undef, undef, undef], defers := [] } ?assign ?body
      case assign =>
        intro K hK
        simp only [stv]
        gi_wp2
        exact hK
      case body =>
        have h11 : Fence.wide.fn 11 := hall 11
        have hn2 : 1 ≤ n - 1 - 1 := by omega
        have hB := SpJ.putRec (R' := R .busy none) hJ
        obtain ⟨i0, hi, hz0, hz1, hz2⟩ := info_parts info9t
        generalize W.putObj (w.heap.size + 1 + 1 + 1 + 1 + 1 + 1) (.loop (R .busy none)) = Wb at hB ⊢
        gi_wp2_with (first | (gi_at_call 11; refine (CallsIn.inRound _ (hC _ _ _ _ _ (calls_of_contract (hval x hx) (args_str x)))).mono ?_; rintro e w1 ⟨v, rfl, hb1, φ1, Wx, hv⟩; cases hv; have hB1 := hB.keep hb1; have c0 := hB1.b0.cell; have c1 := hB1.b1.cell; have c2 := hB1.b2.cell; have g0 := hB1.b0.frozen; have g1 := hB1.b1.frozen; have g2 := hB1.b2.frozen; obtain ⟨v3, hv3, hrow⟩ := hB1.b3; have c3 := hv3.cell; have g3 := hv3.frozen) | (gi_at_builtin; refine wpListIn_append_own _ rfl _ _ 23 rfl (w.heap.size + 7) 9 i0 (.string ⟨#[]⟩) 1 16 Tryd.underlying23 hi hz0 hz1 hz2 rfl (by decide) _ _ _ rfl (hrow.alloc _) ⟨w1.heap.size, 0, none⟩ 1 1 [.string ⟨x.toArray⟩] rfl rfl (cell_one_new _ _ _) (by simp [Value.oneCell']) (by unfold maxLen; omega) (by omega) (by have := (Array.getElem?_eq_some_iff.1 hB1.b6).1; simp; omega) ?_; intro v' w2 hown' hgrow _; obtain ⟨g', cap', rfl⟩ := ownsRow_succ hown'; obtain ⟨hn1, hB2⟩ := hB1.append hv3 hrow hown' hgrow; have hc1 := hn1.cell; have hf1 := hn1.frozen))
        · rename_i hq
          have hq' : ok x = false := by simpa using hq
          subst hR
          have hE := hB1.err
          exact ⟨hE.b6, hq', _, _, hE.putRec⟩
        · subst hR
          have hq' : ok x = true := by
            have : (!ok x) = false := by assumption
            simpa using this
          exact ⟨hB2.b6, hq', hB2.putRec⟩
    · rintro e W2 ⟨⟨v, rfl⟩, h⟩
      refine ⟨⟨v, rfl⟩, ?_⟩
      have hs0 : s ≠ [] := by simpa using ‹s.isEmpty = false›
      rcases h with ⟨hok, hJ⟩ | ⟨hok, hJ⟩
      · refine ⟨.ready, none, by simp, hJ.b6, ?_⟩
        have hJ' := hJ.putRec (R' := R .exhausted none)
        generalize W2.putObj (w.heap.size + 1 + 1 + 1 + 1 + 1 + 1) (.loop (R .exhausted none)) = W3 at hJ' ⊢
        have c0 := hJ'.b0.cell; have c1 := hJ'.b1.cell; have c2 := hJ'.b2.cell; have g0 := hJ'.b0.frozen; have g1 := hJ'.b1.frozen; have g2 := hJ'.b2.frozen
        obtain ⟨v3, hv3, hrow⟩ := hJ'.b3
        have c3 := hv3.cell
        obtain ⟨c0s, ls, hcs⟩ : ∃ b l, s = b :: l := by
          cases s with
          | nil => exact absurd rfl hs0
          | cons b l => exact ⟨b, l, rfl⟩
        have hz : (0 : Int) < s.length := by rw [hcs]; simp
        obtain ⟨ao, n3, cap3, rfl⟩ : ∃ ao n' cap, v3 = .slice ao n' cap := by
          rcases hrow.2 with ⟨hv, _⟩ | ⟨g, cap, cur, hv, _⟩
          · exact ⟨_, _, _, hv⟩
          · exact ⟨_, _, _, hv⟩
        have mixed : Tryd.prog.follows Departure.mixedOrders = true := by kernel_rfl
        gi_wp2
        gi_region
        gi_wp2
        refine spFinish hJ' hrow hs0 hs hok rfl rfl rfl ?_
        rw [hcs, Bool.eq_iff_iff]
        simp only [beq_iff_eq, List.head?_cons, Option.some.injEq]
        rw [← UInt8.toNat_inj]
        show (c0s.toNat : Int) = 47 ↔ c0s.toNat = 47
        omega
      · obtain ⟨p', ns', hJ⟩ := hJ
        refine ⟨.done, some .ret, by simp, hJ.b6, ?_⟩
        have hJ' := hJ.putRec (R' := R .exhausted (some .ret))
        generalize W2.putObj (w.heap.size + 1 + 1 + 1 + 1 + 1 + 1) (.loop (R .exhausted (some .ret))) = W3 at hJ' ⊢
        gi_wp2
        exact ⟨by simp, .inl ⟨_, _, rfl, run_takeDeferred hJ'.b5, _, res9 rfl rfl rfl (boxed_put hJ'.b0 (by omega)) (boxed_put hJ'.b1 (by omega)) (boxed_put hJ'.b2 (by omega)), hJ'.below.trans (below_put _ _ (by omega)), .inr (.inr (.inl ⟨hs0, hs, hok, rfl⟩))⟩⟩

theorem split_calls (s : List UInt8) (w : World) : Calls Tryd.prog 9 #[stv s] w (SpPost nameOk s w) :=
  callsIn_wide.1 (split_in 3 (fun m f args w R h => callsIn_wide.2 h) (fun _ => trivial) trivial trivial trivial rfl (Nat.le_refl _) nameOk
    (fun s hs => by
      obtain ⟨f, hf⟩ := Cut_eq s (by omega)
      exact ⟨f, contract_of D0_good hf⟩)
    (fun s hs => contract_of D0_good (Valid_eq s)) s w)

theorem tuple_three {φ : Abs.Place} {W : Nat → Prop} {w : World} {a b c : V} {x y z : Value} (h1 : VRel φ W w a x) (h2 : VRel φ W w b y) (h3 : VRel φ W w c z) : VRel φ W w (.tuple [a, b, c]) (.tuple #[x, y, z]) := by
  refine .tuple _ _ rfl fun i d v hd hv => ?_
  match i, hd, hv with
  | 0, hd, hv => simp at hd hv; subst hd; subst hv; exact h1
  | 1, hd, hv => simp at hd hv; subst hd; subst hv; exact h2
  | 2, hd, hv => simp at hd hv; subst hd; subst hv; exact h3
  | i + 3, hd, hv => simp at hd

theorem split_contract (xs : List V) (r : V) (H' : Heap) (hx : splitX xs = some (r, H')) : Contract Tryd.prog 9 xs r H' := fun base Z w cargs I ha => by
  unfold splitX at hx
  split at hx
  case h_2 => cases hx
  rename_i s
  obtain ⟨cv, rfl, hcv⟩ := arg_one ha
  cases hcv
  refine Calls.mono (split_calls s w) fun e w' ⟨hb, hp⟩ => ?_
  have err : ∀ k : Int, e = .returned (.tuple #[.bool false, .slice none 0 0, .int .i64 k]) → ∃ v, e = .returned v ∧ Turns base Z pure0 [] w [] (.tuple [.bool false, .nils, .int .i64 k]) v w' := fun k he =>
    ⟨_, he, turns_below I hb (tuple_three (.bool _) .nils (.int _ _))⟩
  rcases hp with ⟨h1, he⟩ | ⟨h1, h2, he⟩ | ⟨h1, h2, h3, he⟩ | ⟨h1, h2, h3, v, he, hrow⟩
  · rw [if_pos h1] at hx
    cases hx
    exact err 4 he
  · rw [if_neg h1, if_pos h2] at hx
    cases hx
    exact err 7 he
  · rw [if_neg h1, if_neg (by omega), if_neg (by rw [h3]; simp)] at hx
    cases hx
    exact err 4 he
  · rw [if_neg h1, if_neg (by omega), if_pos h3] at hx
    cases hx
    have := own_row (e := 9) (s := 1) (n := (partsF s.length s).length) (es := (partsF s.length s).map V.str) I hb (by omega) (by simp) (.of_mem fun x hx => by
      rw [List.mem_map] at hx
      obtain ⟨y, _, rfl⟩ := hx
      rfl) hrow (fun i j x c hx hc => by
        rw [List.getElem?_map, Option.map_eq_some_iff] at hx
        obtain ⟨y, hy, rfl⟩ := hx
        cases j with
        | succ j => simp [V.cells] at hc
        | zero =>
          simp [V.cells] at hc
          subst hc
          exact ⟨stv y, by simp [hy], rfl, .str y⟩)
    obtain ⟨φ', E⟩ := this
    exact ⟨_, he, φ', E.inv, tuple_three (.bool _) E.rel (.int _ _), E.step, E.len⟩

end Go.Proofs
