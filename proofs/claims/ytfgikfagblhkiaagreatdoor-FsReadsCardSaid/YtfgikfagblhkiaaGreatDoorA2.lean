/- Proved here: part 2 of a sound evaluator for the model: what it computes of a call, the call does. No condition. -/
import Derived.Test.YtfgikfagblhkiaaGreatDoorA1
import Derived.Laws.Strings
import Derived.Laws.Entries
import Derived.Laws.Cells
import Derived.Laws.BytesArg
import Derived.Laws.IdiomStrings
import Derived.Laws.Tables
namespace Go.Abs
open Go.RowKit
set_option linter.unusedVariables false
set_option linter.unusedSimpArgs false

variable {P : Program} {φ : Place} {W : Nat → Prop} {w : World}

mutual
theorem ofVal_ok : ∀ (c : Value), VRel φ W w (ofVal c) c
  | .bool b => by simp only [ofVal]; exact .bool b
  | .int k n => by simp only [ofVal]; exact .int k n
  | .string s => by simp only [ofVal]; exact .str s.data.toList
  | .slice none 0 0 => by simp only [ofVal]; exact .nils
  | .slice none 0 (n + 1) | .slice none (n + 1) _ | .slice (some _) _ _ => by simp only [ofVal]; exact .undef _
  | .map none => by simp only [ofVal]; exact .nilm
  | .pointer none => by simp only [ofVal]; exact .nilx 0 _ rfl
  | .nilFunc => by simp only [ofVal]; exact .nilx 1 _ rfl
  | .nilIface => by simp only [ofVal]; exact .nilx 2 _ rfl
  | .map (some _) => by simp only [ofVal]; exact .undef _
  | .agg ⟨cs⟩ => by
    simp only [ofVal]
    split
    · rename_i h
      refine .agg _ _ (ofVals_ok cs).1 (fun v hv => ?_) (ofVals_ok cs).2
      have := (Array.all_eq_true_iff_forall_mem (xs := (⟨cs⟩ : Array Value))).1 (by simpa using h) v (by simpa using hv)
      cases v <;> simp_all [Value.oneCell']
    · exact .undef _
  | .float .. | .complex .. | .pointer (some _) | .chan _ | .func .. | .iface .. | .tuple _ => by simp only [ofVal]; exact .undef _
theorem ofVals_ok : ∀ (cs : List Value), (ofVals cs).length = cs.length ∧ ∀ (i : Nat) (c : V) (v : Value), (ofVals cs)[i]? = some c → (⟨cs⟩ : Array Value)[i]? = some v → VRel φ W w c v
  | [] => by simp [ofVals]
  | d :: cs => by
    simp only [ofVals]
    refine ⟨by simp [(ofVals_ok cs).1], fun i c v hc hv => ?_⟩
    cases i with
    | zero => simp at hc hv; rw [← hc, ← hv]; exact ofVal_ok d
    | succ i => exact (ofVals_ok cs).2 i c v (by simpa using hc) (by simpa using hv)
end

theorem evO_ok {env : Env} {a : Act} (x : Operand) (h : ∀ t, x = .tmp t → VRel φ W w (env.get t) (a.tmps.getD t undef)) : VRel φ W w (evO env x) (a.eval x) := by
  cases x with
  | tmp t => exact h t rfl
  | const c => exact ofVal_ok c
  | global g => exact .undef _
  | func f => exact .fn f [] #[] rfl (by simp)

theorem run_info {t : TypeId} {i : TypeInfo} (h : P.info? t = some i) (w : World) : (typeInfo t).run P w = .ok i w := by simp [typeInfo, h]
theorem run_size {t : TypeId} {i : TypeInfo} (h : P.info? t = some i) (w : World) : (sizeOf t).run P w = .ok i.size w := by simp [sizeOf, run_info h]
theorem run_isAgg {t : TypeId} {b : Bool} (h : aggT P t = some b) (w : World) : (isAgg t).run P w = .ok b w := by
  unfold aggT at h
  split at h
  · rename_i fs hu; cases h; simp [isAgg, run_underlying hu]
  · rename_i n e hu; cases h; simp [isAgg, run_underlying hu]
  · rename_i d h1 h2 hu
    cases h
    rw [isAgg, Sem.run_bind, run_underlying hu]
    cases d <;> first
      | rfl
      | exact absurd rfl (h1 _)
      | exact absurd rfl (h2 _ _)
  · cases h

theorem info_of_sub {t : TypeId} {e x : V} {off : Nat} (h : sub P t e off = some x) : ∃ i, P.info? t = some i ∧ off + i.size ≤ e.cells.length ∧ x.cells.length = i.size ∧
    (∀ (j : Nat) (c : V), x.cells[j]? = some c → e.cells[off + j]? = some c) ∧ aggT P t = some x.isAgg ∧ (x.isAgg = false → i.size = 1) := by
  unfold sub at h
  cases hi : P.info? t with
  | none => simp [hi] at h
  | some i =>
    simp only [hi, Option.map_some] at h
    split at h
    · rename_i hc
      obtain ⟨rfl, h1, h2⟩ := hc
      cases h
      refine ⟨i, rfl, by omega, h1.symm, fun j c hj => by simpa using hj, h2.symm, fun ha => ?_⟩
      rw [h1]
      cases e <;> first | rfl | simp [V.isAgg] at ha
    · split at h
      · rename_i hle
        have hlen : ((e.cells.drop off).take i.size).length = i.size := by rw [List.length_take, List.length_drop]; omega
        have hat : ∀ (j : Nat) (c : V), ((e.cells.drop off).take i.size)[j]? = some c → e.cells[off + j]? = some c := fun j c hj => by
          rw [List.getElem?_take] at hj
          split at hj
          · rwa [List.getElem?_drop] at hj
          · cases hj
        unfold mk at h
        split at h
        · rename_i hag
          cases h
          exact ⟨i, rfl, hle, hlen, hat, hag, by simp [V.isAgg]⟩
        · rename_i hag
          generalize hl : (e.cells.drop off).take i.size = l at h hlen hat
          match l, h with
          | [c], h =>
            cases hna : c.isAgg with
            | true => simp [hna] at h
            | false =>
              simp [hna] at h
              subst h
              have hcs : c.cells = [c] := by cases c <;> first | rfl | simp [V.isAgg] at hna
              exact ⟨i, rfl, hle, by rw [hcs]; exact hlen, by rw [hcs]; exact hat, by rw [hag, hna], fun _ => by simpa using hlen.symm⟩
          | [], h => simp at h
          | _ :: _ :: _, h => simp at h
        · cases h
      · cases h

theorem size_of_rel {cs : List V} {vs : Array Value} (h : VRel φ W w (.agg cs) (.agg vs)) : cs.length = vs.size ∧ (∀ v ∈ vs.toList, v.oneCell' = true) ∧ ∀ (i : Nat) (c : V) (v : Value), cs[i]? = some c → vs[i]? = some v → VRel φ W w c v := by
  cases h with
  | agg _ _ hl h1 h => exact ⟨hl, h1, h⟩

theorem run_part {t : TypeId} {cs : List V} {vs : Array Value} {off : Nat} {x : V} (h : VRel φ W w (.agg cs) (.agg vs)) (hs : sub P t (.agg cs) off = some x) :
    ∃ v, (part t vs off).run P w = .ok v w ∧ VRel φ W w x v := by
  obtain ⟨hl, h1, hr⟩ := size_of_rel h
  obtain ⟨i, hi, hle, hn, hat, hag, hone⟩ := info_of_sub hs
  have hle' : off + i.size ≤ vs.size := by simpa [V.cells, hl] using hle
  have rel : ∀ (j : Nat) (c : V) (v : Value), x.cells[j]? = some c → vs[off + j]? = some v → VRel φ W w c v := fun j c v hc hv => hr _ _ _ (by simpa [V.cells] using hat j c hc) hv
  cases hx : x.isAgg with
  | true =>
    cases x <;> simp [V.isAgg] at hx
    rename_i xs
    rw [show (V.agg xs).isAgg = true from rfl] at hag
    refine ⟨.agg (vs.extract off (off + i.size)), by simp [part, run_isAgg hag, run_size hi], .agg _ _ (by simp [V.cells] at hn; simp; omega) (fun v hv => h1 v ?_) fun j c v hc hv => rel j c v hc ?_⟩
    · obtain ⟨j, hj⟩ := List.getElem?_of_mem hv
      rw [Array.getElem?_toList, Array.getElem?_extract] at hj
      split at hj
      · exact List.mem_of_getElem? (by rw [Array.getElem?_toList]; exact hj)
      · cases hj
    · rw [Array.getElem?_extract] at hv
      split at hv
      · exact hv
      · cases hv
  | false =>
    rw [hx] at hag
    have h0 := hone hx
    have hlt : off < vs.size := by omega
    refine ⟨vs[off], by simp [part, run_isAgg hag, hlt], ?_⟩
    have hcx : x.cells = [x] := by cases x <;> first | rfl | simp [V.isAgg] at hx
    exact rel 0 x _ (by rw [hcx]; rfl) (by simp [hlt])

/-- Cells in memory that read as those of e. -/
def MemAt (φ : Place) (W : Nat → Prop) (w : World) (a : Addr) (cs : List V) : Prop :=
  ∀ (j : Nat) (c : V), cs[j]? = some c → ∃ v, w.cell? (a.add j) = some v ∧ v.oneCell' = true ∧ VRel φ W w c v

theorem run_loadCells' {a : Addr} {cs : List V} (h : MemAt φ W w a cs) : ∃ vs : Array Value, (loadCells a cs.length).run P w = .ok vs w ∧ cs.length = vs.size ∧ (∀ v ∈ vs.toList, v.oneCell' = true) ∧ ∀ (i : Nat) (c : V) (v : Value), cs[i]? = some c → vs[i]? = some v → VRel φ W w c v := by
  have hex : ∀ j : Nat, ∃ v, j < cs.length → w.cell? (a.add j) = some v ∧ v.oneCell' = true ∧ VRel φ W w (cs[j]?.getD .undef) v := fun j => by
    by_cases hj : j < cs.length
    · obtain ⟨v, h1, h2, h3⟩ := h j cs[j] (List.getElem?_eq_getElem hj)
      exact ⟨v, fun _ => ⟨h1, h2, by simpa [hj] using h3⟩⟩
    · exact ⟨undef, fun h => absurd h hj⟩
  obtain ⟨f, hf⟩ := Classical.axiomOfChoice hex
  refine ⟨((List.range cs.length).map f).toArray, run_loadCells w a cs.length f fun j hj => (hf j hj).1, by simp, fun v hv => ?_, fun i c v hc hv => ?_⟩
  · simp at hv
    obtain ⟨j, hj, rfl⟩ := hv
    exact (hf j hj).2.1
  · have hi := (List.getElem?_eq_some_iff.1 hc).1
    have := (hf i hi).2.2
    rw [hc] at this
    simp [hi] at hv
    rw [← hv]
    exact this

theorem MemAt.sub {a : Addr} {cs cs' : List V} {off : Nat} (h : MemAt φ W w a cs) (hat : ∀ (j : Nat) (c : V), cs'[j]? = some c → cs[off + j]? = some c) : MemAt φ W w (a.add off) cs' := fun j c hj => by
  rw [add_add]; exact h _ _ (hat j c hj)

theorem run_loadVar {t : TypeId} {a : Addr} {e x : V} {off : Nat} (h : MemAt φ W w a e.cells) (hs : sub P t e off = some x) : ∃ v, (loadVar t (a.add off)).run P w = .ok v w ∧ VRel φ W w x v := by
  obtain ⟨i, hi, hle, hn, hat, hag, hone⟩ := info_of_sub hs
  have hm := h.sub hat
  cases hx : x.isAgg with
  | true =>
    cases x <;> simp [V.isAgg] at hx
    rename_i xs
    rw [show (V.agg xs).isAgg = true from rfl] at hag
    obtain ⟨vs, h1, h2, h3, h4⟩ := run_loadCells' (P := P) hm
    rw [hn] at h1
    exact ⟨.agg vs, by simp [loadVar, run_isAgg hag, run_size hi, h1], .agg _ _ h2 h3 h4⟩
  | false =>
    rw [hx] at hag
    have hcx : x.cells = [x] := by cases x <;> first | rfl | simp [V.isAgg] at hx
    obtain ⟨v, h1, _, h3⟩ := hm 0 x (by rw [hcx]; rfl)
    have ha : (a.add off).add 0 = a.add off := by simp [Addr.add]
    rw [ha] at h1
    exact ⟨v, by simp [loadVar, run_isAgg hag, h1], h3⟩

end Go.Abs

namespace Go.Abs
open Go.RowKit
set_option linter.unusedVariables false
set_option linter.unusedSimpArgs false

variable {P : Program}

/-- An operation that comes to a value. -/
def Does (P : Program) (o : Oper) (a : Act) (w : World) (R : Value → World → Prop) : Prop :=
  ∀ (next : Act → World → Prop) (Q : Exit → Act → World → Prop), (∀ v w', R v w' → next (a.put o.dst v) w') → o.wp P a w next Q

theorem Does.run {o : Oper} {a : Act} {w w' : World} {v : Value} {R : Value → World → Prop} (h : (execOp a.eval o).run P w = .ok (.value v) w') (hr : R v w') : Does P o a w R := by
  intro next Q k
  unfold Oper.wp
  rw [h]
  exact k v w' hr

theorem Does.skip {o : Oper} {a : Act} {w w' : World} {R : Value → World → Prop} (h : (execOp a.eval o).run P w = .ok .skip w') (hr : R undef w') : Does P o a w R := by
  intro next Q k
  unfold Oper.wp
  rw [h]
  exact k undef w' hr

theorem Does.mono {o : Oper} {a : Act} {w : World} {R R' : Value → World → Prop} (h : Does P o a w R) (k : ∀ v w', R v w' → R' v w') : Does P o a w R' :=
  fun next Q kk => h next Q fun v w' hr => kk v w' (k v w' hr)

/-- What an operation that writes to no block of the heap leaves: new blocks from lo to hi may be born. -/
structure POK (base : Nat) (Z : Nat → Prop) (φ : Place) (HF : Heap) (w : World) (lo hi : Nat) (x : V) (cv : Value) (φ' : Place) (w' : World) : Prop where
  inv : Inv base Z φ' HF w'
  rel : VRel φ' (Wr φ' HF Z) w' x cv
  step : ∀ h0, Step base h0 φ (Wr φ HF Z) w φ' (Wr φ' HF Z) w'
  same : ∀ b, b < lo ∨ hi ≤ b → φ' b = φ b

section
variable {base : Nat} {Z : Nat → Prop} {φ : Place} {H HF : Heap} {w : World} {lo hi : Nat} {x : V} {cv : Value}

theorem POK.still (I : Inv base Z φ HF w) (h : VRel φ (Wr φ HF Z) w x cv) : POK base Z φ HF w lo hi x cv φ w :=
  ⟨I, h, fun _ => .refl .., fun _ _ => rfl⟩

theorem POK.trans {mid : Nat} {y : V} {cu : Value} {φ1 φ2 : Place} {w1 w2 : World} (h : POK base Z φ HF w lo mid y cu φ1 w1) (k : POK base Z φ1 HF w1 mid hi x cv φ2 w2) (h1 : lo ≤ mid) (h2 : mid ≤ hi) : POK base Z φ HF w lo hi x cv φ2 w2 :=
  ⟨k.inv, k.rel, fun h0 => (h.step h0).trans (k.step h0), fun b hb => (k.same b (by omega)).trans (h.same b (by omega))⟩

/-- Values of the caller's, carried over. -/
theorem POK.keep (I : Inv base Z φ HF w) {y : V} {cu : Value} {φ' : Place} {w' : World} (h : POK base Z φ HF w lo hi x cv φ' w') (k : VRel φ (Wr φ HF Z) w y cu) : VRel φ' (Wr φ' HF Z) w' y cu :=
  k.mono (h.step HF.length).ext (fun _ => I.lt)

theorem cells_rel {W : Nat → Prop} (h : VRel φ W w x cv) (hs : x.storable = true) : cv.cells.size = x.cells.length ∧ (∀ v ∈ cv.cells.toList, v.oneCell' = true) ∧
    ∀ (i : Nat) (c : V) (v : Value), x.cells[i]? = some c → cv.cells[i]? = some v → VRel φ W w c v := by
  have one : ∀ {x : V} {v : Value}, VRel φ W w x v → x.cells = [x] → v.cells = #[v] → v.oneCell' = true → v.cells.size = x.cells.length ∧ (∀ u ∈ v.cells.toList, u.oneCell' = true) ∧
      ∀ (i : Nat) (c : V) (u : Value), x.cells[i]? = some c → v.cells[i]? = some u → VRel φ W w c u := fun {x v} h e1 e2 e3 => by
    rw [e1, e2]
    refine ⟨rfl, by simpa using e3, fun i c u hc hu => ?_⟩
    cases i with
    | zero => simp at hc hu; rw [← hc, ← hu]; exact h
    | succ i => simp at hc
  cases h with
  | undef | tuple => simp [V.storable] at hs
  | agg cs vs hl h1 h => exact ⟨hl.symm, h1, h⟩
  | bool b => exact one (.bool b) rfl rfl rfl
  | int k n => exact one (.int k n) rfl rfl rfl
  | str s => exact one (.str s) rfl rfl rfl
  | nils => exact one .nils rfl rfl rfl
  | nilm => exact one .nilm rfl rfl rfl
  | nilx k v h => exact one (.nilx k cv h) rfl (by rw [(nilVal_one h).2]) (nilVal_one h).1
  | sl es a cap s vals hcap h0 hp hs' hW hc hv => exact one (.sl es a cap s vals hcap h0 hp hs' hW hc hv) rfl rfl rfl
  | slnil => exact one .slnil rfl rfl rfl
  | own b tot off len v hv h0 h1 h2 h3 => exact one (.own b tot off len cv hv h0 h1 h2 h3) rfl (by cases cv <;> first | rfl | simp [Value.oneCell'] at hv) hv
  | ptr b tot i off v hv h1 h2 h3 => exact one (.ptr b tot i off cv hv h1 h2 h3) rfl (by cases cv <;> first | rfl | simp [Value.oneCell'] at hv) hv
  | rop e a vals h0 hW hc hv => exact one (.rop e a vals h0 hW hc hv) rfl rfl rfl
  | mapr ks vs r es clock hW hh h1 h2 hp hq hk hv => exact one (.mapr ks vs r es clock hW hh h1 h2 hp hq hk hv) rfl rfl rfl
  | mapn => exact one .mapn rfl rfl rfl
  | map b v hv h1 h3 => exact one (.map b cv hv h1 h3) rfl (by cases cv <;> first | rfl | simp [Value.oneCell'] at hv) hv
  | fn f cs vs hl h => exact one (.fn f cs vs hl h) rfl rfl rfl
  | meth f cs vs hl h => exact one (.meth f cs vs hl h) rfl rfl rfl
  | view b tot i off len v hv h1 h2 h3 => exact one (.view b tot i off len cv hv h1 h2 h3) rfl (by cases cv <;> first | rfl | simp [Value.oneCell'] at hv) hv

/-- A block of one element is born. -/
theorem box_born {b : Nat} {e : V} {cs : Array Value} {t : TypeId} (I : Inv base Z φ HF w) (hu : φ b = .unborn) (hx : HF[b]? = some (.box e)) (h0 : 0 < e.cells.length) (hl : cs.size = e.cells.length) (h1 : ∀ v ∈ cs.toList, v.oneCell' = true)
    (hr : ∀ (i : Nat) (c : V) (v : Value), e.cells[i]? = some c → cs[i]? = some v → VRel φ (Wr φ HF Z) w c v) (hlo : lo ≤ b) (hhi : b < hi) :
    POK base Z φ HF w lo hi (.ptr b 1 0 0) (.pointer (some ⟨w.heap.size, 0, none⟩)) (upd φ b (.at w.heap.size e.cells.length 1)) (w.alloc (.cells cs t)) := by
  have E := Ext.alloc (h0 := HF.length) (H := HF) (Z := Z) (l := .at w.heap.size e.cells.length 1) (.cells cs t) hu (by intro _ _ _ h; cases h; exact Nat.le_refl _)
  have I' := I.alloc (x := .box e) (s := e.cells.length) (n := 1) (.cells cs t) hu hx ⟨rfl, h0, cs, t, (0, 0), heap_alloc_at w _, by simp [hl], .none _ _, fun i e' he => by
    cases i with
    | succ i => simp at he
    | zero =>
      simp at he
      subst he
      refine ⟨rfl, fun j c hc => ?_⟩
      have hj := (List.getElem?_eq_some_iff.1 hc).1
      have hj' : j < cs.size := by omega
      exact ⟨cs[j], by simp [hj'], h1 _ (by simp), (hr j c _ hc (by simp [hj'])).mono E (fun _ => I.lt)⟩⟩
  refine ⟨I', .ptr _ _ _ _ _ rfl (by simp) (by simp) (fun c s n h => ?_), fun h0 => .alloc _ I.hb hu, fun i hi => upd_ne _ _ (by omega)⟩
  rw [upd_same] at h
  cases h
  exact ⟨Nat.le_refl _, fun _ => by simp⟩

/-- A block of one element is born that tells its type. -/
theorem abox_born {b : Nat} {e : V} {cs : Array Value} {t : TypeId} (I : Inv base Z φ HF w) (hu : φ b = .unborn) (hx : HF[b]? = some (.arr (some t) e.cells.length [e])) (h0 : 0 < e.cells.length) (hl : cs.size = e.cells.length) (h1 : ∀ v ∈ cs.toList, v.oneCell' = true)
    (hr : ∀ (i : Nat) (c : V) (v : Value), e.cells[i]? = some c → cs[i]? = some v → VRel φ (Wr φ HF Z) w c v) (hlo : lo ≤ b) (hhi : b < hi) :
    POK base Z φ HF w lo hi (.ptr b 1 0 0) (.pointer (some ⟨w.heap.size, 0, none⟩)) (upd φ b (.at w.heap.size e.cells.length 1)) (w.alloc (.cells cs t)) := by
  have E := Ext.alloc (h0 := HF.length) (H := HF) (Z := Z) (l := .at w.heap.size e.cells.length 1) (.cells cs t) hu (by intro _ _ _ h; cases h; exact Nat.le_refl _)
  have I' := I.alloc (x := .arr (some t) e.cells.length [e]) (s := e.cells.length) (n := 1) (.cells cs t) hu hx ⟨rfl, rfl, ⟨h0, cs, t, (0, 0), heap_alloc_at w _, by simp [hl], .none _ _, fun i e' he => by
    cases i with
    | succ i => simp at he
    | zero =>
      simp at he
      subst he
      refine ⟨rfl, fun j c hc => ?_⟩
      have hj := (List.getElem?_eq_some_iff.1 hc).1
      have hj' : j < cs.size := by omega
      exact ⟨cs[j], by simp [hj'], h1 _ (by simp), (hr j c _ hc (by simp [hj'])).mono E (fun _ => I.lt)⟩⟩, fun T hT => by cases hT; exact ⟨⟨cs, heap_alloc_at w (.cells cs t), fun _ => by omega⟩, fun _ => Nat.zero_lt_one⟩⟩
  refine ⟨I', .ptr _ _ _ _ _ rfl (by simp) (by simp) (fun c s n h => ?_), fun h0 => .alloc _ I.hb hu, fun i hi => upd_ne _ _ (by omega)⟩
  rw [upd_same] at h
  cases h
  exact ⟨Nat.le_refl _, fun _ => by simp⟩

/-- A slice's block is born: n of its elements from the first on. -/
theorem dat_born {b len cap : Nat} {wr : Bool} {s : Nat} {es : List V} {cs : Array Value} {t : TypeId} {fr : Nat × Nat} (I : Inv base Z φ HF w) (hu : φ b = .unborn) (hx : HF[b]? = some (.dat wr s es)) (h0 : 0 < s) (hl : len ≤ es.length) (hsz : cap * s ≤ cs.size) (hcap : es.length ≤ cap) (hmax : cap ≤ maxLen)
    (hfr : Frz s cs.size fr)
    (hr : ∀ (i : Nat) (e : V), es[i]? = some e → e.cells.length = s ∧ ∀ (j : Nat) (c : V), e.cells[j]? = some c → ∃ v, cs[i * s + j]? = some v ∧ v.oneCell' = true ∧ VRel pure0 (Wr φ HF Z) w c v) (hlo : lo ≤ b) (hhi : b < hi) :
    POK base Z φ HF w lo hi (.own b es.length 0 len) (.slice (some ⟨w.heap.size, 0, none⟩) len cap) (upd φ b (.at w.heap.size s es.length)) (w.alloc (.cells cs t fr)) := by
  have E := Ext.alloc (h0 := HF.length) (H := HF) (Z := Z) (l := .at w.heap.size s es.length) (.cells cs t fr) hu (by intro _ _ _ h; cases h; exact Nat.le_refl _)
  have hh := heap_alloc_at w (.cells cs t fr)
  have I' := I.alloc (x := .dat wr s es) (s := s) (n := es.length) (.cells cs t fr) hu hx ⟨rfl, rfl, h0, cs, t, fr, hh, Nat.le_trans (Nat.mul_le_mul_right _ hcap) hsz, hfr, fun i e he => ⟨(hr i e he).1, fun j c hc => by
    obtain ⟨v, h1, h2, h3⟩ := (hr i e he).2 j c hc
    exact ⟨v, h1, h2, h3.mono0 E⟩⟩⟩
  refine ⟨I', .own _ _ _ _ _ rfl (by omega) (by simp) (by simp) (fun c s' n h => ?_), fun h0 => .alloc _ I.hb hu, fun i hi => upd_ne _ _ (by omega)⟩
  rw [upd_same] at h
  cases h
  exact ⟨Nat.le_refl _, fun _ => ⟨_, cap, t, cs.size, rfl, shape_at hh, by omega, fun _ => by simp, fun _ => ⟨hcap, hsz, hmax⟩⟩⟩

/-- The same of any values. -/
theorem arr_born {b len cap : Nat} {s : Nat} {es : List V} {cs : Array Value} {t : TypeId} {fr : Nat × Nat} (I : Inv base Z φ HF w) (hu : φ b = .unborn) (hx : HF[b]? = some (.arr none s es)) (h0 : 0 < s) (hl : len ≤ es.length) (hsz : cap * s ≤ cs.size) (hcap : es.length ≤ cap) (hmax : cap ≤ maxLen)
    (hfr : Frz s cs.size fr)
    (hr : ∀ (i : Nat) (e : V), es[i]? = some e → e.cells.length = s ∧ ∀ (j : Nat) (c : V), e.cells[j]? = some c → ∃ v, cs[i * s + j]? = some v ∧ v.oneCell' = true ∧ VRel φ (Wr φ HF Z) w c v) (hlo : lo ≤ b) (hhi : b < hi) :
    POK base Z φ HF w lo hi (.own b es.length 0 len) (.slice (some ⟨w.heap.size, 0, none⟩) len cap) (upd φ b (.at w.heap.size s es.length)) (w.alloc (.cells cs t fr)) := by
  have E := Ext.alloc (h0 := HF.length) (H := HF) (Z := Z) (l := .at w.heap.size s es.length) (.cells cs t fr) hu (by intro _ _ _ h; cases h; exact Nat.le_refl _)
  have hh := heap_alloc_at w (.cells cs t fr)
  have I' := I.alloc (x := .arr none s es) (s := s) (n := es.length) (.cells cs t fr) hu hx ⟨rfl, rfl, ⟨h0, cs, t, fr, hh, Nat.le_trans (Nat.mul_le_mul_right _ hcap) hsz, hfr, fun i e he => ⟨(hr i e he).1, fun j c hc => by
    obtain ⟨v, h1, h2, h3⟩ := (hr i e he).2 j c hc
    exact ⟨v, h1, h2, h3.mono E (fun _ => I.lt)⟩⟩⟩, fun T hT => by cases hT⟩
  refine ⟨I', .own _ _ _ _ _ rfl (by omega) (by simp) (by simp) (fun c s' n h => ?_), fun h0 => .alloc _ I.hb hu, fun i hi => upd_ne _ _ (by omega)⟩
  rw [upd_same] at h
  cases h
  exact ⟨Nat.le_refl _, fun _ => ⟨_, cap, t, cs.size, rfl, shape_at hh, by omega, fun _ => by simp, fun _ => ⟨hcap, hsz, hmax⟩⟩⟩

/-- A draw ahead. -/
theorem POK.drewFirst {φ' : Place} {w' : World} (h : POK base Z φ HF w.drew lo hi x cv φ' w') : POK base Z φ HF w lo hi x cv φ' w' :=
  ⟨h.inv, h.rel, fun h0 => Step.drew.trans (h.step h0), h.same⟩

/-- nil made own. -/
theorem ownify_ok {s : Nat} (I : Inv base Z φ HF w) (h : VRel φ (Wr φ HF Z) w x cv) (hle : Le (ownify s x H).2 HF) (hu : ∀ b, H.length ≤ b → b < (ownify s x H).2.length → φ b = .unborn) :
    ∃ φ', POK base Z φ HF w H.length (ownify s x H).2.length (ownify s x H).1 cv φ' w := by
  cases x <;> try exact ⟨φ, .still I h⟩
  by_cases hs : s = 0
  · have e : ownify s .nils H = (.nils, H) := by simp [ownify, hs]
    rw [e]
    exact ⟨φ, .still I h⟩
  · have e : ownify s .nils H = (.own H.length 0 0 0, H ++ [.dat true s []]) := by simp [ownify, hs]
    rw [e] at hle hu ⊢
    have hx : HF[H.length]? = some (.dat _ s []) := (hle.dat (b := H.length) (wr := true) (sz := s) (es := []) (by simp)).choose_spec
    have hb := hu H.length (Nat.le_refl _) (by simp)
    cases h
    refine ⟨upd φ H.length .nil, I.nilBorn hb hx (by omega), .own _ _ _ _ _ rfl (by omega) (by simp) (fun _ => ⟨rfl, rfl⟩) (fun c s n h => ?_), fun h0 => .nil hb, fun i hi => upd_ne _ _ ?_⟩
    · rw [upd_same] at h; cases h
    · have : i ≠ H.length := by simp at hi; omega
      exact this

theorem ownify_len (s : Nat) (x : V) (H : Heap) : H.length ≤ (ownify s x H).2.length := by unfold ownify; split; split; all_goals simp
theorem ownify_le (s : Nat) (x : V) (H : Heap) : Le H (ownify s x H).2 := by unfold ownify; split; split; exact .refl _; exact .append ..; exact .refl _

theorem ownify_storable (s : Nat) (x : V) (H : Heap) (h : x.storable = true) : (ownify s x H).1.storable = true := by unfold ownify; split; split; all_goals simp_all [V.storable]

theorem ownifyL_len : ∀ (ss : List Nat) (cs : List V) (H : Heap), H.length ≤ (ownifyL ss cs H).2.length ∧ (ownifyL ss cs H).1.length = cs.length
  | [], cs, H => by simp [ownifyL]
  | _ :: _, [], H => by simp [ownifyL]
  | s :: ss, c :: cs, H => by
    simp only [ownifyL]
    have h1 := ownify_len s c H
    have h2 := ownifyL_len ss cs (ownify s c H).2
    simp only [List.length_cons]
    omega
theorem ownifyL_le : ∀ (ss : List Nat) (cs : List V) (H : Heap), Le H (ownifyL ss cs H).2
  | [], cs, H => by simp only [ownifyL]; exact .refl H
  | _ :: _, [], H => by simp only [ownifyL]; exact .refl H
  | s :: ss, c :: cs, H => by simp only [ownifyL]; exact (ownify_le s c H).trans (ownifyL_le ss cs _)

theorem ownifyL_ok : ∀ (ss : List Nat) (cs : List V) (H : Heap) (φ : Place) (vs : List Value), Inv base Z φ HF w → cs.length = vs.length → (∀ (i : Nat) (c : V) (v : Value), cs[i]? = some c → vs[i]? = some v → VRel φ (Wr φ HF Z) w c v) →
    Le (ownifyL ss cs H).2 HF → (∀ b, H.length ≤ b → b < (ownifyL ss cs H).2.length → φ b = .unborn) →
    ∃ φ', Inv base Z φ' HF w ∧ (∀ h0, Step base h0 φ (Wr φ HF Z) w φ' (Wr φ' HF Z) w) ∧ (∀ b, b < H.length ∨ (ownifyL ss cs H).2.length ≤ b → φ' b = φ b) ∧
      ∀ (i : Nat) (c : V) (v : Value), (ownifyL ss cs H).1[i]? = some c → vs[i]? = some v → VRel φ' (Wr φ' HF Z) w c v
  | [], cs, H, φ, vs, I, _, hr, _, _ => ⟨φ, I, fun _ => .refl .., fun _ _ => rfl, by simpa [ownifyL] using hr⟩
  | _ :: _, [], H, φ, vs, I, _, hr, _, _ => ⟨φ, I, fun _ => .refl .., fun _ _ => rfl, by simp [ownifyL]⟩
  | s :: ss, c :: cs, H, φ, vs, I, hl, hr, hle, hu => by
    cases vs with
    | nil => simp at hl
    | cons v vs =>
      simp only [ownifyL] at hle hu ⊢
      have hlen := ownifyL_len ss cs (ownify s c H).2
      have hlen1 := ownify_len s c H
      obtain ⟨φ1, h1⟩ := ownify_ok (H := H) (s := s) I (hr 0 c v rfl rfl) ((ownifyL_le ss cs _).trans hle) (fun b hb hb' => hu b hb (by omega))
      obtain ⟨φ2, I2, s2, e2, r2⟩ := ownifyL_ok ss cs (ownify s c H).2 φ1 vs h1.inv (by simpa using hl) (fun i c' v' hc hv => h1.keep I (hr (i + 1) c' v' (by simpa using hc) (by simpa using hv))) hle
        (fun b hb hb' => by rw [h1.same b (by omega)]; exact hu b (by omega) hb')
      refine ⟨φ2, I2, fun h0 => (h1.step h0).trans (s2 h0), fun b hb => (e2 b (by omega)).trans (h1.same b (by omega)), fun i c' v' hc hv => ?_⟩
      cases i with
      | zero =>
        simp at hc hv
        subst hc hv
        exact h1.rel.mono (s2 HF.length).ext (fun b => h1.inv.lt)
      | succ i => exact r2 i c' v' (by simpa using hc) (by simpa using hv)

end

end Go.Abs

namespace Go.Abs
open Go.RowKit
set_option linter.unusedVariables false
set_option linter.unusedSimpArgs false

variable {P : Program}

section
variable {base : Nat} {Z : Nat → Prop} {φ : Place} {H HF : Heap} {w : World} {x : V} {cv : Value}

theorem Row.mem {W : Nat → Prop} {c s i : Nat} {es : List V} {e : V} (h : Row φ W w c s es) (he : es[i]? = some e) : MemAt φ W w ⟨c, i * s, none⟩ e.cells := by
  obtain ⟨h0, cs, t, fr, hh, hsz, hfr, hel⟩ := h
  intro j d hd
  obtain ⟨v, h1, h2, h3⟩ := (hel i e he).2 j d hd
  exact ⟨v, by rw [add_at, cell_at hh]; exact h1, h2, h3⟩

theorem Row.ofPure {W : Nat → Prop} {c s : Nat} {es : List V} (h : Row pure0 W w c s es) : Row φ W w c s es := by
  obtain ⟨h0, cs, t, fr, hh, hsz, hfr, hel⟩ := h
  exact ⟨h0, cs, t, fr, hh, hsz, hfr, fun i e he => ⟨(hel i e he).1, fun j d hd => by
    obtain ⟨v, h1, h2, h3⟩ := (hel i e he).2 j d hd
    exact ⟨v, h1, h2, h3.ofPure⟩⟩⟩

/-- Where a pointer into a live block leads. -/
theorem ptr_live {W0 : Nat → Prop} {b tot i off : Nat} (I : Inv base Z φ HF w) (h : VRel φ W0 w (.ptr b tot i off) cv) (hl : live HF b tot = true) :
    ∃ c s, φ b = .at c s tot ∧ cv = .pointer (some ⟨c, i * s + off, none⟩) := by
  cases h with
  | ptr _ _ _ _ _ hv h1 h2 h3 =>
  cases hb : φ b with
  | unborn => exact absurd hb h1
  | nil => exact absurd hb h2
  | «at» c s n =>
    obtain ⟨y, hy, hr⟩ := I.blk b c s n hb
    have hn : tot = n := by
      simp only [live, hy] at hl
      cases y <;> simp only [BlkRel] at hr <;> simp at hl <;> omega
    exact ⟨c, s, by rw [hn], (h3 c s n hb).2 hn⟩

/-- Where a part of an array in a live block leads. -/
theorem view_live {W0 : Nat → Prop} {b tot i off len : Nat} (I : Inv base Z φ HF w) (h : VRel φ W0 w (.view b tot i off len) cv) (hl : live HF b tot = true) :
    ∃ c s a cap, φ b = .at c s tot ∧ cv = .slice (some a) len cap ∧ len ≤ cap ∧ (0 < len → a = ⟨c, i * s + off, none⟩) := by
  cases h with
  | view _ _ _ _ _ _ hv h1 h2 h3 =>
  cases hb : φ b with
  | unborn => exact absurd hb h1
  | nil => exact absurd hb h2
  | «at» c s n =>
    obtain ⟨y, hy, hr⟩ := I.blk b c s n hb
    have hn : tot = n := by
      simp only [live, hy] at hl
      cases y <;> simp only [BlkRel] at hr <;> simp at hl <;> omega
    obtain ⟨a, cap, h4, h5, h6⟩ := (h3 c s n hb).2 hn
    exact ⟨c, s, a, cap, by rw [hn], h4, h5, h6⟩

theorem live_le {b tot : Nat} (hle : Le H HF) (h : live H b tot = true) : live HF b tot = true := by
  unfold live at *
  split at h
  · rename_i e hx; rw [hle.box hx]; exact h
  · rename_i wr sz es hx; obtain ⟨wr', hx'⟩ := hle.dat hx; rw [hx']; exact h
  · rename_i t sz es hx; rw [hle.arr hx]; exact h
  · cases h

theorem own_live {W0 : Nat → Prop} {b tot off len : Nat} (I : Inv base Z φ HF w) (h : VRel φ W0 w (.own b tot off len) cv) (hl : live HF b tot = true) :
    off + len ≤ tot ∧ ((φ b = .nil ∧ cv = .slice none 0 0 ∧ off = 0 ∧ len = 0) ∨ ∃ c s, φ b = .at c s tot ∧ Geo w c s tot off len cv) := by
  cases h with
  | own _ _ _ _ _ hv h0 h1 h2 h3 =>
  refine ⟨h0, ?_⟩
  cases hb : φ b with
  | unborn => exact absurd hb h1
  | nil =>
    obtain ⟨h4, h5⟩ := h2 hb
    exact .inl ⟨rfl, h5, by omega, by omega⟩
  | «at» c s n =>
    obtain ⟨y, hy, hr⟩ := I.blk b c s n hb
    have hn : tot = n := by
      simp only [live, hy] at hl
      cases y <;> simp only [BlkRel] at hr <;> simp at hl <;> omega
    exact .inr ⟨c, s, by rw [hn], (h3 c s n hb).2 hn⟩

/-- The element that a pointer leads to. -/
def elemAt (H : Heap) (b tot i : Nat) : Option V :=
  match H[b]? with
  | some (.box e) => if tot = 1 ∧ i = 0 then some e else none
  | some (.dat _ _ es) => if es.length = tot then es[i]? else none
  | some (.arr _ _ es) => if es.length = tot then es[i]? else none
  | _ => none

theorem ptr_mem {b tot i off : Nat} {e : V} (I : Inv base Z φ HF w) (h : VRel φ (Wr φ HF Z) w (.ptr b tot i off) cv) (hx : elemAt HF b tot i = some e) :
    ∃ c s, φ b = .at c s tot ∧ cv = .pointer (some ((⟨c, i * s, none⟩ : Addr).add off)) ∧ MemAt φ (Wr φ HF Z) w ⟨c, i * s, none⟩ e.cells := by
  have hl : live HF b tot = true := by
    unfold elemAt at hx
    unfold live
    split at hx <;> first | (split at hx <;> simp_all; done) | simp_all
  obtain ⟨c, s, hb, hcv⟩ := ptr_live I h hl
  refine ⟨c, s, hb, by rw [hcv, add_at], ?_⟩
  obtain ⟨y, hy, hr⟩ := I.blk b c s tot hb
  unfold elemAt at hx
  rw [hy] at hx
  cases y with
  | dat wr sz es =>
    simp only at hx
    split at hx
    · exact (Row.ofPure hr.2.2).mem hx
    · cases hx
  | box e' =>
    simp only at hx
    split at hx
    · rename_i hc
      cases hx
      rw [hc.2]
      exact hr.2.mem rfl
    · cases hx
  | arr t sz es =>
    simp only at hx
    split at hx
    · exact hr.2.2.1.mem hx
    · cases hx
  | map => cases hx
  | dead => cases hx

theorem elemAt_le {b tot i : Nat} {e : V} (hle : Le H HF) (h : elemAt H b tot i = some e) : elemAt HF b tot i = some e := by
  unfold elemAt at *
  split at h
  · rename_i e' hx; rw [hle.box hx]; exact h
  · rename_i wr sz es hx; obtain ⟨wr', hx'⟩ := hle.dat hx; rw [hx']; exact h
  · rename_i t sz es hx; rw [hle.arr hx]; exact h
  · cases h

theorem rop_mem {W : Nat → Prop} {e : V} (h : VRel φ W w (.rop e) cv) : ∃ a, cv = .pointer (some a) ∧ e.cells ≠ [] ∧ ¬ W a.block ∧ MemAt φ W w a e.cells := by
  cases h with
  | rop _ a vals h0 hW hc hv => exact ⟨a, rfl, h0, hW, fun j c hj => ⟨vals j, (hc j c hj).1, (hc j c hj).2, hv j c hj⟩⟩

/-- How a slice that is only read lies. -/
theorem sl_mem {W : Nat → Prop} {es : List V} (h : VRel φ W w (.sl es) cv) : (es = [] ∧ cv = .slice none 0 0) ∨ ∃ a cap s, cv = .slice (some a) es.length cap ∧ es.length ≤ cap ∧ 0 < s ∧ pureL es = true ∧ (es ≠ [] → ¬ W a.block) ∧
    ∀ (i : Nat) (e : V), es[i]? = some e → e.cells.length = s ∧ MemAt φ W w (a.add (i * s)) e.cells := by
  cases h with
  | slnil => exact .inl ⟨rfl, rfl⟩
  | sl _ a cap s vals hcap h0 hp hs hW hc hv => exact .inr ⟨a, cap, s, rfl, hcap, h0, hp, hW, fun i e he => ⟨hs i e he, fun j c hj => ⟨vals (i * s + j), by rw [add_add]; exact (hc i j e c he hj).1, (hc i j e c he hj).2, hv i j e c he hj⟩⟩⟩

theorem flat_at {s : Nat} : ∀ (es : List V), (∀ (i : Nat) (e : V), es[i]? = some e → e.cells.length = s) → ∀ (k : Nat) (c : V), (es.flatMap V.cells)[k]? = some c → ∃ i j e, k = i * s + j ∧ es[i]? = some e ∧ e.cells[j]? = some c
  | [], _, k, c, h => by simp at h
  | e :: es, hs, k, c, h => by
    have h0 : e.cells.length = s := hs 0 e rfl
    rw [List.flatMap_cons, List.getElem?_append] at h
    split at h
    · exact ⟨0, k, e, by omega, rfl, h⟩
    · obtain ⟨i, j, e', h1, h2, h3⟩ := flat_at es (fun i e he => hs (i + 1) e (by simpa using he)) _ c h
      exact ⟨i + 1, j, e', by rw [Nat.add_mul]; omega, by simpa using h2, h3⟩

theorem Row.span {W : Nat → Prop} {c s i m : Nat} {es : List V} (h : Row φ W w c s es) : MemAt φ W w ⟨c, i * s, none⟩ (((es.drop i).take m).flatMap V.cells) := by
  obtain ⟨h0, cs, t, fr, hh, hsz, hfr, hel⟩ := h
  have key : ∀ (k : Nat) (e : V), ((es.drop i).take m)[k]? = some e → es[i + k]? = some e := fun k e he => by
    rw [List.getElem?_take] at he
    split at he
    · rwa [List.getElem?_drop] at he
    · cases he
  intro k d hd
  obtain ⟨i', j, e, h1, h2, h3⟩ := flat_at _ (fun k e he => (hel _ _ (key k e he)).1) k d hd
  obtain ⟨v, p1, p2, p3⟩ := (hel _ _ (key i' e h2)).2 j d h3
  exact ⟨v, by rw [add_at, cell_at hh, ← p1, h1, Nat.add_mul, Nat.add_assoc], p2, p3⟩

theorem r_load {t : TypeId} {y : V} (I : Inv base Z φ HF w) (hle : Le H HF) (h : VRel φ (Wr φ HF Z) w x cv) (hs : loadV P t x H = some y) :
    ∃ v, (Instr.loadAt t cv).run P w = .ok v w ∧ VRel φ (Wr φ HF Z) w y v := by
  cases x with
  | ptr b tot i off =>
    simp only [loadV] at hs
    have sing : ∀ e, elemAt H b tot i = some e → sub P t e off = some y → ∃ v, (Instr.loadAt t cv).run P w = .ok v w ∧ VRel φ (Wr φ HF Z) w y v := fun e he hs' => by
      obtain ⟨c, s, hb, hcv, hm⟩ := ptr_mem I h (elemAt_le hle he)
      obtain ⟨v, h1, h2⟩ := run_loadVar (P := P) hm hs'
      exact ⟨v, by rw [hcv]; simp [Instr.loadAt, Instr.sureAddr, h1], h2⟩
    split at hs
    · rename_i e hx
      split at hs
      · rename_i hc; exact sing e (by unfold elemAt; rw [hx]; simp only; rw [if_pos hc]) hs
      · cases hs
    · rename_i wr sz es hx
      split at hs
      · rename_i hc
        split at hs
        · rename_i e he
          split at hs
          · rename_i v hv; cases hs; exact sing e (by unfold elemAt; rw [hx]; simp only; rw [if_pos hc]; exact he) hv
          · unfold spanV at hs
            split at hs
            · rename_i m et hu
              split at hs
              · rename_i hq
                obtain ⟨rfl, hsz⟩ := hq
                cases hs
                obtain ⟨wr', hx'⟩ := hle.dat hx
                obtain ⟨c, s, hb, hcv⟩ := ptr_live I h (by unfold live; rw [hx']; simpa using hc)
                obtain ⟨yb, hy, hr⟩ := I.blk b c s tot hb
                rw [hx'] at hy
                cases hy
                have hm := (Row.ofPure (φ := φ) hr.2.2).span (i := i) (m := m)
                cases hi : P.info? t with
                | none => simp [hi] at hsz
                | some ti =>
                  simp only [hi, Option.map_some, Option.some.injEq] at hsz
                  obtain ⟨vs, h1, h2, h3, h4⟩ := run_loadCells' (P := P) hm
                  have hag : aggT P t = some true := by unfold aggT; rw [hu]
                  refine ⟨.agg vs, ?_, .agg _ _ h2 h3 h4⟩
                  rw [← hsz] at h1
                  rw [hcv]
                  simp [Instr.loadAt, Instr.sureAddr, loadVar, run_isAgg hag, run_size hi, h1]
              · cases hs
            · cases hs
        · cases hs
      · cases hs
    · rename_i ta sz es hx
      split at hs
      · rename_i hc
        split at hs
        · rename_i e he
          exact sing e (by unfold elemAt; rw [hx]; simp only; rw [if_pos hc]; exact he) hs
        · cases hs
      · cases hs
    · cases hs
  | rop e =>
    simp only [loadV] at hs
    obtain ⟨a, hcv, _, _, hm⟩ := rop_mem h
    obtain ⟨v, h1, h2⟩ := run_loadVar (P := P) hm hs
    have h0 : a.add 0 = a := by simp [Addr.add]
    rw [h0] at h1
    exact ⟨v, by rw [hcv]; simp [Instr.loadAt, Instr.sureAddr, h1], h2⟩
  | _ => simp [loadV] at hs

theorem sub_nonempty {t : TypeId} {e y : V} {off : Nat} (hs : sub P t e off = some y) {i : TypeInfo} (hi : P.info? t = some i) (h0 : i.size ≠ 0) : y.cells ≠ [] := by
  obtain ⟨i', hi', _, hn, _⟩ := info_of_sub hs
  rw [hi] at hi'
  cases hi'
  intro he
  rw [he] at hn
  simp at hn
  omega

theorem rop_sub {W : Nat → Prop} {t : TypeId} {e y : V} {off : Nat} {a : Addr} (hW : ¬ W a.block) (hm : MemAt φ W w a e.cells) (hs : sub P t e off = some y) (hne : y.cells ≠ []) : VRel φ W w (.rop y) (.pointer (some (a.add off))) := by
  obtain ⟨i, hi, hle, hn, hat, _⟩ := info_of_sub hs
  have hm' := hm.sub hat
  have hex : ∀ j : Nat, ∃ v, ∀ c, y.cells[j]? = some c → w.cell? ((a.add off).add j) = some v ∧ v.oneCell' = true ∧ VRel φ W w c v := fun j => by
    cases hj : y.cells[j]? with
    | none => exact ⟨undef, fun c hc => by cases hc⟩
    | some c => obtain ⟨v, hv⟩ := hm' j c hj; exact ⟨v, fun c' hc => by cases hc; exact hv⟩
  obtain ⟨f, hf⟩ := Classical.axiomOfChoice hex
  exact .rop y _ f hne (by rw [add_block]; exact hW) (fun j c hj => ⟨(hf j c hj).1, (hf j c hj).2.1⟩) fun j c hj => (hf j c hj).2.2

theorem rop_self {W : Nat → Prop} {e : V} {a : Addr} (hW : ¬ W a.block) (hm : MemAt φ W w a e.cells) (hne : e.cells ≠ []) : VRel φ W w (.rop e) (.pointer (some a)) := by
  have hex : ∀ j : Nat, ∃ v, ∀ c, e.cells[j]? = some c → w.cell? (a.add j) = some v ∧ v.oneCell' = true ∧ VRel φ W w c v := fun j => by
    cases hj : e.cells[j]? with
    | none => exact ⟨undef, fun c hc => by cases hc⟩
    | some c => obtain ⟨v, hv⟩ := hm j c hj; exact ⟨v, fun c' hc => by cases hc; exact hv⟩
  obtain ⟨f, hf⟩ := Classical.axiomOfChoice hex
  exact .rop e _ f hne hW (fun j c hj => ⟨(hf j c hj).1, (hf j c hj).2.1⟩) fun j c hj => (hf j c hj).2.2

theorem fieldOf_some {t : TypeId} {f : Nat} {fd : Field} (h : fieldOf P t f = some fd) : ∃ fs, P.underlying t = some (.struct fs) ∧ fs[f]? = some fd := by
  unfold fieldOf at h
  split at h
  · rename_i fs hu; exact ⟨fs, hu, h⟩
  · cases h

theorem r_fieldAddr {t : TypeId} {f : Nat} {y : V} (I : Inv base Z φ HF w) (hle : Le H HF) (h : VRel φ (Wr φ HF Z) w x cv) (hs : fieldAddrV P t x f H = some y) :
    ∃ v, (Instr.fieldAt t cv f).run P w = .ok v w ∧ VRel φ (Wr φ HF Z) w y v := by
  unfold fieldAddrV at hs
  split at hs
  · cases hs
  rename_i fd hfd
  obtain ⟨fs, hu, hf⟩ := fieldOf_some hfd
  split at hs
  · cases hs
  rename_i hz
  obtain ⟨ti, hi⟩ : ∃ i, P.info? fd.type = some i := by
    cases hq : P.info? fd.type with
    | none => simp [hq] at hz
    | some i => exact ⟨i, rfl⟩
  have h0 : ti.size ≠ 0 := by simpa [hi] using hz
  have run : ∀ (a : Addr), (Instr.fieldAt t (.pointer (some a)) f).run P w = .ok (.pointer (some (a.add fd.offset))) w := fun a => by
    simp [Instr.fieldAt, run_underlying hu, hf, Instr.sureAddr, fieldPlace, run_size hi, h0]
  cases x with
  | ptr b tot i off =>
    simp only at hs
    split at hs
    · rename_i hl
      cases hs
      obtain ⟨c, s, hb, hcv⟩ := ptr_live I h (live_le hle hl)
      refine ⟨_, by rw [hcv]; exact run _, ?_⟩
      rw [add_at]
      cases h with
      | ptr _ _ _ _ _ hv h1 h2 h3 => exact .ptr _ _ _ _ _ rfl h1 h2 fun c' s' n' hb' => ⟨(h3 _ _ _ hb').1, fun hn => by rw [hb] at hb'; cases hb'; simp [Nat.add_assoc]⟩
    · cases hs
  | rop e =>
    simp only at hs
    obtain ⟨a, hcv, _, hW, hm⟩ := rop_mem h
    cases hsub : sub P fd.type e fd.offset with
    | none => simp [hsub] at hs
    | some e' =>
      simp [hsub] at hs
      subst hs
      exact ⟨_, by rw [hcv]; exact run _, rop_sub hW hm hsub (sub_nonempty hsub hi h0)⟩
  | _ => simp at hs

end

end Go.Abs

namespace Go.Abs
open Go.RowKit
set_option linter.unusedVariables false
set_option linter.unusedSimpArgs false

variable {P : Program}

section
variable {base : Nat} {Z : Nat → Prop} {φ : Place} {H HF : Heap} {w : World} {x y : V} {cv cu : Value} {W : Nat → Prop}

mutual
theorem toVal_ok : ∀ {x : V} {v a : Value}, VRel φ W w x v → toVal x = some a → v = a
  | .bool b, v, a, h, ht => by simp only [toVal] at ht; cases ht; cases h; rfl
  | .int k n, v, a, h, ht => by simp only [toVal] at ht; cases ht; cases h; rfl
  | .str s, v, a, h, ht => by simp only [toVal] at ht; cases ht; cases h; rfl
  | .agg cs, v, a, h, ht => by
    simp only [toVal] at ht
    cases hs : toVals cs with
    | none => simp [hs] at ht
    | some l =>
      simp [hs] at ht
      subst ht
      cases h with
      | agg _ vs hl h1 h =>
        have := toVals_ok (cs := cs) (vs := vs.toList) (l := l) (by simpa using hl) (fun i c v hc hv => h i c v hc (by simpa using hv)) hs
        rw [← this, Array.toArray_toList]
  | .undef, _, _, _, ht | .nils, _, _, _, ht | .nilm, _, _, _, ht | .nilx _, _, _, _, ht | .tuple _, _, _, _, ht | .sl _, _, _, _, ht | .own .., _, _, _, ht | .ptr .., _, _, _, ht | .rop _, _, _, _, ht | .mapr .., _, _, _, ht | .map _, _, _, _, ht | .fn .., _, _, _, ht | .meth .., _, _, _, ht | .view .., _, _, _, ht => by
    simp [toVal] at ht
theorem toVals_ok : ∀ {cs : List V} {vs l : List Value}, cs.length = vs.length → (∀ (i : Nat) (c : V) (v : Value), cs[i]? = some c → vs[i]? = some v → VRel φ W w c v) → toVals cs = some l → vs = l
  | [], vs, l, hl, _, ht => by simp only [toVals] at ht; cases ht; exact List.eq_nil_of_length_eq_zero hl.symm
  | c :: cs, [], l, hl, _, ht => by simp at hl
  | c :: cs, v :: vs, l, hl, hr, ht => by
    simp only [toVals] at ht
    split at ht
    · rename_i a l' h1 h2
      cases ht
      rw [toVal_ok (hr 0 c v rfl rfl) h1, toVals_ok (cs := cs) (vs := vs) (l := l') (by simpa using hl) (fun i c' v' hc hv => hr (i + 1) c' v' (by simpa using hc) (by simpa using hv)) h2]
    · cases ht
end

theorem pureRun_ok {α : Type} : ∀ {s : Sem α} {r : α}, pureRun P s = some r → ∀ w, s.run P w = .ok r w
  | .pure a, r, h, w => by simp only [pureRun] at h; cases h; rfl
  | .program k, r, h, w => by simp only [pureRun] at h; exact pureRun_ok h w
  | .load .., _, h, _ | .store .., _, h, _ | .new .., _, h, _ | .shape .., _, h, _ | .freeze .., _, h, _ | .frozen .., _, h, _ | .getObj .., _, h, _ | .setObj .., _, h, _ | .choose .., _, h, _ | .sys .., _, h, _ | .mark .., _, h, _ | .halt .., _, h, _ => by
    simp [pureRun] at h

theorem r_strOp {op : BinOp} {a b : List UInt8} {z : V} (h : strOp op a b = some z) : ∃ v, (Op.stringOp op ⟨a.toArray⟩ ⟨b.toArray⟩).run P w = .ok v w ∧ VRel φ W w z v := by
  have hsz : ∀ l : List UInt8, (ByteArray.mk l.toArray).size = l.length := fun l => by show l.toArray.size = _; simp
  cases op <;> simp only [strOp] at h <;> try (cases h; done)
  case add =>
    split at h
    · rename_i hr
      cases h
      have : ¬ (((ByteArray.mk a.toArray).size + (ByteArray.mk b.toArray).size : Nat) : Int) > IntKind.i64.max := by
        rw [hsz, hsz]
        simp only [room] at hr
        have : IntKind.i64.max = 9223372036854775807 := rfl
        omega
      refine ⟨.string (⟨a.toArray⟩ ++ ⟨b.toArray⟩), by simp only [Op.stringOp, if_neg this, Sem.run_pure], ?_⟩
      have e : (⟨a.toArray⟩ ++ ⟨b.toArray⟩ : ByteArray) = ⟨(a ++ b).toArray⟩ := by
        apply ByteArray.ext
        simp
      rw [e]
      exact .str _
    · cases h
  all_goals
    cases h
    exact ⟨.bool _, by simp only [Op.stringOp, Sem.run_pure, ByteArray.toList_mk], .bool _⟩

theorem r_int {k : IntKind} {a b : Int} {op : BinOp} {t : TypeId} {z : V} (hs : isShift op = false) (h : intOp op k a b = some z) : ∃ v, (Go.binOp op t (.int k a) (.int k b)).run P w = .ok v w ∧ VRel φ W w z v := by
  cases op <;> simp only [intOp, isShift] at h hs <;> try (cases h; done)
  case quo => split at h; cases h; rename_i hb; cases h; exact ⟨_, by simp [Go.binOp, Op.intDiv, hb], .int _ _⟩
  case rem => split at h; cases h; rename_i hb; cases h; exact ⟨_, by simp [Go.binOp, Op.intDiv, hb], .int _ _⟩
  case add | sub | mul => cases h; exact ⟨_, by simp only [Go.binOp, ne_eq, not_true_eq_false, if_false, Op.intArith, Sem.run_pure], .int _ _⟩
  case and | or | xor | andNot => cases h; exact ⟨_, by simp only [Go.binOp, ne_eq, not_true_eq_false, if_false, Op.intBits, Sem.run_pure], .int _ _⟩
  case eql | neq | lss | leq | gtr | geq => cases h; exact ⟨_, by simp only [Go.binOp, ne_eq, not_true_eq_false, if_false, Op.intCmp, Sem.run_pure], .bool _⟩
  all_goals simp at hs

theorem r_shift {k k' : IntKind} {a b : Int} {op : BinOp} {t : TypeId} {z : V} (hs : isShift op = true) (h : shiftOp op k a b = some z) : ∃ v, (Go.binOp op t (.int k a) (.int k' b)).run P w = .ok v w ∧ VRel φ W w z v := by
  unfold shiftOp at h
  split at h
  · cases h
  rename_i hb
  cases op <;> simp only [isShift] at h hs <;> try (cases hs; done)
  case shl => cases h; exact ⟨_, by simp only [Go.binOp, Op.shift, if_neg hb, Sem.run_pure], .int _ _⟩
  case shr => cases h; exact ⟨_, by simp only [Go.binOp, Op.shift, if_neg hb, Sem.run_pure], .int _ _⟩

theorem eqGuard_int {op : BinOp} {t : TypeId} {ox oy : Operand} {k k' : IntKind} {a b : Int} : (eqGuard op t ox oy (.int k a) (.int k' b)).run P w = .ok () w := by
  unfold eqGuard; split <;> simp
theorem eqGuard_str {op : BinOp} {t : TypeId} {ox oy : Operand} {a b : ByteArray} : (eqGuard op t ox oy (.string a) (.string b)).run P w = .ok () w := by
  unfold eqGuard; split <;> simp
theorem eqGuard_bool {op : BinOp} {t : TypeId} {ox oy : Operand} {a b : Bool} : (eqGuard op t ox oy (.bool a) (.bool b)).run P w = .ok () w := by
  unfold eqGuard; split <;> simp
theorem eqGuard_agg {op : BinOp} {t : TypeId} {ox oy : Operand} {a b : Array Value} (h : P.eqGuardType P.depth t = false) : (eqGuard op t ox oy (.agg a) (.agg b)).run P w = .ok () w := by
  have hp : (program).run P w = .ok P w := rfl
  unfold eqGuard
  cases op <;> simp [hp, h]

theorem run_equalIn_bool {d : Nat} {t : TypeId} {a b : Bool} (hu : P.underlying t = some .bool) : (Op.equalIn (d + 1) t (.bool a) (.bool b)).run P w = .ok (a == b) w := by
  rw [Op.equalIn, Sem.run_bind, run_underlying hu]
  rfl
theorem run_equal_bool {t : TypeId} {a b : Bool} (hu : P.underlying t = some .bool) : (Op.equal t (.bool a) (.bool b)).run P w = .ok (a == b) w := run_equalIn_bool (d := 9999) hu

theorem r_bin {op : BinOp} {t : TypeId} {ox oy : Operand} {z : V} (hx : VRel φ W w x cv) (hy : VRel φ W w y cu) (h : binV P op t x y = some z) :
    ∃ v, (do eqGuard op t ox oy cv cu; Go.binOp op t cv cu : Sem Value).run P w = .ok v w ∧ VRel φ W w z v := by
  unfold binV at h
  split at h
  · rename_i k a k' b
    cases hx; cases hy
    simp only [Sem.run_bind, eqGuard_int, Result.andThen_ok]
    split at h
    · rename_i hs; exact r_shift hs h
    · rename_i hs
      split at h
      · rename_i hk; subst hk; exact r_int (by simpa using hs) h
      · cases h
  · cases hx; cases hy
    simp only [Sem.run_bind, eqGuard_str, Result.andThen_ok]
    obtain ⟨v, h1, h2⟩ := r_strOp (P := P) (w := w) (φ := φ) (W := W) h
    refine ⟨v, ?_, h2⟩
    cases op <;> simp only [strOp] at h <;> first | (cases h; done) | (simpa only [Go.binOp] using h1)
  · cases hx; cases hy
    simp only [Sem.run_bind, eqGuard_bool, Result.andThen_ok]
    split at h
    · rename_i hu
      have hu' : P.underlying t = some .bool := by
        cases hq : P.underlying t with
        | none => rw [hq] at hu; cases hu
        | some d => rw [hq] at hu; cases d <;> first | rfl | cases hu
      cases op <;> simp only at h <;> first | (cases h; done) | skip
      all_goals
        cases h
        exact ⟨.bool _, by simp only [Go.binOp, Sem.run_bind, run_equal_bool hu', Result.andThen_ok, Sem.run_pure], .bool _⟩
    · cases h
  · rename_i asx bs
    split at h <;> first | (cases h; done) | skip
    all_goals
      split at h
      · rename_i a b ha hb
        split at h
        · cases h
        · rename_i hg
          split at h
          · rename_i r hr
            cases h
            have e1 := toVal_ok hx ha
            have e2 := toVal_ok hy hb
            cases hx with
            | agg _ vs hl h1 hh =>
            cases hy with
            | agg _ us hl' h1' hh' =>
            subst e1 e2
            have := pureRun_ok hr w
            simp only [Sem.run_bind, eqGuard_agg (by simpa using hg), Result.andThen_ok]
            first
              | exact ⟨.bool r, by simp only [Go.binOp, Sem.run_bind, this, Result.andThen_ok, Sem.run_pure], .bool _⟩
              | exact ⟨.bool (!r), by simp only [Go.binOp, Sem.run_bind, this, Result.andThen_ok, Sem.run_pure], .bool _⟩
          · cases h
      · cases h
  · cases h

theorem r_un {op : UnOp} {z : V} (hx : VRel φ W w x cv) (h : unV op x = some z) : ∃ v, (Op.unary op cv).run P w = .ok v w ∧ VRel φ W w z v := by
  unfold unV at h
  split at h
  · cases hx; cases h; exact ⟨_, by simp only [Op.unary, Op.intArith, Sem.run_pure], .int _ _⟩
  · cases hx
    simp only [intOp] at h
    cases h
    exact ⟨_, by simp only [Op.unary, Op.intBits, Sem.run_pure], .int _ _⟩
  · cases hx; cases h; exact ⟨_, by simp only [Op.unary, Sem.run_pure], .bool _⟩
  · cases h

theorem r_extract {i : Nat} {vs : List V} {z : V} (hx : VRel φ W w (.tuple vs) cv) (h : vs[i]? = some z) : ∃ v, (Instr.extract cv i).run P w = .ok v w ∧ VRel φ W w z v := by
  cases hx with
  | tuple _ us hl hr =>
    have hi := (List.getElem?_eq_some_iff.1 h).1
    have hi' : i < us.size := by omega
    exact ⟨us[i], by simp [Instr.extract, hi'], hr i z _ h (by simp [hi'])⟩

theorem idx_ok {ix : V} {cx : Value} {n : Nat} (hx : VRel φ W w ix cx) (h : idx? ix = some n) : ∃ k, cx = .int k n := by
  unfold idx? at h
  split at h
  · cases h; cases hx; exact ⟨_, rfl⟩
  · cases h

theorem r_index {t : TypeId} {ix : V} {cx : Value} {z : V} (hx : VRel φ W w x cv) (hi : VRel φ W w ix cx) (h : indexV P t x ix = some z) : ∃ v, (Instr.index t cv cx).run P w = .ok v w ∧ VRel φ W w z v := by
  unfold indexV at h
  split at h
  · cases h
  rename_i n hn
  obtain ⟨k, rfl⟩ := idx_ok hi hn
  split at h
  · rename_i s hu
    cases hx
    cases hb : s[n]? with
    | none => simp [hb] at h
    | some b =>
      simp [hb] at h
      subst h
      refine ⟨.int .u8 b.toNat, ?_, .int _ _⟩
      have hlt := (List.getElem?_eq_some_iff.1 hb).1
      have he : (ByteArray.mk s.toArray)[n]? = some b := by
        have : n < (ByteArray.mk s.toArray).size := by show n < s.toArray.size; simpa using hlt
        rw [ByteArray.getElem?_lt' _ _ this]
        congr 1
        show s.toArray[n]'_ = b
        simpa using (List.getElem?_eq_some_iff.1 hb).2
      simp [Instr.index, asIntOf, run_underlying hu, he]
  · rename_i m e cs hu
    split at h
    · rename_i hlt
      split at h
      · rename_i zi hz
        cases hx with
        | agg _ vs hl h1 hr =>
        obtain ⟨v, h2, h3⟩ := run_part (P := P) (.agg cs vs hl h1 hr) h
        refine ⟨v, ?_, h3⟩
        simp [Instr.index, asIntOf, run_underlying hu, hlt, run_size hz, h2]
      · cases h
    · cases h
  · cases h

theorem r_field {t : TypeId} {f : Nat} {fd : Field} {cs : List V} {z : V} (hx : VRel φ W w (.agg cs) cv) (hf : fieldOf P t f = some fd) (h : sub P fd.type (.agg cs) fd.offset = some z) :
    ∃ v, (Instr.field t cv f).run P w = .ok v w ∧ VRel φ W w z v := by
  obtain ⟨fs, hu, hff⟩ := fieldOf_some hf
  cases hx with
  | agg _ vs hl h1 hr =>
  obtain ⟨v, h2, h3⟩ := run_part (P := P) (.agg cs vs hl h1 hr) h
  exact ⟨v, by simp [Instr.field, run_underlying hu, hff, asAgg, h2], h3⟩

end

end Go.Abs

namespace Go.Abs
open Go.RowKit
set_option linter.unusedVariables false
set_option linter.unusedSimpArgs false

variable {P : Program}

section
variable {base : Nat} {Z : Nat → Prop} {φ : Place} {H HF : Heap} {w : World} {x y : V} {cv cu : Value} {W : Nat → Prop}

theorem r_indexAddr {t : TypeId} {ix : V} {cx : Value} {z : V} (I : Inv base Z φ HF w) (hle : Le H HF) (hx : VRel φ (Wr φ HF Z) w x cv) (hi : VRel φ (Wr φ HF Z) w ix cx) (h : indexAddrV P t x ix H = some z) :
    ∃ v, (Instr.indexAt t cv cx).run P w = .ok v w ∧ VRel φ (Wr φ HF Z) w z v := by
  unfold indexAddrV at h
  split at h
  · cases h
  rename_i n hn
  obtain ⟨k, rfl⟩ := idx_ok hi hn
  split at h
  · rename_i m e b tot j off hu
    split at h
    · rename_i hc
      obtain ⟨hlt, hl⟩ := hc
      cases hz : P.info? e with
      | none => simp [hz] at h
      | some zi =>
        simp [hz] at h
        subst h
        obtain ⟨c, s, hb, hcv⟩ := ptr_live I hx (live_le hle hl)
        refine ⟨.pointer (some ((⟨c, j * s + off, none⟩ : Addr).add (n * zi.size))), ?_, ?_⟩
        · rw [hcv]
          simp [Instr.indexAt, asIntOf, run_underlying hu, Instr.sureAddr, hlt, run_size hz]
        · rw [add_at]
          cases hx with
          | ptr _ _ _ _ _ hv h1 h2 h3 => exact .ptr _ _ _ _ _ rfl h1 h2 fun c' s' n' hb' => ⟨(h3 _ _ _ hb').1, fun hn => by rw [hb] at hb'; cases hb'; simp [Nat.add_assoc]⟩
    · cases h
  · rename_i m e v hu
    split at h
    · rename_i zi hz
      split at h
      · rename_i hc
        obtain ⟨hlt, h0⟩ := hc
        cases hs : sub P e v (n * zi.size) with
        | none => simp [hs] at h
        | some y =>
          simp [hs] at h
          subst h
          obtain ⟨a, hcv, hne, hW, hm⟩ := rop_mem hx
          refine ⟨.pointer (some (a.add (n * zi.size))), ?_, rop_sub hW hm hs (sub_nonempty hs hz h0)⟩
          rw [hcv]
          simp [Instr.indexAt, asIntOf, run_underlying hu, Instr.sureAddr, hlt, run_size hz]
      · cases h
    · cases h
  · rename_i u es hu
    split at h
    · rename_i e zi he hz
      split at h
      · rename_i hc
        cases h
        have hlt := (List.getElem?_eq_some_iff.1 he).1
        rcases sl_mem hx with ⟨rfl, _⟩ | ⟨a, cap, s, hcv, hcap, h0, hp, hW, hel⟩
        · simp at he
        · obtain ⟨h1, hm⟩ := hel n e he
          have hne : es ≠ [] := by rintro rfl; simp at he
          have hs : s = zi.size := by omega
          subst hs
          refine ⟨.pointer (some (a.add (n * zi.size))), ?_, rop_self (by rw [add_block]; exact hW hne) hm (by intro hh; rw [hh] at h1; simp at h1; omega)⟩
          rw [hcv]
          simp [Instr.indexAt, asIntOf, run_underlying hu, hlt, run_size hz]
      · cases h
    · cases h
  · rename_i u b tot off len hu
    split at h
    · rename_i wr sz es zi hb hz
      split at h
      · rename_i hc
        obtain ⟨hlt, ht, hsz⟩ := hc
        cases h
        subst hsz
        obtain ⟨wr', hb'⟩ := hle.dat hb
        obtain ⟨h0, hr⟩ := own_read I hb' ht hx
        rcases hr with ⟨_, rfl, _⟩ | ⟨c, hl, hrow, hg⟩
        · simp at ht; omega
        · obtain ⟨a, cap, t', z', rfl, hsh, hcap, ha, _⟩ := hg
          refine ⟨.pointer (some (a.add (n * zi.size))), by simp [Instr.indexAt, asIntOf, run_underlying hu, hlt, run_size hz], ?_⟩
          rw [ha (.inl (by omega)), add_at]
          refine .ptr _ _ _ _ _ rfl (by rw [hl]; simp) (by rw [hl]; simp) fun c' s' n' hb'' => ?_
          rw [hl] at hb''
          cases hb''
          exact ⟨Nat.le_refl _, fun _ => by simp [Nat.add_mul]⟩
      · cases h
    · rename_i ta sz es zi hb hz
      split at h
      · rename_i hc
        obtain ⟨hlt, ht, hsz⟩ := hc
        cases h
        subst hsz
        obtain ⟨h0, hr⟩ := own_readA I (hle.arr hb) ht hx
        rcases hr with ⟨_, rfl, _⟩ | ⟨c, hl, hrow, hg, _⟩
        · simp at ht; omega
        · obtain ⟨a, cap, t', z', rfl, hsh, hcap, ha, _⟩ := hg
          refine ⟨.pointer (some (a.add (n * zi.size))), by simp [Instr.indexAt, asIntOf, run_underlying hu, hlt, run_size hz], ?_⟩
          rw [ha (.inl (by omega)), add_at]
          refine .ptr _ _ _ _ _ rfl (by rw [hl]; simp) (by rw [hl]; simp) fun c' s' n' hb'' => ?_
          rw [hl] at hb''
          cases hb''
          exact ⟨Nat.le_refl _, fun _ => by simp [Nat.add_mul]⟩
      · cases h
    · cases h
  · rename_i u b tot j off len hu
    split at h
    · rename_i zi hz
      split at h
      · rename_i hc
        obtain ⟨hlt, hsz, hl⟩ := hc
        cases h
        obtain ⟨c, s, a, cap, hp, rfl, hcap, ha⟩ := view_live I hx (live_le hle hl)
        refine ⟨.pointer (some (a.add (n * zi.size))), by simp [Instr.indexAt, asIntOf, run_underlying hu, hlt, run_size hz], ?_⟩
        rw [ha (by omega), add_at, hsz]
        refine .ptr _ _ _ _ _ rfl (by rw [hp]; simp) (by rw [hp]; simp) fun c' s' n' hb'' => ?_
        rw [hp] at hb''
        cases hb''
        exact ⟨Nat.le_refl _, fun _ => by simp [Nat.add_assoc]⟩
      · cases h
    · cases h
  · cases h

theorem Inv.own (I : Inv base Z φ HF w) {b c s n : Nat} (h : φ b = .at c s n) : True := trivial

/-- len -/
theorem r_len {t ty : TypeId} {z : V} (I : Inv base Z φ HF w) (hle : Le H HF) (hx : VRel φ (Wr φ HF Z) w x cv) (h : lenT P t x H = some z) :
    ∃ v, (Builtin.len_ #[t] ty #[cv]).run P w = .ok v w ∧ VRel φ (Wr φ HF Z) w z v := by
  unfold lenT at h
  split at h
  · rename_i hu
    split at h
    · rename_i s
      cases h
      cases hx
      refine ⟨goInt s.length, ?_, .int _ _⟩
      have : (ByteArray.mk s.toArray).size = s.length := by show s.toArray.size = _; simp
      simp [Builtin.len_, run_underlying hu, this]
    · cases h
  · rename_i e hu
    have run : ∀ a n c, (Builtin.len_ #[t] ty #[.slice a n c]).run P w = .ok (goInt n) w := fun a n c => by simp [Builtin.len_, run_underlying hu]
    split at h
    · rename_i es
      simp only [lenV, Option.map_some] at h
      cases h
      rcases sl_mem hx with ⟨rfl, rfl⟩ | ⟨a, cap, s, rfl, _⟩ <;> exact ⟨_, run _ _ _, .int _ _⟩
    · simp only [lenV, Option.map_some] at h
      cases h
      cases hx
      exact ⟨_, run _ _ _, .int _ _⟩
    · rename_i b tot off len
      simp only [lenV] at h
      split at h
      · rename_i hl
        simp at h
        subst h
        obtain ⟨h0, hr⟩ := own_live I hx (live_le hle hl)
        rcases hr with ⟨_, rfl, rfl, rfl⟩ | ⟨c, s, _, a, cap, t', z', rfl, _⟩ <;> exact ⟨_, run _ _ _, .int _ _⟩
      · simp at h
    · rename_i b tot i off len
      simp only [lenV] at h
      split at h
      · rename_i hl
        simp at h
        subst h
        obtain ⟨c, s, a, cap, hp, rfl, _⟩ := view_live I hx (live_le hle hl)
        exact ⟨_, run _ _ _, .int _ _⟩
      · simp at h
    · cases h
  · rename_i k e hu
    have run : ∀ r es clock, w.heap[r]? = some (.map es clock) → (Builtin.len_ #[t] ty #[.map (some r)]).run P w = .ok (goInt es.size) w := fun r es clock hh => by simp [Builtin.len_, run_underlying hu, getObj, Sem.run, hh]
    have runn : (Builtin.len_ #[t] ty #[.map none]).run P w = .ok (goInt 0) w := by simp [Builtin.len_, run_underlying hu]
    split at h
    · rename_i b
      simp only [lenV] at h
      split at h
      · rename_i wr ks vs hb
        simp at h
        subst h
        cases hx with
        | map _ _ hv h1 h3 =>
        obtain ⟨wr', hb'⟩ := hle.map hb
        cases hl : φ b with
        | unborn => exact absurd hl h1
        | nil => obtain ⟨_, _, hn, _⟩ | ⟨_, _, hn, _⟩ := I.nil b hl <;> (rw [hb'] at hn; cases hn)
        | «at» c s n =>
          obtain ⟨yb, hy, hr⟩ := I.blk b c s n hl
          rw [hb'] at hy
          cases hy
          obtain ⟨rfl, es, clock, hh, e1, e2, _⟩ := hr
          rw [h3 c s 0 hl rfl]
          exact ⟨_, run _ _ _ hh, by rw [e1]; exact .int _ _⟩
      · simp at h
    · rename_i ks vs
      simp only [lenV, Option.map_some] at h
      cases h
      cases hx with
      | mapr _ _ r es clock hW hh h1 h2 => exact ⟨_, run _ _ _ hh, by rw [h1]; exact .int _ _⟩
      | mapn => exact ⟨_, runn, .int _ _⟩
    · simp only [lenV, Option.map_some] at h
      cases h
      cases hx
      exact ⟨_, runn, .int _ _⟩
    · cases h
  · rename_i n e hu
    cases h
    exact ⟨_, by simp [Builtin.len_, run_underlying hu]; rfl, .int _ _⟩
  · cases h

/-- The bounds of a slice expression. -/
theorem r_bounds {lo hi : Option V} {clo chi : Option Value} {l hh len cap : Nat} {isSlice : Bool} (hlo : ∀ v, lo = some v → ∃ c, clo = some c ∧ VRel φ W w v c) (hlo0 : lo = none → clo = none) (hhi : ∀ v, hi = some v → ∃ c, chi = some c ∧ VRel φ W w v c) (hhi0 : hi = none → chi = none)
    (hl : loIdx lo = some l) (hh' : hiIdx hi len = some hh) (h1 : l ≤ hh) (h2 : hh ≤ len) (h3 : len ≤ cap) :
    (Instr.sliceBounds isSlice len cap clo chi none).run P w = .ok (l, hh, cap) w := by
  have bound : ∀ {v : V} {c : Value} {n m : Nat} {code : BoundsCode}, VRel φ W w v c → idx? v = some n → n ≤ m → (Instr.sliceBound c m code).run P w = .ok n w := fun {v c n m code} hv hn hm => by
    obtain ⟨k, rfl⟩ := idx_ok hv hn
    have : (0 : Int) ≤ (n : Int) ∧ (n : Int) ≤ (m : Int) := by omega
    simp [Instr.sliceBound, asIntOf, this]
  cases lo with
  | none =>
    rw [hlo0 rfl]
    simp [loIdx] at hl
    subst hl
    cases hi with
    | none =>
      rw [hhi0 rfl]
      simp [hiIdx] at hh'
      subst hh'
      simp [Instr.sliceBounds]
    | some v =>
      obtain ⟨c, rfl, hv⟩ := hhi v rfl
      have := bound (code := if isSlice then .sliceAcap else .sliceAlen) hv hh' (show hh ≤ cap by omega)
      cases isSlice <;> simp_all [Instr.sliceBounds]
  | some v =>
    obtain ⟨c, rfl, hv⟩ := hlo v rfl
    have hb := bound (code := .sliceB) hv hl h1
    cases hi with
    | none =>
      rw [hhi0 rfl]
      simp [hiIdx] at hh'
      subst hh'
      simp [Instr.sliceBounds, hb]
    | some v' =>
      obtain ⟨c', rfl, hv'⟩ := hhi v' rfl
      have := bound (code := if isSlice then .sliceAcap else .sliceAlen) hv' hh' (show hh ≤ cap by omega)
      cases isSlice <;> simp_all [Instr.sliceBounds]

theorem r_bounds_hi {lo : Option V} {hv : V} {clo : Option Value} {ch : Value} {l hh len cap : Nat} (hlo : ∀ v, lo = some v → ∃ c, clo = some c ∧ VRel φ W w v c) (hlo0 : lo = none → clo = none) (hhi : VRel φ W w hv ch)
    (hl : loIdx lo = some l) (hh' : idx? hv = some hh) (h1 : l ≤ hh) (h2 : hh ≤ cap) :
    (Instr.sliceBounds true len cap clo (some ch) none).run P w = .ok (l, hh, cap) w := by
  have bound : ∀ {v : V} {c : Value} {n m : Nat} {code : BoundsCode}, VRel φ W w v c → idx? v = some n → n ≤ m → (Instr.sliceBound c m code).run P w = .ok n w := fun {v c n m code} hv hn hm => by
    obtain ⟨k, rfl⟩ := idx_ok hv hn
    have : (0 : Int) ≤ (n : Int) ∧ (n : Int) ≤ (m : Int) := by omega
    simp [Instr.sliceBound, asIntOf, this]
  have hb2 := bound (code := .sliceAcap) hhi hh' h2
  cases lo with
  | none =>
    rw [hlo0 rfl]
    simp [loIdx] at hl
    subst hl
    simp_all [Instr.sliceBounds]
  | some v =>
    obtain ⟨c, rfl, hv⟩ := hlo v rfl
    have hb := bound (code := .sliceB) hv hl h1
    simp_all [Instr.sliceBounds]

theorem r_bounds3 {lo : Option V} {hv mv : V} {clo : Option Value} {ch cm : Value} {l hh m len cap : Nat} (hlo : ∀ v, lo = some v → ∃ c, clo = some c ∧ VRel φ W w v c) (hlo0 : lo = none → clo = none) (hhi : VRel φ W w hv ch) (hmx : VRel φ W w mv cm)
    (hl : loIdx lo = some l) (hh' : idx? hv = some hh) (hm' : idx? mv = some m) (h1 : l ≤ hh) (h2 : hh ≤ m) (h3 : m ≤ cap) :
    (Instr.sliceBounds true len cap clo (some ch) (some cm)).run P w = .ok (l, hh, m) w := by
  have bound : ∀ {v : V} {c : Value} {n m : Nat} {code : BoundsCode}, VRel φ W w v c → idx? v = some n → n ≤ m → (Instr.sliceBound c m code).run P w = .ok n w := fun {v c n m code} hv hn hm => by
    obtain ⟨k, rfl⟩ := idx_ok hv hn
    have : (0 : Int) ≤ (n : Int) ∧ (n : Int) ≤ (m : Int) := by omega
    simp [Instr.sliceBound, asIntOf, this]
  have hb2 := bound (code := .slice3B) hhi hh' h2
  have hb3 := bound (code := .slice3Acap) hmx hm' h3
  cases lo with
  | none =>
    rw [hlo0 rfl]
    simp [loIdx] at hl
    subst hl
    simp_all [Instr.sliceBounds]
  | some v =>
    obtain ⟨c, rfl, hv⟩ := hlo v rfl
    have hb := bound (code := .slice3C) hv hl h1
    simp_all [Instr.sliceBounds]

end

end Go.Abs

namespace Go.Abs
open Go.RowKit
set_option linter.unusedVariables false
set_option linter.unusedSimpArgs false

variable {P : Program}

section
variable {base : Nat} {Z : Nat → Prop} {φ : Place} {H HF : Heap} {w : World} {x y : V} {cv cu : Value} {W : Nat → Prop}

theorem elemT_zero {t : TypeId} {z : TypeInfo} (h : elemT P t = some z) : ∃ e, P.underlying t = some (.slice e) ∧ P.info? e = some z ∧ ∃ v, z.zero = some v ∧ v.cells.size = z.size := by
  unfold elemT at h
  split at h
  · rename_i e hu
    split at h
    · rename_i z' hi
      split at h
      · rename_i hz
        cases h
        unfold zeroOk at hz
        split at hz
        · rename_i v hv; exact ⟨e, hu, hi, v, hv, by simpa using hz⟩
        · cases hz
      · cases h
    · cases h
  · cases h

theorem elemT_some {t : TypeId} {z : TypeInfo} (h : elemT P t = some z) : ∃ e, P.underlying t = some (.slice e) ∧ P.info? e = some z := by
  obtain ⟨e, h1, h2, _⟩ := elemT_zero h
  exact ⟨e, h1, h2⟩

theorem isStrT_some {t : TypeId} (h : isStrT P t = true) : P.underlying t = some .string := by
  unfold isStrT at h; split at h <;> simp_all
theorem isIntT_some {t : TypeId} (h : isIntT P t = true) : ∃ k, P.underlying t = some (.int k) := by
  unfold isIntT at h; split at h <;> simp_all
theorem isBoolT_some {t : TypeId} (h : isBoolT P t = true) : P.underlying t = some .bool := by
  unfold isBoolT at h; split at h <;> simp_all

/-- A slice expression's operands, related. -/
structure Bounds (φ : Place) (W : Nat → Prop) (w : World) (lo : Option V) (clo : Option Value) : Prop where
  val : ∀ v, lo = some v → ∃ c, clo = some c ∧ VRel φ W w v c
  non : lo = none → clo = none

theorem r_slice {t : TypeId} {lo hi : Option V} {clo chi : Option Value} {z : V} (I : Inv base Z φ HF w) (hle : Le H HF) (hx : VRel φ (Wr φ HF Z) w x cv)
    (hlo : Bounds φ (Wr φ HF Z) w lo clo) (hhi : Bounds φ (Wr φ HF Z) w hi chi) (h : sliceV P t x lo hi H = some z) :
    ∃ v, (Instr.sliceAt t cv clo chi none).run P w = .ok v w ∧ VRel φ (Wr φ HF Z) w z v := by
  unfold sliceV at h
  split at h
  · cases h
  rename_i l hl
  have hsa : ∀ {e : TypeId} {cv : Value}, P.underlying t = some (.slice e) → (Instr.sliceAt t cv clo chi none).run P w = (Instr.slice t cv clo chi none).run P w := fun hu => by
    simp [Instr.sliceAt, run_underlying hu]
  split at h
  · rename_i s
    split at h
    · rename_i hh hhe
      split at h
      · rename_i hc
        obtain ⟨hu, h1, h2⟩ := hc
        have hu' := isStrT_some hu
        cases h
        cases hx
        have hsz : (ByteArray.mk s.toArray).size = s.length := by show s.toArray.size = _; simp
        have hb := r_bounds (P := P) (isSlice := false) (len := s.length) (cap := s.length) hlo.val hlo.non hhi.val hhi.non hl hhe h1 h2 (Nat.le_refl _)
        refine ⟨.string ((ByteArray.mk s.toArray).extract l hh), ?_, ?_⟩
        · simp [Instr.sliceAt, Instr.slice, run_underlying hu', hsz, hb]
        · have he : (ByteArray.mk s.toArray).extract l hh = ⟨((s.take hh).drop l).toArray⟩ := by
            apply ByteArray.ext
            rw [ByteArray.data_extract]
            simp [List.extract_eq_take_drop, List.drop_take]
          rw [he]
          exact .str _
      · cases h
    · cases h
  · rename_i es
    split at h
    · rename_i hh hhe
      split at h
      · rename_i zi hz
        obtain ⟨e, hu, hi'⟩ := elemT_some hz
        split at h
        · rename_i hc
          obtain ⟨h1, h2, h3⟩ := hc
          cases h
          rcases sl_mem hx with ⟨rfl, rfl⟩ | ⟨a, cap, s, rfl, hcap, h0, hp, hW, hel⟩
          · have : l = 0 ∧ hh = 0 := by simp at h2; omega
            obtain ⟨rfl, rfl⟩ := this
            have hb := r_bounds (P := P) (isSlice := true) (len := 0) (cap := 0) hlo.val hlo.non hhi.val hhi.non hl hhe (Nat.le_refl _) (Nat.le_refl _) (Nat.le_refl _)
            exact ⟨.slice none 0 0, by rw [hsa hu]; simp [Instr.slice, run_underlying hu, hb, run_size hi'], by simpa using VRel.slnil⟩
          · have hb := r_bounds (P := P) (isSlice := true) (len := es.length) (cap := cap) hlo.val hlo.non hhi.val hhi.non hl hhe h1 h2 hcap
            refine ⟨.slice (some (if cap = l then a else a.add (l * zi.size))) (hh - l) (cap - l), ?_, ?_⟩
            · rw [hsa hu]
              by_cases hcl : cap = l
              · subst hcl; simp [Instr.slice, run_underlying hu, hb, run_size hi']
              · simp [Instr.slice, run_underlying hu, hb, run_size hi', hcl]
            · have hlen : ((es.take hh).drop l).length = hh - l := by rw [List.length_drop, List.length_take]; omega
              have key : ∀ (i : Nat) (e : V), ((es.take hh).drop l)[i]? = some e → es[l + i]? = some e ∧ l < hh := fun i e he => by
                rw [List.getElem?_drop, List.getElem?_take] at he
                split at he
                · exact ⟨he, by omega⟩
                · cases he
              have hex : ∀ k : Nat, ∃ v, ∀ (i j : Nat) (e c : V), k = i * s + j → j < s → ((es.take hh).drop l)[i]? = some e → e.cells[j]? = some c →
                  w.cell? ((a.add (l * s)).add k) = some v ∧ v.oneCell' = true ∧ VRel φ (Wr φ HF Z) w c v := fun k => by
                by_cases hk : ∃ (i j : Nat) (e c : V), k = i * s + j ∧ j < s ∧ ((es.take hh).drop l)[i]? = some e ∧ e.cells[j]? = some c
                · obtain ⟨i, j, e, c, hk, hj, he, hcc⟩ := hk
                  obtain ⟨v, hv1, hv2, hv3⟩ := (hel _ _ (key i e he).1).2 j c hcc
                  refine ⟨v, fun i' j' e' c' hk' hj' he' hc' => ?_⟩
                  have hij : i' = i ∧ j' = j := by
                    have e1 : (i * s + j) / s = i := by rw [Nat.mul_comm, Nat.mul_add_div h0, Nat.div_eq_of_lt hj]; omega
                    have e2 : (i' * s + j') / s = i' := by rw [Nat.mul_comm, Nat.mul_add_div h0, Nat.div_eq_of_lt hj']; omega
                    have : i' = i := by rw [← e1, ← e2, ← hk, ← hk']
                    subst this
                    omega
                  obtain ⟨rfl, rfl⟩ := hij
                  rw [he] at he'
                  cases he'
                  rw [hcc] at hc'
                  cases hc'
                  refine ⟨?_, hv2, hv3⟩
                  rw [add_add, hk]
                  rw [add_add] at hv1
                  have e3 : l * s + (i' * s + j') = (l + i') * s + j' := by rw [Nat.add_mul]; omega
                  rw [e3]
                  exact hv1
                · exact ⟨undef, fun i j e c h1 h2 h3 h4 => absurd ⟨i, j, e, c, h1, h2, h3, h4⟩ hk⟩
              obtain ⟨f, hf⟩ := Classical.axiomOfChoice hex
              have jlt : ∀ (i j : Nat) (e c : V), ((es.take hh).drop l)[i]? = some e → e.cells[j]? = some c → j < s := fun i j e c he hc' => by
                have := (hel _ _ (key i e he).1).1
                have := (List.getElem?_eq_some_iff.1 hc').1
                omega
              have hadr : ∀ (i : Nat) (e : V), ((es.take hh).drop l)[i]? = some e → (if cap = l then a else a.add (l * zi.size)) = a.add (l * s) := fun i e he => by
                have hlh := (key i e he).2
                have hcl : cap ≠ l := by omega
                rw [if_neg hcl]
                rcases h3 with h3 | h3 | h3
                · subst h3; simp
                · omega
                · have hll : l < es.length := by omega
                  rw [List.getElem?_eq_getElem hll] at h3
                  have := (hel l es[l] (List.getElem?_eq_getElem hll)).1
                  simp at h3
                  rw [← h3, this]
              have hres := VRel.sl (φ := φ) (W := Wr φ HF Z) (w := w) ((es.take hh).drop l) (if cap = l then a else a.add (l * zi.size)) (cap - l) s f (by omega) h0
                (pureL_of fun i e he => pureL_at hp _ _ (key i e he).1) (fun i e he => (hel _ _ (key i e he).1).1)
                (fun hne => by
                  have hb' : (if cap = l then a else a.add (l * zi.size)).block = a.block := by split; rfl; exact add_block _ _
                  rw [hb']
                  refine hW ?_
                  rintro rfl
                  simp at hne)
                (fun i j e c he hc' => by
                  rw [hadr i e he]
                  have := hf (i * s + j) i j e c rfl (jlt i j e c he hc') he hc'
                  exact ⟨this.1, this.2.1⟩)
                (fun i j e c he hc' => (hf (i * s + j) i j e c rfl (jlt i j e c he hc') he hc').2.2)
              rw [hlen] at hres
              exact hres
        · cases h
      · cases h
    · cases h
  · split at h
    · rename_i hh hhe
      split at h
      · rename_i zi hz
        obtain ⟨e, hu, hi'⟩ := elemT_some hz
        split at h
        · rename_i hc
          obtain ⟨rfl, rfl⟩ := hc
          cases h
          cases hx
          have hb := r_bounds (P := P) (isSlice := true) (len := 0) (cap := 0) hlo.val hlo.non hhi.val hhi.non hl hhe (Nat.le_refl _) (Nat.le_refl _) (Nat.le_refl _)
          exact ⟨.slice none 0 0, by rw [hsa hu]; simp [Instr.slice, run_underlying hu, hb, run_size hi'], .nils⟩
        · cases h
      · cases h
    · cases h
  · rename_i b tot off len
    split at h
    · rename_i hh hhe
      split at h
      · rename_i zi wr sz es hz hb
        obtain ⟨e, hu, hi'⟩ := elemT_some hz
        split at h
        · rename_i hc
          obtain ⟨h1, h2, ht, h3⟩ := hc
          cases h
          obtain ⟨wr', hb'⟩ := hle.dat hb
          obtain ⟨h0, hr⟩ := own_read I hb' ht hx
          rcases hr with ⟨hn, rfl, rfl, rfl, rfl⟩ | ⟨c, hl', hrow, a, cap, t', z', rfl, hsh, hcap, ha, ha0⟩
          · have : l = 0 ∧ hh = 0 := by simp at ht; omega
            obtain ⟨rfl, rfl⟩ := this
            have hbb := r_bounds (P := P) (isSlice := true) (len := 0) (cap := 0) hlo.val hlo.non hhi.val hhi.non hl hhe (Nat.le_refl _) (Nat.le_refl _) (Nat.le_refl _)
            exact ⟨.slice none 0 0, by rw [hsa hu]; simp [Instr.slice, run_underlying hu, hbb, run_size hi'], by simpa using hx⟩
          · have hcap' : tot ≤ cap ∨ hh ≤ len := by
              rcases h2 with h2 | ⟨h2, _⟩
              · exact .inr h2
              · exact .inl (ha0 h2).1
            have hhc : hh ≤ cap := by rcases h2 with h2 | h2 <;> omega
            have hbb : (Instr.sliceBounds true len cap clo chi none).run P w = .ok (l, hh, cap) w := by
              cases hi with
              | none =>
                have : hh = len := by simpa [hiIdx] using hhe.symm
                exact r_bounds (P := P) (isSlice := true) (len := len) (cap := cap) hlo.val hlo.non hhi.val hhi.non hl hhe h1 (by omega) hcap
              | some hv =>
                obtain ⟨ch, rfl, hch⟩ := hhi.val hv rfl
                exact r_bounds_hi hlo.val hlo.non hch hl hhe h1 hhc
            refine ⟨.slice (some (if cap = l then a else a.add (l * zi.size))) (hh - l) (cap - l), ?_, ?_⟩
            · rw [hsa hu]
              by_cases hcl : cap = l
              · subst hcl; simp [Instr.slice, run_underlying hu, hbb, run_size hi']
              · simp [Instr.slice, run_underlying hu, hbb, run_size hi', hcl]
            · refine .own _ _ _ _ _ rfl (by omega) (by rw [hl']; simp) (by rw [hl']; simp) fun c' s' n' hl'' => ?_
              rw [hl'] at hl''
              cases hl''
              refine ⟨Nat.le_refl _, fun _ => ⟨_, _, t', z', rfl, hsh, by omega, fun hpos => ?_, fun hoff => ?_⟩⟩
              · rcases hpos with hpos | hpos
                · have hcl : cap ≠ l := by omega
                  rw [if_neg hcl, ha (by omega), add_at]
                  rcases h3 with h3 | h3 | h3
                  · subst h3; simp
                  · omega
                  · rw [← h3, Nat.add_mul]
                · have : l = 0 ∧ off = 0 := by omega
                  obtain ⟨rfl, rfl⟩ := this
                  rw [ha (.inr rfl)]
                  simp [Addr.add]
              · have : l = 0 ∧ off = 0 := by omega
                obtain ⟨rfl, rfl⟩ := this
                simpa using ha0 rfl
        · cases h
      · cases h
    · cases h
  · rename_i b tot j off
    split at h
    · rename_i n e hu
      split at h
      · rename_i hh zi hhe hz
        split at h
        · rename_i hc
          obtain ⟨h1, h2, hsz, hlv⟩ := hc
          cases h
          obtain ⟨c, s, hp, rfl⟩ := ptr_live I hx (live_le hle hlv)
          have hbb := r_bounds (P := P) (isSlice := false) (len := n) (cap := n) hlo.val hlo.non hhi.val hhi.non hl hhe h1 h2 (Nat.le_refl _)
          refine ⟨.slice (some (if n = l then ⟨c, j * s + off, none⟩ else (⟨c, j * s + off, none⟩ : Addr).add (l * zi.size))) (hh - l) (n - l), ?_, ?_⟩
          · by_cases hcl : n = l
            · subst hcl; simp [Instr.sliceAt, Instr.sureAddr, run_underlying hu, hbb, run_size hz]
            · simp [Instr.sliceAt, Instr.sureAddr, run_underlying hu, hbb, run_size hz, hcl]
          · refine .view _ _ _ _ _ _ rfl (by rw [hp]; simp) (by rw [hp]; simp) fun c' s' n' hb'' => ?_
            rw [hp] at hb''
            cases hb''
            refine ⟨Nat.le_refl _, fun _ => ⟨_, _, rfl, by omega, fun hpos => ?_⟩⟩
            rw [if_neg (by omega), add_at, hsz]
            simp [Nat.add_assoc]
        · cases h
      · cases h
    · cases h
  · cases h

theorem r_slice3 {t : TypeId} {lo hi : Option V} {mx : V} {clo chi : Option Value} {cmx : Value} {z : V} (I : Inv base Z φ HF w) (hle : Le H HF) (hx : VRel φ (Wr φ HF Z) w x cv)
    (hlo : Bounds φ (Wr φ HF Z) w lo clo) (hhi : Bounds φ (Wr φ HF Z) w hi chi) (hmx : VRel φ (Wr φ HF Z) w mx cmx) (h : slice3V P t x lo hi mx H = some z) :
    ∃ v, (Instr.sliceAt t cv clo chi (some cmx)).run P w = .ok v w ∧ VRel φ (Wr φ HF Z) w z v := by
  unfold slice3V at h
  split at h
  case h_2 => cases h
  rename_i l hv m z' hl hm hz
  obtain ⟨e, hu, hi'⟩ := elemT_some hz
  obtain ⟨ch, rfl, hch⟩ := hhi.val hv rfl
  have hsa : ∀ cv : Value, (Instr.sliceAt t cv clo (some ch) (some cmx)).run P w = (Instr.slice t cv clo (some ch) (some cmx)).run P w := fun cv => by
    simp [Instr.sliceAt, run_underlying hu]
  have go : ∀ (a : Option Addr) (len cap hh : Nat), cv = .slice a len cap → idx? hv = some hh → l ≤ hh → hh ≤ m → m ≤ cap → z = .undef → ∃ v, (Instr.sliceAt t cv clo (some ch) (some cmx)).run P w = .ok v w ∧ VRel φ (Wr φ HF Z) w z v := fun a len cap hh hcv hidx h1 h2 h3 hz => by
    subst hcv hz
    have hb := r_bounds3 (P := P) (len := len) (cap := cap) hlo.val hlo.non hch hmx hl hidx hm h1 h2 h3
    exact ⟨_, by rw [hsa]; simp [Instr.slice, run_underlying hu, hb, run_size hi']; rfl, .undef _⟩
  split at h
  · rename_i hh b tot off len hidx
    split at h
    case isFalse => cases h
    rename_i hc
    obtain ⟨h1, h2, h3, hlv⟩ := hc
    cases h
    obtain ⟨_, hr⟩ := own_live I hx (live_le hle hlv)
    rcases hr with ⟨_, rfl, _, rfl⟩ | ⟨c, s, _, a, cap, t', z', rfl, _, hcap, _⟩
    · exact go none 0 0 hh rfl hidx h1 h2 h3 rfl
    · exact go _ len cap hh rfl hidx h1 h2 (by omega) rfl
  · rename_i hh hidx
    split at h
    case isFalse => cases h
    rename_i hc
    cases h
    cases hx
    exact go none 0 0 hh rfl hidx hc.1 hc.2.1 hc.2.2 rfl
  · cases h

end

end Go.Abs

namespace Go.Abs
open Go.RowKit
set_option linter.unusedVariables false
set_option linter.unusedSimpArgs false

variable {P : Program}

section
variable {base : Nat} {Z : Nat → Prop} {φ : Place} {H HF : Heap} {w : World} {x y : V} {cv cu : Value} {W : Nat → Prop}

/-- What a key is. -/
theorem keyOk_kind {kt : TypeId} {k : V} {ck : Value} (hk : VRel φ W w k ck) (h : keyOk P kt k = true) :
    (∃ kd n, k = .int kd n ∧ ck = .int kd n ∧ ∃ j, P.underlying kt = some (.int j)) ∨ (∃ s, k = .str s ∧ ck = .string ⟨s.toArray⟩ ∧ P.underlying kt = some .string) ∨ (∃ b, k = .bool b ∧ ck = .bool b ∧ P.underlying kt = some .bool) := by
  unfold keyOk at h
  split at h
  · cases hk; exact .inl ⟨_, _, rfl, rfl, isIntT_some h⟩
  · cases hk; exact .inr (.inl ⟨_, rfl, rfl, isStrT_some h⟩)
  · cases hk; exact .inr (.inr ⟨_, rfl, rfl, isBoolT_some h⟩)
  · cases h

theorem run_checkKey {kt : TypeId} {k : V} {ck : Value} {e : Bool} (hk : VRel φ W w k ck) (h : keyOk P kt k = true) : (Instr.checkKey e 10000 kt ck).run P w = .ok () w := by
  have h0 : ∀ (n : Nat) (d : TypeDesc), P.underlying kt = some d → (∀ ms, d ≠ .interface ms) → (∀ l t, d ≠ .array l t) → (∀ fs, d ≠ .struct fs) → (Instr.checkKey e (n + 1) kt ck).run P w = .ok () w := fun n d hu h1 h2 h3 => by
    rw [Instr.checkKey, Sem.run_bind, run_underlying hu]
    cases d <;> first
      | rfl
      | exact absurd rfl (h1 _)
      | exact absurd rfl (h2 _ _)
      | exact absurd rfl (h3 _)
  rcases keyOk_kind hk h with ⟨_, _, _, _, j, hu⟩ | ⟨_, _, _, hu⟩ | ⟨_, _, _, hu⟩ <;> exact h0 9999 _ hu (by simp) (by simp) (by simp)

theorem bytes_beq (s t : List UInt8) : ((⟨s.toArray⟩ : ByteArray) == ⟨t.toArray⟩) = (s == t) := by
  show (s.toArray == t.toArray) = (s == t)
  simp

/-- Two keys are compared as their abstractions are. -/
theorem sameNow_ok {kt : TypeId} {k c : V} {ck cc : Value} {b : Bool} (hk : VRel φ W w k ck) (h : keyOk P kt k = true) (hc : VRel φ W w c cc) (hs : sameKey k c = some b) :
    ∃ d, P.underlying kt = some d ∧ Instr.sameNow d ck cc = some b := by
  rcases keyOk_kind hk h with ⟨kd, n, rfl, rfl, j, hu⟩ | ⟨s, rfl, rfl, hu⟩ | ⟨b', rfl, rfl, hu⟩
  · refine ⟨_, hu, ?_⟩
    cases c <;> simp only [sameKey] at hs <;> try (cases hs; done)
    cases hc
    simpa [Instr.sameNow] using hs
  · refine ⟨_, hu, ?_⟩
    cases c <;> simp only [sameKey] at hs <;> try (cases hs; done)
    cases hc
    simp only [Instr.sameNow, bytes_beq]
    exact hs
  · refine ⟨_, hu, ?_⟩
    cases c <;> simp only [sameKey] at hs <;> try (cases hs; done)
    cases hc
    simpa [Instr.sameNow] using hs

/-- Keys, and what they lead to, as the entries of a map. -/
def Entries (φ : Place) (W : Nat → Prop) (w : World) (ks vs : List V) (es : List MapEntry) : Prop :=
  ks.length = es.length ∧ vs.length = es.length ∧ (∀ (i : Nat) (k : V) (x : MapEntry), ks[i]? = some k → es[i]? = some x → VRel φ W w k x.key) ∧ ∀ (i : Nat) (v : V) (x : MapEntry), vs[i]? = some v → es[i]? = some x → VRel φ W w v x.val

theorem Entries.cons {k v : V} {ks vs : List V} {e : MapEntry} {es : List MapEntry} (h : Entries φ W w (k :: ks) (v :: vs) (e :: es)) : VRel φ W w k e.key ∧ VRel φ W w v e.val ∧ Entries φ W w ks vs es :=
  ⟨h.2.2.1 0 _ _ rfl rfl, h.2.2.2 0 _ _ rfl rfl, by simpa using h.1, by simpa using h.2.1, fun i k x a b => h.2.2.1 (i + 1) k x (by simpa using a) (by simpa using b), fun i k x a b => h.2.2.2 (i + 1) k x (by simpa using a) (by simpa using b)⟩

theorem findNow_ok {φ0 : Place} {W0 : Nat → Prop} {kt : TypeId} {k : V} {ck : Value} {d : TypeDesc} (hk : VRel φ W w k ck) (h : keyOk P kt k = true) (hu : P.underlying kt = some d) : ∀ (ks vs : List V) (es : List MapEntry) (i : Nat) (r : Option V), Entries φ0 W0 w ks vs es → findK k ks vs = some r →
    (r = none ∧ Instr.findNow d ck es i = some none) ∨ ∃ v j e, r = some v ∧ es[j]? = some e ∧ vs[j]? = some v ∧ (∃ c, ks[j]? = some c ∧ sameKey k c = some true ∧ ∀ x, setK k x ks vs = vs.set j x) ∧ Instr.findNow d ck es i = some (some (i + j, e.val)) ∧ VRel φ0 W0 w v e.val
  | [], vs, es, i, r, hE, hf => by
    simp only [findK] at hf
    cases hf
    have : es = [] := List.eq_nil_of_length_eq_zero hE.1.symm
    subst this
    exact .inl ⟨rfl, rfl⟩
  | c :: ks, [], es, i, r, hE, hf => by simp [findK] at hf
  | c :: ks, v :: vs, [], i, r, hE, hf => by have := hE.1; simp at this
  | c :: ks, v :: vs, e :: es, i, r, hE, hf => by
    obtain ⟨h1, h2, h3⟩ := hE.cons
    simp only [findK] at hf
    cases hs : sameKey k c with
    | none => rw [hs] at hf; cases hf
    | some b =>
      rw [hs] at hf
      have hn : Instr.sameNow d ck e.key = some b := by
        rcases keyOk_kind hk h with ⟨kd, n, rfl, rfl, j, hu'⟩ | ⟨s, rfl, rfl, hu'⟩ | ⟨b', rfl, rfl, hu'⟩
        · have h1' : VRel φ0 W0 w c e.key := h1
          obtain ⟨d', e1, e2⟩ := sameNow_ok (P := P) (kt := kt) (VRel.int (φ := φ0) (W := W0) (w := w) kd n) h h1 hs
          rw [hu] at e1; cases e1; exact e2
        · obtain ⟨d', e1, e2⟩ := sameNow_ok (P := P) (kt := kt) (VRel.str (φ := φ0) (W := W0) (w := w) s) h h1 hs
          rw [hu] at e1; cases e1; exact e2
        · obtain ⟨d', e1, e2⟩ := sameNow_ok (P := P) (kt := kt) (VRel.bool (φ := φ0) (W := W0) (w := w) b') h h1 hs
          rw [hu] at e1; cases e1; exact e2
      cases b with
      | true =>
        simp only at hf
        cases hf
        exact .inr ⟨v, 0, e, rfl, rfl, rfl, ⟨c, rfl, hs, fun x => by simp [setK, hs]⟩, by simp [Instr.findNow, hn], h2⟩
      | false =>
        simp only at hf
        rcases findNow_ok hk h hu ks vs es (i + 1) r h3 hf with ⟨rfl, hr⟩ | ⟨v', j, e', rfl, p1, p2, ⟨c', q1, q2, q3⟩, p3, p4⟩
        · exact .inl ⟨rfl, by simp [Instr.findNow, hn, hr]⟩
        · refine .inr ⟨v', j + 1, e', rfl, by simpa using p1, by simpa using p2, ⟨c', by simpa using q1, q2, fun x => by simp [setK, hs, q3]⟩, ?_, p4⟩
          simp only [Instr.findNow, hn]
          rw [p3, Nat.add_assoc, Nat.add_comm 1 j]

theorem run_getMap {r : Nat} {es : Array MapEntry} {clock : Nat} (h : w.heap[r]? = some (.map es clock)) : (getObj r).run P w = .ok (.map es clock) w := by
  simp [getObj, Sem.run, h]

theorem run_findKey {kt : TypeId} {ck : Value} {d : TypeDesc} {es : List MapEntry} {r : Option (Nat × Value)} (hu : P.underlying kt = some d) (h : Instr.findNow d ck es 0 = some r) : (Instr.findKey kt ck es).run P w = .ok r w := by
  simp [Instr.findKey, run_underlying hu, h]

theorem keyOk_under {kt : TypeId} {k : V} (h : keyOk P kt k = true) : ∃ d, P.underlying kt = some d := by
  cases hq : P.underlying kt with
  | some d => exact ⟨d, rfl⟩
  | none => unfold keyOk at h; split at h <;> simp_all [isIntT, isStrT, isBoolT]

theorem zeroV_ok {t : TypeId} {z : V} (h : zeroV P t = some z) : ∃ v, (zeroValue t).run P w = .ok v w ∧ z = ofVal v ∧ VRel φ W w z v := by
  unfold zeroV at h
  split at h
  · rename_i i hi
    split at h
    · rename_i v hz
      cases h
      exact ⟨v, by simp [zeroValue, run_info hi, hz], rfl, ofVal_ok v⟩
    · cases h
  · cases h

/-- A map's entries. -/
theorem map_entries {m : V} {cm : Value} {ks vs : List V} (I : Inv base Z φ HF w) (hle : Le H HF) (hm : VRel φ (Wr φ HF Z) w m cm)
    (h : mapOf H m = some (ks, vs)) :
    ∃ es : List MapEntry, Entries φ (Wr φ HF Z) w ks vs es ∧ ((cm = .map none ∧ es = []) ∨ ∃ r ea clock, cm = .map (some r) ∧ w.heap[r]? = some (.map ea clock) ∧ ea.toList = es) := by
  cases m <;> simp only [mapOf] at h <;> try (cases h; done)
  case nilm => cases h; cases hm; exact ⟨[], ⟨rfl, rfl, by simp, by simp⟩, .inl ⟨rfl, rfl⟩⟩
  case mapr =>
    cases h
    cases hm with
    | mapr _ _ r es clock hW hh h1 h2 hp hq hk hv => exact ⟨es.toList, ⟨by simpa using h1, by simpa using h2, fun i k x a b => hk i k x a (by simpa using b), fun i k x a b => hv i k x a (by simpa using b)⟩, .inr ⟨r, es, clock, rfl, hh, rfl⟩⟩
    | mapn => exact ⟨[], ⟨rfl, rfl, by simp, by simp⟩, .inl ⟨rfl, rfl⟩⟩
  case map b =>
    split at h
    · rename_i wr ks' vs' hb
      cases h
      cases hm with
      | map _ _ hv h1 h3 =>
      obtain ⟨wr', hb'⟩ := hle.map hb
      cases hl : φ b with
      | unborn => exact absurd hl h1
      | nil => obtain ⟨_, _, hn, _⟩ | ⟨_, _, hn, _⟩ := I.nil b hl <;> (rw [hb'] at hn; cases hn)
      | «at» c s n =>
        obtain ⟨yb, hy, hr⟩ := I.blk b c s n hl
        rw [hb'] at hy
        cases hy
        obtain ⟨rfl, es, clock, hh, e1, e2, e3, e4⟩ := hr
        exact ⟨es.toList, ⟨by simpa using e1, by simpa using e2, fun i k x a b => (e3 i k x a (by simpa using b)).ofPure, fun i k x a b => (e4 i k x a (by simpa using b)).ofPure⟩, .inr ⟨c, es, clock, h3 c s 0 hl rfl, hh, rfl⟩⟩
    · cases h

theorem r_lookup {t : TypeId} {m k : V} {cm ck : Value} {ok : Bool} {z : V} (I : Inv base Z φ HF w) (hle : Le H HF) (hm : VRel φ (Wr φ HF Z) w m cm) (hk : VRel φ (Wr φ HF Z) w k ck) (h : lookupV P t m k ok H = some z) :
    ∃ v, (Instr.lookup t cm ck ok).run P w = .ok v w ∧ VRel φ (Wr φ HF Z) w z v := by
  unfold lookupV at h
  split at h
  · rename_i kt e hu
    split at h
    · cases h
    rename_i hkey
    have hkey' : keyOk P kt k = true := by simpa using hkey
    obtain ⟨d, hd⟩ := keyOk_under hkey'
    split at h
    · cases h
    rename_i ks vs hks
    obtain ⟨es, hE, hcm⟩ := map_entries I hle hm hks
    have fin : ∀ (r : Option (Nat × Value)), Instr.findNow d ck es 0 = some r → (Instr.lookup t cm ck ok).run P w = ((match r with
        | some (_, v) => (.ok (v, true) w : Result (Value × Bool))
        | none => ((zeroValue e).run P w).andThen fun v w => .ok (v, false) w).andThen fun p w => .ok (if ok then .tuple #[p.1, .bool p.2] else p.1) w) := fun r hr => by
      rcases hcm with ⟨rfl, rfl⟩ | ⟨rr, ea, clock, rfl, hh, rfl⟩
      · simp only [Instr.lookup, Sem.run_bind, run_underlying hu, Result.andThen_ok, Sem.run_pure, run_checkKey hk hkey']
        have := run_findKey (P := P) (w := w) hd hr
        simp only [this, Result.andThen_ok]
        cases r <;> first | rfl | (simp only [Sem.run_bind, Sem.run_pure, Result.andThen_ok]; cases (zeroValue e).run P w <;> rfl)
      · simp only [Instr.lookup, Sem.run_bind, run_underlying hu, Result.andThen_ok, Sem.run_pure, run_getMap hh, run_checkKey hk hkey', run_findKey (P := P) (w := w) hd hr]
        cases r <;> first | rfl | (simp only [Sem.run_bind, Sem.run_pure, Result.andThen_ok]; cases (zeroValue e).run P w <;> rfl)
    have bk : ∀ {z : V} {v : Value} (b : Bool), VRel φ (Wr φ HF Z) w z v → VRel φ (Wr φ HF Z) w (.tuple [z, .bool b]) (.tuple #[v, .bool b]) := fun b hz => .tuple _ _ rfl fun i c u hc hu => by
      cases i with
      | zero => simp at hc hu; rw [← hc, ← hu]; exact hz
      | succ i => cases i with
        | zero => simp at hc hu; rw [← hc, ← hu]; exact .bool b
        | succ i => simp at hc
    split at h
    · cases h
    · rename_i v hf
      cases h
      rcases findNow_ok hk hkey' hd ks vs es 0 _ hE hf with ⟨hr, _⟩ | ⟨v', j, e', hr, p1, p2, _, p3, p4⟩
      · cases hr
      · cases hr
        rw [fin _ p3]
        cases ok with
        | true => exact ⟨_, rfl, bk true p4⟩
        | false => exact ⟨_, rfl, p4⟩
    · rename_i hf
      cases hz : zeroV P e with
      | none => simp [hz] at h
      | some z0 =>
        simp [hz] at h
        subst h
        obtain ⟨v, hv1, _, hv2⟩ := zeroV_ok (φ := φ) (W := Wr φ HF Z) (w := w) hz
        rcases findNow_ok hk hkey' hd ks vs es 0 _ hE hf with ⟨_, p3⟩ | ⟨v', j, e', hr, _⟩
        · rw [fin _ p3]
          simp only [hv1, Result.andThen_ok]
          cases ok with
          | true => exact ⟨_, rfl, bk false hv2⟩
          | false => exact ⟨_, rfl, hv2⟩
        · cases hr
  · cases h

end

end Go.Abs

namespace Go.Abs
open Go.RowKit
set_option linter.unusedVariables false
set_option linter.unusedSimpArgs false

variable {P : Program}

section
variable {base : Nat} {Z : Nat → Prop} {φ : Place} {H HF : Heap} {w : World} {x y : V} {cv cu : Value} {W : Nat → Prop}

theorem r_arrAt {t : TypeId} {z : V} (I : Inv base Z φ HF w) (hle : Le H HF) (hx : VRel φ (Wr φ HF Z) w x cv) (h : arrAtV P t x H = some z) :
    ∃ v, (Instr.arrayAt t cv).run P w = .ok v w ∧ VRel φ (Wr φ HF Z) w z v := by
  unfold arrAtV at h
  split at h
  · rename_i n e hu
    split at h
    · rename_i es
      split at h
      · rename_i hc
        obtain ⟨hn, hne⟩ := hc
        cases h
        rcases sl_mem hx with ⟨rfl, _⟩ | ⟨a, cap, s, rfl, hcap, h0, hp, hW, hel⟩
        · simp at hne
        · refine ⟨.pointer (some a), by simp [Instr.arrayAt, run_underlying hu, show ¬ es.length < n by omega], ?_⟩
          have key : ∀ (i : Nat) (e : V), (es.take n)[i]? = some e → es[i]? = some e := fun i e he => by
            rw [List.getElem?_take] at he
            split at he
            · exact he
            · cases he
          refine rop_self (hW (by rintro rfl; simp at hne)) (fun k c hk => ?_) hne
          obtain ⟨i, j, e', h1, h2, h3⟩ := flat_at (es.take n) (fun i e he => (hel _ _ (key i e he)).1) k c hk
          obtain ⟨v, p1, p2, p3⟩ := (hel _ _ (key i e' h2)).2 j c h3
          exact ⟨v, by rw [h1, ← add_add]; exact p1, p2, p3⟩
      · cases h
    · rename_i b tot off len
      split at h
      · rename_i hc
        obtain ⟨hn, hn0, hl⟩ := hc
        cases h
        obtain ⟨h0, hr⟩ := own_live I hx (live_le hle hl)
        rcases hr with ⟨_, _, _, rfl⟩ | ⟨c, s, hb, a, cap, t', z', rfl, hsh, hcap, ha, _⟩
        · omega
        · refine ⟨.pointer (some a), by simp [Instr.arrayAt, run_underlying hu, show ¬ len < n by omega], ?_⟩
          rw [ha (.inl (by omega))]
          refine .ptr _ _ _ _ _ rfl (by rw [hb]; simp) (by rw [hb]; simp) fun c' s' n' hb' => ?_
          rw [hb] at hb'
          cases hb'
          exact ⟨Nat.le_refl _, fun _ => rfl⟩
      · cases h
    · cases h
  · cases h

theorem ofU8s_at : ∀ {es : List V} {s : List UInt8}, ofU8s es = some s → es.length = s.length ∧ ∀ (i : Nat) (e : V), es[i]? = some e → ∃ n : Int, e = .int .u8 n ∧ s[i]? = some (UInt8.ofNat n.toNat)
  | [], s, h => by simp only [ofU8s] at h; cases h; simp
  | .int .u8 n :: es, s, h => by
    simp only [ofU8s] at h
    cases hr : ofU8s es with
    | none => simp [hr] at h
    | some s' =>
      simp [hr] at h
      subst h
      obtain ⟨h1, h2⟩ := ofU8s_at hr
      refine ⟨by simp [h1], fun i e he => ?_⟩
      cases i with
      | zero => simp at he; exact ⟨n, he.symm, rfl⟩
      | succ i => simpa using h2 i e (by simpa using he)
  | .int .i8 _ :: _, _, h | .int .i16 _ :: _, _, h | .int .i32 _ :: _, _, h | .int .i64 _ :: _, _, h | .int .u16 _ :: _, _, h | .int .u32 _ :: _, _, h | .int .u64 _ :: _, _, h
  | .undef :: _, _, h | .bool _ :: _, _, h | .str _ :: _, _, h | .nils :: _, _, h | .nilm :: _, _, h | .nilx _ :: _, _, h | .agg _ :: _, _, h | .tuple _ :: _, _, h | .sl _ :: _, _, h | .own .. :: _, _, h | .ptr .. :: _, _, h | .rop _ :: _, _, h | .mapr .. :: _, _, h | .map _ :: _, _, h | .fn .. :: _, _, h | .meth .. :: _, _, h | .view .. :: _, _, h => by
    simp [ofU8s] at h

def numOf : V → Int
  | .int _ n => n
  | _ => 0

theorem run_bytesToString {src dst e : TypeId} {es : List V} {s : List UInt8} (hs : P.underlying src = some (.slice e)) (he : P.underlying e = some (.int .u8)) (hd : P.underlying dst = some .string)
    (hx : VRel φ W w (.sl es) cv) (h : ofU8s es = some s) : (convert src dst cv).run P w = .ok (.string ⟨s.toArray⟩) w := by
  obtain ⟨hl, hat⟩ := ofU8s_at h
  rcases sl_mem hx with ⟨rfl, rfl⟩ | ⟨a, cap, z, rfl, hcap, h0, hp, hW, hel⟩
  · have : s = [] := List.eq_nil_of_length_eq_zero (by simpa using hl.symm)
    subst this
    exact run_convert_bytes_nil w src e hs he 0 0 dst hd
  · cases es with
    | nil =>
      have : s = [] := List.eq_nil_of_length_eq_zero (by simpa using hl.symm)
      subst this
      show (convert src dst (.slice (some a) 0 cap)).run P w = _
      rw [run_convert_bytes_string w src dst e (some a) 0 cap hs he hd]
      simp [Conv.bytesToString, loadCells, loadCellsFrom]
      rfl
    | cons e0 er =>
      have hone : z = 1 := by
        obtain ⟨n, rfl, _⟩ := hat 0 e0 rfl
        exact (hel 0 _ rfl).1.symm
      subst hone
      have hcell : ∀ (i : Nat) (e' : V), (e0 :: er)[i]? = some e' → ∃ n : Int, e' = .int .u8 n ∧ s[i]? = some (UInt8.ofNat n.toNat) ∧ w.cell? (a.add i) = some (.int .u8 n) := fun i e' he' => by
        obtain ⟨n, rfl, hn⟩ := hat i e' he'
        obtain ⟨v, h1, h2, h3⟩ := (hel i _ he').2 0 (.int .u8 n) rfl
        cases h3
        rw [add_add] at h1
        simp at h1
        exact ⟨n, rfl, hn, h1⟩
      have hspot : a = ⟨a.block, a.off, none⟩ := by
        obtain ⟨n, _, _, hc⟩ := hcell 0 e0 rfl
        have hc0 : w.cell? a = some (.int .u8 n) := by simpa [Addr.add] using hc
        cases a with
        | mk b o sp =>
          cases sp with
          | none => rfl
          | some q => simp [World.cell?] at hc0; split at hc0 <;> simp at hc0
      have hxs : ∀ i, i < (e0 :: er).length → w.cell? ⟨a.block, a.off + i, none⟩ = some (.int .u8 (((e0 :: er).map numOf).getD i 0)) := fun i hi => by
        obtain ⟨n, h1, _, h2⟩ := hcell i _ (List.getElem?_eq_getElem hi)
        rw [hspot, add_at] at h2
        rw [h2]
        rw [List.getD_eq_getElem?_getD, List.getElem?_map, List.getElem?_eq_getElem hi, h1]
        rfl
      have := run_convert_bytes_arg (P := P) w src e hs he a.block a.off (e0 :: er).length cap ((e0 :: er).map numOf) (by simp) hxs dst hd
      rw [← hspot] at this
      rw [this]
      congr 1
      simp only [strOfNums]
      congr 3
      apply List.ext_getElem?
      intro i
      by_cases hi : i < (e0 :: er).length
      · obtain ⟨n, h1, h2, _⟩ := hcell i _ (List.getElem?_eq_getElem hi)
        rw [h2]
        simp only [List.map_map, List.getElem?_map, List.getElem?_eq_getElem hi, Option.map_some, Function.comp, h1, numOf]
      · rw [List.getElem?_eq_none (by simpa using hi), List.getElem?_eq_none (by rw [← hl]; omega)]

theorem r_minmax {k : IntKind} {a b : Int} {ts : Array TypeId} {ty : TypeId} :
    (Builtin.min_ ts ty #[.int k a, .int k b]).run P w = .ok (.int k (min a b)) w ∧ (Builtin.max_ ts ty #[.int k a, .int k b]).run P w = .ok (.int k (max a b)) w := by
  constructor
  · simp [Builtin.min_, Builtin.min2]
    split <;> omega
  · simp [Builtin.max_, Builtin.max2]
    split <;> omega

/-- Cells set from an offset on. -/
theorem foldl_set (off : Nat) : ∀ (l : List Value) (k : Nat) (cells : Array Value), off + k + l.length ≤ cells.size →
    ((l.zipIdx k).foldl (fun cs (c, j) => cs.setIfInBounds (off + j) c) cells).toList = cells.toList.take (off + k) ++ l ++ cells.toList.drop (off + k + l.length)
  | [], k, cells, h => by simp
  | c :: l, k, cells, h => by
    simp only [List.length_cons] at h
    simp only [List.zipIdx_cons, List.foldl_cons]
    rw [foldl_set off l (k + 1) _ (by simp; omega)]
    apply List.ext_getElem?
    intro i
    have hk : off + k < cells.size := by omega
    simp only [Array.toList_setIfInBounds, List.getElem?_append, List.length_append, List.length_take, List.length_set, Array.length_toList, List.getElem?_take, List.getElem?_drop, List.length_cons, List.getElem?_set]
    have e0 : min (off + (k + 1)) cells.size = off + (k + 1) := by omega
    have e0' : min (off + k) cells.size = off + k := by omega
    rw [e0, e0']
    rcases Nat.lt_trichotomy i (off + k) with hi | hi | hi
    · rw [if_pos (by omega), if_pos (by omega), if_pos (by omega), if_neg (by omega), if_pos (by omega), if_pos (by omega), if_pos hi]
    · subst hi
      rw [if_pos (by omega), if_pos (by omega), if_pos (by omega), if_pos rfl, if_pos hk, if_pos (by omega), if_neg (by omega)]
      simp
    · rw [if_neg (by omega : ¬ i < off + (k + 1)), if_neg (by omega : ¬ i < off + k)]
      by_cases hi2 : i < off + (k + 1) + l.length
      · have c1 : i - (off + k) = (i - (off + (k + 1))) + 1 := by omega
        rw [if_pos hi2, if_pos (by omega), c1, List.getElem?_cons_succ]
      · rw [if_neg hi2, if_neg (by omega), if_neg (by omega)]
        congr 1
        omega

/-- Cells that are related. -/
def CRel (φ : Place) (W : Nat → Prop) (w : World) (cs : List V) (vs : List Value) : Prop :=
  cs.length = vs.length ∧ (∀ v ∈ vs, v.oneCell' = true) ∧ ∀ (i : Nat) (c : V) (v : Value), cs[i]? = some c → vs[i]? = some v → VRel φ W w c v

theorem CRel.splice {cs ns : List V} {vs us : List Value} {off : Nat} (h : CRel φ W w cs vs) (k : CRel φ W w ns us) (hle : off + ns.length ≤ cs.length) :
    CRel φ W w (cs.take off ++ ns ++ cs.drop (off + ns.length)) (vs.take off ++ us ++ vs.drop (off + us.length)) := by
  obtain ⟨h1, h2, h3⟩ := h
  obtain ⟨k1, k2, k3⟩ := k
  refine ⟨by simp; omega, fun v hv => ?_, fun i c v hc hv => ?_⟩
  · simp only [List.mem_append] at hv
    rcases hv with (hv | hv) | hv
    · exact h2 v (List.mem_of_mem_take hv)
    · exact k2 v hv
    · exact h2 v (List.mem_of_mem_drop hv)
  · rw [← k1] at hv
    simp only [List.getElem?_append, List.length_append, List.length_take, List.getElem?_take, List.getElem?_drop] at hc hv
    have e1 : min off cs.length = off := by omega
    have e2 : min off vs.length = off := by omega
    rw [e1] at hc
    rw [e2, ← k1] at hv
    split at hc <;> rename_i g1
    · rw [if_pos g1] at hv
      split at hc <;> rename_i g2
      · rw [if_pos g2] at hv
        rw [if_pos g2] at hv
        exact h3 i c v hc hv
      · rw [if_neg g2] at hv
        exact k3 _ c v hc hv
    · rw [if_neg g1] at hv
      exact h3 _ c v hc hv

theorem crel_of (h : VRel φ W w x cv) (hs : x.storable = true) : CRel φ W w x.cells cv.cells.toList := by
  obtain ⟨h1, h2, h3⟩ := cells_rel h hs
  exact ⟨by simpa using h1.symm, h2, fun i c v hc hv => h3 i c v hc (by simpa using hv)⟩

theorem fill_ok {place : Nat → Option (Nat × Nat)} : ∀ (parts : List (Nat × V)) (cparts : List (Nat × Value)) (cells : List V) (cs : Array Value) (r : List V), CRel φ W w cells cs.toList →
    parts.length = cparts.length → (∀ (k : Nat) (p : Nat × V) (q : Nat × Value), parts[k]? = some p → cparts[k]? = some q → p.1 = q.1 ∧ VRel φ W w p.2 q.2) → fillV place cells parts = some r →
    ∃ cs', Instr.fill place cs cparts = some cs' ∧ CRel φ W w r cs'.toList
  | [], cparts, cells, cs, r, hc, hl, _, h => by
    have : cparts = [] := List.eq_nil_of_length_eq_zero (by simpa using hl.symm)
    subst this
    simp only [fillV] at h
    cases h
    exact ⟨cs, rfl, hc⟩
  | (i, v) :: parts, [], cells, cs, r, hc, hl, _, h => by simp at hl
  | (i, v) :: parts, (i', cv) :: cparts, cells, cs, r, hc, hl, hr, h => by
    obtain ⟨hi, hv⟩ := hr 0 _ _ rfl rfl
    simp only at hi hv
    subst hi
    simp only [fillV] at h
    cases hp : place i with
    | none => simp [hp] at h
    | some os =>
      obtain ⟨off, size⟩ := os
      simp only [hp] at h
      split at h
      · cases h
      · rename_i hcond
        simp only [not_or] at hcond
        obtain ⟨c1, c2, c3⟩ := hcond
        have hst : v.storable = true := by simpa using c3
        have hcv := crel_of hv hst
        have hlen : v.cells.length = size := by simpa using c1
        have hcl : cv.cells.size = size := by have := hcv.1; simp at this; omega
        have hle : off + size ≤ cells.length := by omega
        have hcs : cells.length = cs.size := by have := hc.1; simpa using this
        have hfold : (cv.cells.zipIdx.foldl (fun cs (c, j) => cs.setIfInBounds (off + j) c) cs).toList = cs.toList.take off ++ cv.cells.toList ++ cs.toList.drop (off + cv.cells.toList.length) := by
          rw [← Array.foldl_toList, Array.toList_zipIdx]
          simpa using foldl_set off cv.cells.toList 0 cs (by simp; omega)
        have hsp := hc.splice hcv (off := off) (by omega)
        rw [hlen] at hsp
        obtain ⟨cs', e1, e2⟩ := fill_ok parts cparts _ (cv.cells.zipIdx.foldl (fun cs (c, j) => cs.setIfInBounds (off + j) c) cs) r (by rw [hfold]; exact hsp) (by simpa using hl)
          (fun k p q h1 h2 => hr (k + 1) p q (by simpa using h1) (by simpa using h2)) h
        refine ⟨cs', ?_, e2⟩
        simp only [Instr.fill, hp]
        rw [if_neg]
        · exact e1
        · simp [hcl]; omega

theorem crel_zero {zs : List V} {v : Value} (h : V.agg zs = ofVal v) : ∃ vs, v = .agg vs ∧ CRel φ W w zs vs.toList := by
  have hr := ofVal_ok (φ := φ) (W := W) (w := w) v
  rw [← h] at hr
  cases hr with
  | agg _ vs hl h1 hh => exact ⟨vs, rfl, by simpa using hl, h1, fun i c v hc hv => hh i c v hc (by simpa using hv)⟩

theorem r_build {t : TypeId} {parts : List (Nat × V)} {cparts : Array (Nat × Value)} {z : V} (hl : parts.length = cparts.size) (hr : ∀ (k : Nat) (p : Nat × V) (q : Nat × Value), parts[k]? = some p → cparts[k]? = some q → p.1 = q.1 ∧ VRel φ (Wr φ HF Z) w p.2 q.2)
    (h : buildV P t parts = some z) : ∃ v, (Instr.build t cparts).run P w = .ok v w ∧ VRel φ (Wr φ HF Z) w z v := by
  have hl' : parts.length = cparts.toList.length := by simpa using hl
  have hr' : ∀ (k : Nat) (p : Nat × V) (q : Nat × Value), parts[k]? = some p → cparts.toList[k]? = some q → p.1 = q.1 ∧ VRel φ (Wr φ HF Z) w p.2 q.2 := fun k p q h1 h2 => hr k p q h1 (by simpa using h2)
  have done : ∀ {r : List V} {cs' : Array Value}, CRel φ (Wr φ HF Z) w r cs'.toList → VRel φ (Wr φ HF Z) w (.agg r) (.agg cs') := fun hc => .agg _ _ (by simpa using hc.1) hc.2.1 fun i c v h1 h2 => hc.2.2 i c v h1 (by simpa using h2)
  unfold buildV at h
  split at h
  · rename_i zs hz
    unfold zeroV at hz
    split at hz
    · rename_i ti hti
      split at hz
      · rename_i zv hzv
        simp only [Option.some.injEq] at hz
        obtain ⟨vs, rfl, hcz⟩ := crel_zero (φ := φ) (W := Wr φ HF Z) (w := w) hz.symm
        split at h
        · rename_i fs hu
          split at h
          · rename_i pl hpl
            cases hf : fillV (fun i => pl[i]?) zs parts with
            | none => simp [hf] at h
            | some r =>
              simp [hf] at h
              subst h
              obtain ⟨cs', e1, e2⟩ := fill_ok parts cparts.toList zs vs r hcz hl' hr' hf
              refine ⟨.agg cs', run_build w t cparts cs' ?_, done e2⟩
              unfold placesOf at hpl
              simp only [Program.built, hti, hu, hzv, hpl, Value.cells]
              rw [← e1]
              congr 1
              funext i
              simp
          · cases h
        · rename_i n e hu
          split at h
          · rename_i ye hye
            cases hf : fillV (fun i => some (i * ye.size, ye.size)) zs parts with
            | none => simp [hf] at h
            | some r =>
              simp [hf] at h
              subst h
              obtain ⟨cs', e1, e2⟩ := fill_ok parts cparts.toList zs vs r hcz hl' hr' hf
              refine ⟨.agg cs', run_build w t cparts cs' ?_, done e2⟩
              simp only [Program.built, hti, hu, hzv, hye, Value.cells]
              exact e1
          · cases h
        · cases h
      · cases hz
    · cases hz
  · cases h

end

end Go.Abs

