/- Proved here: what functions of the program compute, over the evaluator. No condition but those that each theorem states. -/
import Derived.Test.YtpffmpllnpmkbaaDoorE23
namespace Go.Abs
open Go.Proofs
set_option maxRecDepth 100000
set_option linter.unusedSimpArgs false
set_option linter.unusedVariables false

/-- The data of the last write of a sector. -/
def lastD (l : List (Int × List UInt8)) (k : Int) : List UInt8 := l.foldl (fun a w => if w.1 = k then w.2 else a) []
theorem lastD_take {l : List (Int × List UInt8)} {i : Nat} (h : i < l.length) (k : Int) : lastD (l.take (i + 1)) k = if l[i].1 = k then l[i].2 else lastD (l.take i) k := by
  unfold lastD
  rw [List.take_succ_eq_append_getElem h, List.foldl_append]
  rfl
def keysL (l : List (Int × List UInt8)) : List Int := wornK (l.map Prod.fst)
theorem keysL_take {l : List (Int × List UInt8)} {i : Nat} (h : i < l.length) : keysL (l.take (i + 1)) = if l[i].1 ∈ keysL (l.take i) then keysL (l.take i) else keysL (l.take i) ++ [l[i].1] := by
  unfold keysL
  have h' : i < (l.map Prod.fst).length := by simpa using h
  have := wornK_take h'
  simp only [List.map_take, List.getElem_map] at this ⊢
  exact this
theorem foldl_nodup : ∀ (B ks : List Int), ks.Nodup → (B.foldl (fun ks n => if n ∈ ks then ks else ks ++ [n]) ks).Nodup
  | [], ks, h => h
  | b :: B, ks, h => by
    rw [List.foldl_cons]
    refine foldl_nodup B _ ?_
    split
    · exact h
    · rename_i hn
      rw [List.nodup_append]
      refine ⟨h, by simp, fun a ha b' hb => ?_⟩
      rw [List.mem_singleton.1 hb]
      exact fun e => hn (e ▸ ha)
theorem keysL_nodup (l : List (Int × List UInt8)) : (keysL l).Nodup := foldl_nodup _ _ (by simp)
theorem mem_keysL {l : List (Int × List UInt8)} {k : Int} : k ∈ keysL l ↔ ∃ w ∈ l, w.1 = k := by
  unfold keysL
  rw [mem_worn]
  simp
theorem foldl_le : ∀ (B ks : List Int), (B.foldl (fun ks n => if n ∈ ks then ks else ks ++ [n]) ks).length ≤ ks.length + B.length
  | [], ks => by simp
  | b :: B, ks => by
    rw [List.foldl_cons]
    have := foldl_le B (if b ∈ ks then ks else ks ++ [b])
    rw [List.length_cons]
    split at this
    · rename_i h; simp only [h, if_true] at *; omega
    · rename_i h; simp only [h, if_false, List.length_append, List.length_singleton] at *; omega
theorem keysL_length (l : List (Int × List UInt8)) : (keysL l).length ≤ l.length := by
  have := foldl_le (l.map Prod.fst) []
  unfold keysL wornK
  simpa using this
/-- The last write of each sector, ascending. -/
def mergeL (l : List (Int × List UInt8)) : List (Int × List UInt8) := (sorted (keysL l)).map fun k => (k, lastD l k)
theorem mergeL_length (l : List (Int × List UInt8)) : (mergeL l).length = (keysL l).length := by simp [mergeL, sorted_length]

theorem findK_fun (k : Int) (f : Int → List UInt8) : ∀ (ks : List Int), findK (.int .i64 k) (ints ks) (ks.map fun c => .str (f c)) = some (if k ∈ ks then some (.str (f k)) else none)
  | [] => by simp [findK]
  | c :: ks => by
    simp only [List.map_cons, findK, sameKey]
    by_cases h : k = c
    · subst h; simp
    · have : (k == c) = false := by simpa using h
      simp only [if_true, this]
      have ih := findK_fun k f ks
      simp only [ints] at ih
      rw [ih]
      simp [h]
theorem setK_fun (k : Int) (s : List UInt8) (f : Int → List UInt8) : ∀ (ks : List Int), ks.Nodup → setK (.int .i64 k) (.str s) (ints ks) (ks.map fun c => .str (f c)) = ks.map fun c => .str (if k = c then s else f c)
  | [], _ => by simp [setK]
  | c :: ks, hn => by
    rw [List.nodup_cons] at hn
    simp only [List.map_cons, setK, sameKey]
    by_cases h : k = c
    · subst h
      simp
      intro a ha
      intro e
      exact absurd (e ▸ ha) hn.1
    · have : (k == c) = false := by simpa using h
      simp only [if_true, this]
      have ih := setK_fun k s f ks hn.2
      simp only [ints] at ih
      rw [ih]
      simp [h]

theorem Merge_eq (l : List (Int × List UInt8)) (hl : l.length ≤ 1000000) : bodyW DC 16 [.sl (l.map wrV)] [] = some (.own 0 (mergeL l).length 0 (mergeL l).length, [.dat true 2 ((mergeL l).map wrV)]) := by
  (refine gives_iff ?_; refine go_func Tryd.f16 rfl rfl (by simp [Tryd.f16]) ?_; dsimp only [codeL, Tryd.f16, scL, sopsL, guardL, dstAt, loopKey])
  (repeat (first
    | (apply is_ok; (case hw => simp); (case he => simp; exact is_rfl))
    | (apply op_no; (case hw => simp))
    | refine op_nil ?_ | refine next_normal ?_ | refine go_seq ?_ | refine go_region ?_ | refine go_skip ?_ | refine go_block ?_ | refine inb_normal ?_
    | (apply go_yes; (case hc => simp)) | (apply go_no; (case hc => simp))
    | refine go_exit ?_ | refine next_exit ?_ | refine inb_here ?_ | refine inb_past (by decide) ?_ | refine go_ret ?_ | refine next_ret ?_ | refine inb_ret ?_))
  refine go_count l.length (fun i => [(3, .map 0), (4, .own 1 (keysL (l.take i)).length 0 (keysL (l.take i)).length), (13, .sl (l.map wrV)), (14, .int .i64 l.length), (15, .int .i64 i)])
    (fun i => [.map true (ints (keysL (l.take i))) ((keysL (l.take i)).map fun c => .str (lastD (l.take i) c)), .dat true 1 (ints (keysL (l.take i)))]) (fun _ => True) (by simp [keysL, wornK]) trivial fun i hi _ => ?_
  have hw : IntKind.i64.wrap ((i : Int) + 1) = ((i + 1 : Nat) : Int) := wrap_id (by omega) (by omega)
  by_cases hlt : i < l.length
  · have hk := keysL_take hlt
    have hd := lastD_take hlt
    have hnd := keysL_nodup (l.take i)
    have hlen := keysL_length (l.take i)
    have hlen2 : (l.take i).length ≤ i := by rw [List.length_take]; omega
    have gx : l[i]? = some (l[i]'hlt) := List.getElem?_eq_getElem hlt
    generalize hx0 : l[i]'hlt = x at hk hd gx
    obtain ⟨k, s⟩ := x
    dsimp only at hk hd
    generalize l.take i = l0 at hk hd hnd hlen hlen2
    have hf := findK_fun k (lastD l0) (keysL l0)
    have hs := setK_fun k s (lastD l0) (keysL l0) hnd
    have r1 : ((keysL l0).length + 1) * 8 ≤ room := by unfold room; omega
    have r2 : (keysL l0).length + 1 ≤ room := by unfold room; omega
    by_cases hm : k ∈ keysL l0
    · rw [if_pos hm] at hf hk
      (repeat (first
    | (apply is_ok; (case hw => simp [hlt, gx, hx0, hf, hs]); (case he => simp [hlt, gx, hx0, hf, hs]; exact is_rfl))
    | (apply op_no; (case hw => simp [hlt, gx, hx0, hf, hs]))
    | refine op_nil ?_ | refine next_normal ?_ | refine go_seq ?_ | refine go_region ?_ | refine go_skip ?_ | refine go_block ?_ | refine inb_normal ?_
    | (apply go_yes; (case hc => simp [hlt, gx, hx0, hf, hs])) | (apply go_no; (case hc => simp [hlt, gx, hx0, hf, hs]))
    | refine go_exit ?_ | refine next_exit ?_ | refine inb_here ?_ | refine inb_past (by decide) ?_ | refine go_ret ?_ | refine next_ret ?_ | refine inb_ret ?_))
      exact ⟨hlt, by simp [hw, hk, hd], trivial⟩
    · rw [if_neg hm] at hf hk
      (repeat (first
    | (apply is_ok; (case hw => simp [hlt, gx, hx0, hf, hs, r1, r2]); (case he => simp [hlt, gx, hx0, hf, hs, r1, r2]; exact is_rfl))
    | (apply op_no; (case hw => simp [hlt, gx, hx0, hf, hs, r1, r2]))
    | refine op_nil ?_ | refine next_normal ?_ | refine go_seq ?_ | refine go_region ?_ | refine go_skip ?_ | refine go_block ?_ | refine inb_normal ?_
    | (apply go_yes; (case hc => simp [hlt, gx, hx0, hf, hs, r1, r2])) | (apply go_no; (case hc => simp [hlt, gx, hx0, hf, hs, r1, r2]))
    | refine go_exit ?_ | refine next_exit ?_ | refine inb_here ?_ | refine inb_past (by decide) ?_ | refine go_ret ?_ | refine next_ret ?_ | refine inb_ret ?_))
      refine ⟨hlt, ?_, trivial⟩
      have e : (keysL l0 ++ [k]).map (fun c => V.str (if k = c then s else lastD l0 c)) = (keysL l0).map (fun c => V.str (lastD l0 c)) ++ [V.str s] := by
        rw [List.map_append]
        congr 1
        · refine List.map_congr_left fun c hc => ?_
          rw [if_neg (fun h => hm (by rw [h]; exact hc))]
        · simp
      simp [hw, hk, hd, e]
  · have hin : i = l.length := by omega
    subst hin
    rw [List.take_length]
    have hkl := keysL_length l
    have hsl := sorted_length (keysL l)
    have r1 : (keysL l).length ≤ room := by unfold room; omega
    (repeat (first
    | (apply is_ok; (case hw => simp [r1, hsl]); (case he => simp [r1, hsl]; exact is_rfl))
    | (apply op_no; (case hw => simp [r1, hsl]))
    | refine op_nil ?_ | refine next_normal ?_ | refine go_seq ?_ | refine go_region ?_ | refine go_skip ?_ | refine go_block ?_ | refine inb_normal ?_
    | (apply go_yes; (case hc => simp [r1, hsl])) | (apply go_no; (case hc => simp [r1, hsl]))
    | refine go_exit ?_ | refine next_exit ?_ | refine inb_here ?_ | refine inb_past (by decide) ?_ | refine go_ret ?_ | refine next_ret ?_ | refine inb_ret ?_))
    rw [← hsl]
    have hmem : ∀ k ∈ sorted (keysL l), k ∈ keysL l := fun k h => sorted_mem.1 h
    have hmg : mergeL l = (sorted (keysL l)).map fun k => (k, lastD l k) := rfl
    generalize sorted (keysL l) = ks at hsl hmem hmg
    refine go_count ks.length (fun i => [(3, .map 0), (9, .own 1 i 0 i), (41, .own 2 ks.length 0 ks.length), (42, .int .i64 ks.length), (43, .int .i64 i)])
      (fun i => [.map true (ints (keysL l)) ((keysL l).map fun c => .str (lastD l c)), .dat true 2 (((ks.take i).map fun k => (k, lastD l k)).map wrV), .dat true 1 (ints ks)]) (fun _ => True) (by simp) trivial fun i hi _ => ?_
    have hw : IntKind.i64.wrap ((i : Int) + 1) = ((i + 1 : Nat) : Int) := wrap_id (by omega) (by omega)
    by_cases hlt : i < ks.length
    · have hx := hmem _ (List.getElem_mem hlt)
      have ht := List.take_succ_eq_append_getElem hlt
      have gx : ks[i]? = some (ks[i]'hlt) := List.getElem?_eq_getElem hlt
      generalize hx0 : ks[i]'hlt = x at hx ht gx
      have hf := findK_fun x (lastD l) (keysL l)
      rw [if_pos hx] at hf
      have r2 : (i + 1) * 24 ≤ room := by unfold room; omega
      have r3 : i + 1 ≤ room := by unfold room; omega
      have r4 : min i ks.length = i := by omega
      (repeat (first
    | (apply is_ok; (case hw => simp [hlt, gx, hx0, hf, r2, r3, r4]); (case he => simp [hlt, gx, hx0, hf, r2, r3, r4]; exact is_rfl))
    | (apply op_no; (case hw => simp [hlt, gx, hx0, hf, r2, r3, r4]))
    | refine op_nil ?_ | refine next_normal ?_ | refine go_seq ?_ | refine go_region ?_ | refine go_skip ?_ | refine go_block ?_ | refine inb_normal ?_
    | (apply go_yes; (case hc => simp [hlt, gx, hx0, hf, r2, r3, r4])) | (apply go_no; (case hc => simp [hlt, gx, hx0, hf, r2, r3, r4]))
    | refine go_exit ?_ | refine next_exit ?_ | refine inb_here ?_ | refine inb_past (by decide) ?_ | refine go_ret ?_ | refine next_ret ?_ | refine inb_ret ?_))
      exact ⟨hlt, by simp [hw, ht], trivial⟩
    · have hin : i = ks.length := by omega
      subst hin
      rw [List.take_length, ← hmg]
      have hml : (mergeL l).length = ks.length := by rw [hmg]; simp
      (repeat (first
    | (apply is_ok; (case hw => simp); (case he => simp; exact is_rfl))
    | (apply op_no; (case hw => simp))
    | refine op_nil ?_ | refine next_normal ?_ | refine go_seq ?_ | refine go_region ?_ | refine go_skip ?_ | refine go_block ?_ | refine inb_normal ?_
    | (apply go_yes; (case hc => simp)) | (apply go_no; (case hc => simp))
    | refine go_exit ?_ | refine next_exit ?_ | refine inb_here ?_ | refine inb_past (by decide) ?_ | refine go_ret ?_ | refine next_ret ?_ | refine inb_ret ?_))
      (apply ends_ok; (case h1 => simp; exact is_rfl); (case h2 => simp; exact is_rfl))
      simp [hml]
end Go.Abs
