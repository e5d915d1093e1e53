/- Copies of elements of several cells; slices.Insert of a tag. -/
import Derived.Test.YtkmhimaeakbpoaaDoorPe19
import Derived.Laws.CopyOwn
import Derived.Lib.Overlaps
import Derived.Lib.AppendZerosOnto
import Derived.Lib.SliceRun
import Derived.Lib.JoinLaws
import Derived.Laws.Externs
set_option linter.unusedVariables false
set_option linter.unusedSimpArgs false
set_option linter.unnecessarySimpa false
namespace Go.Proofs.YtkmhimaeakbpoaaDoor
open Go.RowKit Go.Shelf

theorem run_copy_rowK {P : Program} (w : World) (dT sT ty elem : TypeId) (size g o dLen dCap : Nat) (a : Addr) (sLen sCap : Nat) (cur : Array Value) (t : TypeId) (m : Nat) (cs : List Value)
    (hu : P.underlying dT = some (.slice elem)) (hs : (P.info? elem).map (·.size) = some size)
    (hg : w.heap[g]? = some (.cells cur t (0, 0))) (hm : Nat.min sLen dLen = m) (hn : cs.length = m * size)
    (hsrc : ∀ j v, cs[j]? = some v → w.cell? (a.add j) = some v) (hfit : o + cs.length ≤ cur.size) (h1 : ∀ v ∈ cs, v.oneCell' = true) :
    (Builtin.copy_ #[dT, sT] ty #[.slice (some ⟨g, o, none⟩) dLen dCap, .slice (some a) sLen sCap]).run P w =
      .ok (goInt m) (w.setRow g (cur.toList.take o ++ cs ++ cur.toList.drop (o + cs.length)).toArray) := by
  have hl := run_loadCells_list (P := P) w a cs hsrc
  have hst := run_storeCells_at P g o t cs 0 cur w hg (by simpa using hfit) h1
  rw [hn] at hl
  cases hq : P.info? elem with
  | none => simp [hq] at hs
  | some i =>
    have hi : i.size = size := by simpa [hq] using hs
    simp [Builtin.copy_, run_underlying hu, Builtin.lenOf, Builtin.firstCells, sizeOf, typeInfo, hq, hi, hm, hl, hst]
theorem chg_setRow {w : World} {g : Nat} (cs : Array Value) : Chg (fun i => i = g) w (w.setRow g cs) :=
  ⟨rfl, rfl, rfl, by simp [World.setRow], fun k hk hn => setRow_other w g k cs hn⟩

theorem wpList_copy_K {P : Program} {w : World} {ops : Array Oper} {rest : List Oper} {o : Oper} {a : Act} {Q : Exit → Act → World → Prop} (hgd : o.guard = none) (d s : Operand) (dT sT : TypeId)
    (ho : o.op = .call { callee := .builtin .copy, args := #[d, s], argTypes := #[dT, sT] }) (elem : TypeId) (hu : P.underlying dT = some (.slice elem)) (size : Nat) (hsz : (P.info? elem).map (·.size) = some size)
    (g off dLen dCap : Nat) (ad : Addr) (sLen sCap : Nat) (hd : a.eval d = .slice (some ⟨g, off, none⟩) dLen dCap) (hs : a.eval s = .slice (some ad) sLen sCap)
    (cur : List Value) (t : TypeId) (hg : w.heap[g]? = some (.cells cur.toArray t (0, 0))) (m : Nat) (hm : Nat.min sLen dLen = m) (cs : List Value) (hn : cs.length = m * size)
    (hsrc : ∀ j v, cs[j]? = some v → w.cell? (ad.add j) = some v) (hfit : off + cs.length ≤ cur.length) (h1 : ∀ v ∈ cs, v.oneCell' = true)
    (h : ∀ w', Hid (Blk w' g t (splice cur off cs).toArray) → Hid (Chg (fun i => i = g) w w') → wpList P ops Q rest (a.put o.dst (goInt m)) w') :
    wpList P ops Q (o :: rest) a w := by
  refine wpList_plain hgd fun K hK => ?_
  have hrun := run_copy_rowK (P := P) w dT sT o.type elem size g off dLen dCap ad sLen sCap cur.toArray t m cs hu hsz hg hm hn hsrc (by simpa using hfit) h1
  unfold Oper.wp
  simp [execOp, ho, resolve, invoke, builtin, hd, hs, hrun, Result.andThen]
  exact hK _ _ (h _ (show _ = _ by simpa [splice] using setRow_heap w g _ _ t _ hg) (chg_setRow _))
theorem step_copy_K {P : Program} {ops : Array Oper} {o : Oper} {a : Act} {w : World} {K : Act → World → Prop} {Q : Exit → Act → World → Prop} {E : Prop} (hgd : o.guard = none) (d s : Operand) (dT sT : TypeId)
    (ho : o.op = .call { callee := .builtin .copy, args := #[d, s], argTypes := #[dT, sT] }) (elem : TypeId) (hu : P.underlying dT = some (.slice elem)) (size : Nat) (hsz : (P.info? elem).map (·.size) = some size)
    (g off dLen dCap : Nat) (ad : Addr) (sLen sCap : Nat) (hd : a.eval d = .slice (some ⟨g, off, none⟩) dLen dCap) (hs : a.eval s = .slice (some ad) sLen sCap)
    (cur : List Value) (t : TypeId) (hg : w.heap[g]? = some (.cells cur.toArray t (0, 0))) (m : Nat) (hm : Nat.min sLen dLen = m) (cs : List Value) (hn : cs.length = m * size)
    (hsrc : ∀ j v, cs[j]? = some v → w.cell? (ad.add j) = some v) (hfit : off + cs.length ≤ cur.length) (h1 : ∀ v ∈ cs, v.oneCell' = true)
    (h : ∀ w', Hid (Blk w' g t (splice cur off cs).toArray) → Hid (Chg (fun i => i = g) w w') → K (a.put o.dst (goInt m)) w') :
    if Region.wanted o (yielded ops a.tmps) = true then Oper.wp P o a w K Q else E := by
  have hw : Region.wanted o (yielded ops a.tmps) = true := by simp [Region.wanted, hgd]
  rw [if_pos hw]
  have hrun := run_copy_rowK (P := P) w dT sT o.type elem size g off dLen dCap ad sLen sCap cur.toArray t m cs hu hsz hg hm hn hsrc (by simpa using hfit) h1
  unfold Oper.wp
  simp [execOp, ho, resolve, invoke, builtin, hd, hs, hrun, Result.andThen]
  exact h _ (show _ = _ by simpa [splice] using setRow_heap w g _ _ t _ hg) (chg_setRow _)

/-- Room was there: what stands from i on is moved, then x is laid. -/
theorem splice_room (cur xs X D : List Value) (p q : Nat) (hpq : p ≤ q) (hX : X.length = 2) (hp : xs.length = q) (hD : D = xs.drop p) (ht : cur.take q = xs) (hq : q + 2 ≤ cur.length) :
    (splice (splice cur (p + 2) D) p X).take (q + 2) = xs.take p ++ (X ++ xs.drop p) := by
  have hDl : D.length = q - p := by rw [hD, List.length_drop, hp]
  have hcp : cur.take p = xs.take p := by rw [← ht, List.take_take, Nat.min_eq_left hpq]
  have h1 : (splice cur (p + 2) D).take p = xs.take p := by
    unfold splice
    rw [List.take_append_of_le_length (by rw [List.length_take]; omega), List.take_take, Nat.min_eq_left (by omega), hcp]
  have h2 : (splice cur (p + 2) D).drop (p + 2) = D ++ cur.drop (p + 2 + D.length) := by
    unfold splice
    rw [List.drop_append_of_le_length (by rw [List.length_take]; omega), List.drop_of_length_le (by rw [List.length_take]; omega), List.nil_append]
  rw [show splice (splice cur (p + 2) D) p X = (splice cur (p + 2) D).take p ++ (X ++ (splice cur (p + 2) D).drop (p + X.length)) from rfl, hX, h1, h2, ← hD]
  have hl : (xs.take p ++ (X ++ D)).length = q + 2 := by simp only [List.length_append, List.length_take, hX, hDl]; omega
  rw [← List.append_assoc X, ← List.append_assoc, List.take_append_of_le_length (by omega), List.take_of_length_le (by omega)]
/-- A new row: x is laid behind what stood ahead of i, then the others. -/
theorem splice_grow (pre X D z : List Value) (p q : Nat) (hp : pre.length = p) (hX : X.length = 2) (hD : D.length = q - p) (hpq : p ≤ q) (hz : q + 2 - p ≤ z.length) :
    (splice (splice (pre ++ z) p X) (p + 2) D).take (q + 2) = pre ++ (X ++ D) := by
  have e : (pre ++ z).take p = pre := by rw [List.take_append_of_le_length (by omega), List.take_of_length_le (by omega)]
  have h1 : (splice (pre ++ z) p X).take (p + 2) = pre ++ X := by
    unfold splice
    rw [e, ← List.append_assoc, List.take_append_of_le_length (by simp only [List.length_append]; omega), List.take_of_length_le (by simp only [List.length_append]; omega)]
  rw [show splice (splice (pre ++ z) p X) (p + 2) D = (splice (pre ++ z) p X).take (p + 2) ++ (D ++ (splice (pre ++ z) p X).drop (p + 2 + D.length)) from rfl, h1]
  rw [← List.append_assoc, List.take_append_of_le_length (by simp only [List.length_append]; omega), List.take_of_length_le (by simp only [List.length_append]; omega), List.append_assoc]
theorem splice_length (cur D : List Value) (p : Nat) (h : p + D.length ≤ cur.length) : (splice cur p D).length = cur.length := length_splice cur p D h
theorem cellsT_take (l : List TagV) (i : Nat) : cellsT (l.take i) = (cellsT l).take (i * 2) := by
  induction l generalizing i with
  | nil => simp [cellsT]
  | cons a l ih =>
    cases i with
    | zero => simp [cellsT]
    | succ i =>
      have := ih i
      simp only [cellsT, List.take_succ_cons, List.flatMap_cons] at this ⊢
      rw [this, show (i + 1) * 2 = (tagC a).length + i * 2 by simp [tagC]; omega, List.take_append, List.take_of_length_le (Nat.le_add_right _ _), Nat.add_sub_cancel_left]
theorem cellsT_drop (l : List TagV) (i : Nat) : cellsT (l.drop i) = (cellsT l).drop (i * 2) := by
  induction l generalizing i with
  | nil => simp [cellsT]
  | cons a l ih =>
    cases i with
    | zero => simp [cellsT]
    | succ i =>
      have := ih i
      simp only [cellsT, List.drop_succ_cons, List.flatMap_cons] at this ⊢
      rw [this, show (i + 1) * 2 = (tagC a).length + i * 2 by simp [tagC]; omega, List.drop_append, List.drop_of_length_le (Nat.le_add_right _ _), Nat.add_sub_cancel_left, List.nil_append]
theorem tag_size : (Tryd.prog.info? 64).map (·.size) = some 2 := by kernel_rfl

end Go.Proofs.YtkmhimaeakbpoaaDoor
