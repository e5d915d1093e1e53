/- Rulings: their cells; what a chain judges of them. (Not built yet: begun at the end of session 2.) -/
import Derived.Test.YtlhjhngaljgdgaaRs
namespace Go.Proofs.Ytlhjhngaljgdgaa
open Go.RowKit Go.Shelf
set_option linter.unusedVariables false
set_option linter.unusedSimpArgs false

structure Rul where
  client : Int
  number : Int
  x : Cmd
  err : Int
def Rul.cells (r : Rul) : List Value := [.int .i64 r.client, .int .i64 r.number, .int .i64 r.x.kind, .int .i64 r.x.group, .int .i64 r.x.shard, .int .i64 r.err]
def cellsU (l : List Rul) : List Value := l.flatMap Rul.cells
/-- The configurations behind the rulings cs, and the place of the first one that is answered otherwise (-1: none). -/
def judgeS (cs : List Cfg) : List Rul → Nat → List Cfg × Int
  | [], _ => (cs, -1)
  | r :: l, i => if (doS cs r.x).2 ≠ r.err then ((doS cs r.x).1, (i : Int)) else judgeS (doS cs r.x).1 l (i + 1)

theorem judge_drop (cs : List Cfg) (l : List Rul) (k : Nat) (hk : k < l.length) : judgeS cs (l.drop k) k = if (doS cs l[k].x).2 ≠ l[k].err then ((doS cs l[k].x).1, (k : Int)) else judgeS (doS cs l[k].x).1 (l.drop (k + 1)) (k + 1) := by
  rw [List.drop_eq_getElem_cons hk]; rfl
theorem cellsU_length (l : List Rul) : (cellsU l).length = l.length * 6 := by
  induction l with
  | nil => rfl
  | cons p l ih => rw [cellsU, List.flatMap_cons, List.length_append]; unfold cellsU at ih; rw [ih]; simp [Rul.cells]; omega
theorem cellsU_append (a b : List Rul) : cellsU (a ++ b) = cellsU a ++ cellsU b := by simp [cellsU]
theorem cellsU_get (l : List Rul) (k : Nat) (hk : k < l.length) (i : Nat) (hi : i < 6) : (cellsU l)[k * 6 + i]? = (Rul.cells l[k])[i]? := by
  induction l generalizing k with
  | nil => simp at hk
  | cons q l ih =>
    have hq : (Rul.cells q).length = 6 := by simp [Rul.cells]
    rw [cellsU, List.flatMap_cons]
    cases k with
    | zero => rw [Nat.zero_mul, Nat.zero_add, List.getElem?_append_left (by omega)]; rfl
    | succ k =>
      rw [List.getElem?_append_right (by omega), hq, show (k + 1) * 6 + i - 6 = k * 6 + i by omega]
      exact ih k (by simpa using hk)
theorem rd_rul {w : World} {B : Nat} {v : Value} {l : List Rul} (h : Rd w B 6 v l.length (cellsU l)) {k : Nat} (hk : k < l.length) :
    ∃ g off c, v = .slice (some ⟨g, off, none⟩) l.length c ∧ g < B ∧ ∀ i, i < 6 → ∀ u, (Rul.cells l[k])[i]? = some u → w.cell? ⟨g, off + (k * 6 + i), none⟩ = some u := by
  obtain ⟨_, A, c, rfl, hnc, h0⟩ := h
  rcases h0 with h0 | ⟨g, off, rfl, hg, hc⟩
  · omega
  · exact ⟨g, off, c, rfl, hg, fun i hi u hu => hc _ _ ((cellsU_get l k hk i hi).trans hu)⟩

end Go.Proofs.Ytlhjhngaljgdgaa
