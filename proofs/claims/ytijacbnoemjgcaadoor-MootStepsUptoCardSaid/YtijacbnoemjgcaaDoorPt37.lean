/- Lists of numbers as texts, plain; there and back. -/
import Derived.Test.YtijacbnoemjgcaaDoorPt3
import Derived.Test.YtijacbnoemjgcaaDoorPt29
set_option linter.unusedVariables false
set_option linter.unusedSimpArgs false
set_option linter.unnecessarySimpa false
namespace Go.Proofs.YtijacbnoemjgcaaDoor
open Go.Lib

/-- Numbers as a list's text. -/
def lstB (l : List Int) : Bs := packB (l.map itoa)
/-- The numbers of a list of texts, if each is one. -/
def toNums : List Bs → Option (List Int)
  | [] => some []
  | s :: l => if (toNumB s).2 = 0 then (toNums l).map ((toNumB s).1 :: ·) else none
/-- The numbers of a text, and an error. -/
def listedB (t : Bs) : List Int × Int :=
  if (unpackB t).2 = 0 then (match toNums (unpackB t).1 with
    | some l => (l, 0)
    | none => ([], 4)) else ([], 4)
theorem toNum_zero' (s : Bs) (h : (toNumB s).2 = 0) : itoa (toNumB s).1 = s := by
  rcases toNum_cases s with e | ⟨_, e⟩
  · rw [e] at h; simp at h
  · exact e
theorem toNums_itoa (l : List Int) (h : ∀ n ∈ l, -9223372036854775808 ≤ n ∧ n ≤ 9223372036854775807) : toNums (l.map itoa) = some l := by
  induction l with
  | nil => rfl
  | cons n l ih =>
    obtain ⟨h0, h1⟩ := h n (by simp)
    rw [List.map_cons, toNums, toNum_itoa n h0 h1, ih (fun x hx => h x (by simp [hx]))]
    rfl
theorem toNums_some : ∀ (l : List Bs) (ns : List Int), toNums l = some ns → ns.map itoa = l
  | [], ns, h => by simp [toNums] at h; subst h; rfl
  | s :: l, ns, h => by
    rw [toNums] at h
    split at h
    · rename_i h0
      cases hl : toNums l with
      | none => rw [hl] at h; simp at h
      | some ms =>
        rw [hl] at h
        simp at h
        subst h
        rw [List.map_cons, toNum_zero' s h0, toNums_some l ms hl]
    · cases h
theorem toNums_take (l : List Bs) (k : Nat) (hk : k < l.length) (ns : List Int) (h : toNums (l.take k) = some ns) :
    toNums (l.take (k + 1)) = if (toNumB l[k]).2 = 0 then some (ns ++ [(toNumB l[k]).1]) else none := by
  induction l generalizing k ns with
  | nil => simp at hk
  | cons s l ih =>
    cases k with
    | zero =>
      simp [toNums] at h
      subst h
      simp only [List.take_succ_cons, List.take_zero, toNums, List.getElem_cons_zero]
      split <;> rfl
    | succ k =>
      rw [List.take_succ_cons, toNums] at h
      rw [List.take_succ_cons, toNums, List.getElem_cons_succ]
      split at h
      · rename_i h0
        cases hl : toNums (l.take k) with
        | none => rw [hl] at h; simp at h
        | some ms =>
          rw [hl] at h
          simp at h
          subst h
          rw [if_pos h0, ih k (by simpa using hk) ms hl]
          split <;> simp
      · cases h
theorem toNums_none (l : List Bs) (k : Nat) (hk : k < l.length) (h : ¬ (toNumB l[k]).2 = 0) : toNums l = none := by
  induction l generalizing k with
  | nil => simp at hk
  | cons s l ih =>
    rw [toNums]
    cases k with
    | zero => rw [if_neg (by simpa using h)]
    | succ k =>
      rw [ih k (by simpa using hk) (by simpa using h)]
      split <;> rfl
theorem packB_mem (l : List Bs) (s : Bs) (h : s ∈ l) : s.length ≤ (packB l).length := by
  induction l with
  | nil => cases h
  | cons a l ih =>
    rw [packB_cons]
    simp only [List.length_append, List.length_cons]
    rcases List.mem_cons.1 h with rfl | h
    · omega
    · have := ih h; omega
theorem packB_cnt (l : List Bs) : l.length ≤ (packB l).length := by
  induction l with
  | nil => simp
  | cons a l ih => rw [packB_cons]; simp only [List.length_append, List.length_cons]; omega
/-- The texts of a text are no longer than it. -/
theorem unpackB_small (t : Bs) : (unpackB t).1.length ≤ t.length ∧ ∀ s ∈ (unpackB t).1, s.length ≤ t.length := by
  unfold unpackB
  cases hu : unpackO t with
  | none => simp
  | some l =>
    have hpc := (pack_unpack t.length t l (Nat.le_refl _) hu).1
    show l.length ≤ t.length ∧ ∀ s ∈ l, s.length ≤ t.length
    rw [← hpc]
    exact ⟨packB_cnt l, fun s hs => packB_mem l s hs⟩

end Go.Proofs.YtijacbnoemjgcaaDoor

namespace Go.Proofs.YtijacbnoemjgcaaDoor
open Go.RowKit Go.Shelf

structure Rul where
  client : Int
  number : Int
  x : Cmd
  err : Int
def Rul.cells (r : Rul) : List Value := [.int .i64 r.client, .int .i64 r.number, .int .i64 r.x.kind, .int .i64 r.x.group, .int .i64 r.x.shard, .int .i64 r.err]
def cellsU (l : List Rul) : List Value := l.flatMap Rul.cells
/-- The configurations behind the rulings cs, and the place of the first one that is answered otherwise (-1: none). -/
def judgeS (cs : List Cfg) : List Rul → Nat → List Cfg × Int
  | [], _ => (cs, -1)
  | r :: l, i => if (doS cs r.x).2 ≠ r.err then ((doS cs r.x).1, (i : Int)) else judgeS (doS cs r.x).1 l (i + 1)

theorem judge_drop (cs : List Cfg) (l : List Rul) (k : Nat) (hk : k < l.length) : judgeS cs (l.drop k) k = if (doS cs l[k].x).2 ≠ l[k].err then ((doS cs l[k].x).1, (k : Int)) else judgeS (doS cs l[k].x).1 (l.drop (k + 1)) (k + 1) := by
  rw [List.drop_eq_getElem_cons hk]; rfl
theorem cellsU_length (l : List Rul) : (cellsU l).length = l.length * 6 := by
  induction l with
  | nil => rfl
  | cons p l ih => rw [cellsU, List.flatMap_cons, List.length_append]; unfold cellsU at ih; rw [ih]; simp [Rul.cells]; omega
theorem cellsU_append (a b : List Rul) : cellsU (a ++ b) = cellsU a ++ cellsU b := by simp [cellsU]
theorem cellsU_get (l : List Rul) (k : Nat) (hk : k < l.length) (i : Nat) (hi : i < 6) : (cellsU l)[k * 6 + i]? = (Rul.cells l[k])[i]? := by
  induction l generalizing k with
  | nil => simp at hk
  | cons q l ih =>
    have hq : (Rul.cells q).length = 6 := by simp [Rul.cells]
    rw [cellsU, List.flatMap_cons]
    cases k with
    | zero => rw [Nat.zero_mul, Nat.zero_add, List.getElem?_append_left (by omega)]; rfl
    | succ k =>
      rw [List.getElem?_append_right (by omega), hq, show (k + 1) * 6 + i - 6 = k * 6 + i by omega]
      exact ih k (by simpa using hk)
theorem rd_rul {w : World} {B : Nat} {v : Value} {l : List Rul} (h : Rd w B 6 v l.length (cellsU l)) {k : Nat} (hk : k < l.length) :
    ∃ g off c, v = .slice (some ⟨g, off, none⟩) l.length c ∧ g < B ∧ ∀ i, i < 6 → ∀ u, (Rul.cells l[k])[i]? = some u → w.cell? ⟨g, off + (k * 6 + i), none⟩ = some u := by
  obtain ⟨_, A, c, rfl, hnc, h0⟩ := h
  rcases h0 with h0 | ⟨g, off, rfl, hg, hc⟩
  · omega
  · exact ⟨g, off, c, rfl, hg, fun i hi u hu => hc _ _ ((cellsU_get l k hk i hi).trans hu)⟩

end Go.Proofs.YtijacbnoemjgcaaDoor
