/- Lists of numbers as texts, plain; there and back. -/
import Derived.Test.YtkmhimaeakbpoaaDoorPe4
set_option linter.unusedVariables false
set_option linter.unusedSimpArgs false
set_option linter.unnecessarySimpa false
namespace Go.Proofs.YtkmhimaeakbpoaaDoor
open Go.Lib

/-- Numbers as a list's text. -/
def lstB (l : List Int) : Bs := packB (l.map itoa)
/-- The numbers of a list of texts, if each is one. -/
def toNums : List Bs → Option (List Int)
  | [] => some []
  | s :: l => if (toNumB s).2 = 0 then (toNums l).map ((toNumB s).1 :: ·) else none
/-- The numbers of a text, and an error. -/
def listedB (t : Bs) : List Int × Int :=
  if (unpackB t).2 = 0 then (match toNums (unpackB t).1 with
    | some l => (l, 0)
    | none => ([], 4)) else ([], 4)
theorem toNum_zero' (s : Bs) (h : (toNumB s).2 = 0) : itoa (toNumB s).1 = s := by
  rcases toNum_cases s with e | ⟨_, e⟩
  · rw [e] at h; simp at h
  · exact e
theorem toNums_itoa (l : List Int) (h : ∀ n ∈ l, -9223372036854775808 ≤ n ∧ n ≤ 9223372036854775807) : toNums (l.map itoa) = some l := by
  induction l with
  | nil => rfl
  | cons n l ih =>
    obtain ⟨h0, h1⟩ := h n (by simp)
    rw [List.map_cons, toNums, toNum_itoa n h0 h1, ih (fun x hx => h x (by simp [hx]))]
    rfl
theorem toNums_some : ∀ (l : List Bs) (ns : List Int), toNums l = some ns → ns.map itoa = l
  | [], ns, h => by simp [toNums] at h; subst h; rfl
  | s :: l, ns, h => by
    rw [toNums] at h
    split at h
    · rename_i h0
      cases hl : toNums l with
      | none => rw [hl] at h; simp at h
      | some ms =>
        rw [hl] at h
        simp at h
        subst h
        rw [List.map_cons, toNum_zero' s h0, toNums_some l ms hl]
    · cases h
theorem toNums_take (l : List Bs) (k : Nat) (hk : k < l.length) (ns : List Int) (h : toNums (l.take k) = some ns) :
    toNums (l.take (k + 1)) = if (toNumB l[k]).2 = 0 then some (ns ++ [(toNumB l[k]).1]) else none := by
  induction l generalizing k ns with
  | nil => simp at hk
  | cons s l ih =>
    cases k with
    | zero =>
      simp [toNums] at h
      subst h
      simp only [List.take_succ_cons, List.take_zero, toNums, List.getElem_cons_zero]
      split <;> rfl
    | succ k =>
      rw [List.take_succ_cons, toNums] at h
      rw [List.take_succ_cons, toNums, List.getElem_cons_succ]
      split at h
      · rename_i h0
        cases hl : toNums (l.take k) with
        | none => rw [hl] at h; simp at h
        | some ms =>
          rw [hl] at h
          simp at h
          subst h
          rw [if_pos h0, ih k (by simpa using hk) ms hl]
          split <;> simp
      · cases h
theorem toNums_none (l : List Bs) (k : Nat) (hk : k < l.length) (h : ¬ (toNumB l[k]).2 = 0) : toNums l = none := by
  induction l generalizing k with
  | nil => simp at hk
  | cons s l ih =>
    rw [toNums]
    cases k with
    | zero => rw [if_neg (by simpa using h)]
    | succ k =>
      rw [ih k (by simpa using hk) (by simpa using h)]
      split <;> rfl
theorem packB_mem (l : List Bs) (s : Bs) (h : s ∈ l) : s.length ≤ (packB l).length := by
  induction l with
  | nil => cases h
  | cons a l ih =>
    rw [packB_cons]
    simp only [List.length_append, List.length_cons]
    rcases List.mem_cons.1 h with rfl | h
    · omega
    · have := ih h; omega
theorem packB_cnt (l : List Bs) : l.length ≤ (packB l).length := by
  induction l with
  | nil => simp
  | cons a l ih => rw [packB_cons]; simp only [List.length_append, List.length_cons]; omega
/-- The texts of a text are no longer than it. -/
theorem unpackB_small (t : Bs) : (unpackB t).1.length ≤ t.length ∧ ∀ s ∈ (unpackB t).1, s.length ≤ t.length := by
  unfold unpackB
  cases hu : unpackO t with
  | none => simp
  | some l =>
    have hpc := (pack_unpack t.length t l (Nat.le_refl _) hu).1
    show l.length ≤ t.length ∧ ∀ s ∈ l, s.length ≤ t.length
    rw [← hpc]
    exact ⟨packB_cnt l, fun s hs => packB_mem l s hs⟩

end Go.Proofs.YtkmhimaeakbpoaaDoor
