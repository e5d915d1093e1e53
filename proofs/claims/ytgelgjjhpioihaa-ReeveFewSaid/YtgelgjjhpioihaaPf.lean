/- Plain laws of a chain's own rulings: what it judges of them; each step. -/
import Derived.Test.YtgelgjjhpioihaaPe
namespace Go.Proofs.Ytgelgjjhpioihaa
set_option linter.unusedVariables false
set_option linter.unusedSimpArgs false

/-- What is told of commands: each with its answer. -/
def rulsS (cs : List Cfg) : List Cmd → Nat → List Rul
  | [], _ => []
  | x :: l, i => ⟨0, (i : Int) + 1, x, (doS cs x).2⟩ :: rulsS (doS cs x).1 l (i + 1)
def foldS (cs : List Cfg) (l : List Cmd) : List Cfg := l.foldl (fun cs x => (doS cs x).1) cs
theorem runS_fold (l : List Cmd) : runS l = foldS [cfg0] l := rfl
theorem rulsS_length (l : List Cmd) : ∀ (cs : List Cfg) (i : Nat), (rulsS cs l i).length = l.length := by
  induction l with
  | nil => intro cs i; rfl
  | cons x l ih => intro cs i; rw [rulsS, List.length_cons, ih, List.length_cons]
theorem judge_ruls (l : List Cmd) : ∀ (cs : List Cfg) (i j : Nat), judgeS cs (rulsS cs l i) j = (foldS cs l, -1) := by
  induction l with
  | nil => intro cs i j; rfl
  | cons x l ih =>
    intro cs i j
    rw [rulsS, judgeS, if_neg (by simp), ih]
    rfl
theorem rulsS_get (l : List Cmd) : ∀ (cs : List Cfg) (i k : Nat) (hk : k < l.length), (rulsS cs l i)[k]'(by rw [rulsS_length]; exact hk) = ⟨0, (i : Int) + k + 1, l[k], (doS (foldS cs (l.take k)) l[k]).2⟩ := by
  induction l with
  | nil => intro cs i k hk; simp at hk
  | cons x l ih =>
    intro cs i k hk
    cases k with
    | zero => simp [rulsS, foldS]
    | succ k =>
      have := ih (doS cs x).1 (i + 1) k (by simpa using hk)
      simp only [rulsS, List.getElem_cons_succ]
      rw [this]
      simp only [List.take_succ_cons, foldS, List.foldl_cons]
      congr 1
      omega
theorem rulsS_take (l : List Cmd) (k : Nat) (hk : k < l.length) : (rulsS [cfg0] l 0).take (k + 1) = (rulsS [cfg0] l 0).take k ++ [⟨0, (k : Int) + 1, l[k], (doS (runS (l.take k)) l[k]).2⟩] := by
  rw [List.take_succ_eq_append_getElem (by rw [rulsS_length]; exact hk), rulsS_get l [cfg0] 0 k hk]
  simp [runS_fold]
theorem fold_prefix (l : List Cmd) : ∀ cs : List Cfg, cs <+: foldS cs l := by
  induction l with
  | nil => intro cs; exact List.prefix_rfl
  | cons x l ih => intro cs; exact (do_prefix cs x).trans (ih _)
theorem run_prefix (l : List Cmd) (k : Nat) : runS (l.take k) <+: runS l := by
  have h : runS l = foldS (runS (l.take k)) (l.drop k) := by
    rw [runS_fold, runS_fold, foldS, foldS, foldS, ← List.foldl_append, List.take_append_drop]
  rw [h]
  exact fold_prefix _ _
theorem fold_good (l : List Cmd) : ∀ cs : List Cfg, Good cs → cs.length ≤ 41 → 0 < cs.length → Good (foldS cs l) := by
  induction l with
  | nil => intro cs h _ _; exact h
  | cons x l ih => intro cs h h1 h0; exact ih _ (good_do x h h0) (doS_len cs x h1 h0).1 (doS_len cs x h1 h0).2
theorem run_good (l : List Cmd) : Good (runS l) := fold_good l [cfg0] good0 (by simp) (by simp)

theorem few_step (l : List Cmd) (j : Nat) (hj : j < l.length) (kk : Nat) (hk : (runS (l.take j)).length = kk + 1) :
    ((doS (runS (l.take j)) l[j]).2 ≠ 0 → (runS (l.take (j + 1))).length = kk + 1) ∧
    ((doS (runS (l.take j)) l[j]).2 = 0 → ∃ h : kk + 1 < (runS l).length, (nextS (runS l)[kk] l[j]).2 = 0 ∧ (nextS (runS l)[kk] l[j]).1 = (runS l)[kk + 1] ∧ (runS (l.take (j + 1))).length = kk + 1 + 1) := by
  have ht := runS_take l j hj
  have hlast : (runS (l.take j)).getLastD cfg0 = (runS (l.take j))[kk] := by rw [last_get _ (by omega)]; simp only [hk, Nat.add_sub_cancel]
  constructor
  · intro hne
    rw [ht]
    rw [doS_is] at hne ⊢
    by_cases h1 : (nextS ((runS (l.take j)).getLastD cfg0) l[j]).2 ≠ 0
    · rw [if_pos h1]; exact hk
    · rw [if_neg h1] at hne ⊢
      by_cases h2 : 40 < (runS (l.take j)).length
      · rw [if_pos h2]; exact hk
      · rw [if_neg h2] at hne; simp at hne
  · intro h0
    have hd : (doS (runS (l.take j)) l[j]).1 = runS (l.take j) ++ [(nextS ((runS (l.take j)).getLastD cfg0) l[j]).1] ∧ (nextS ((runS (l.take j)).getLastD cfg0) l[j]).2 = 0 := by
      rw [doS_is] at h0 ⊢
      by_cases h1 : (nextS ((runS (l.take j)).getLastD cfg0) l[j]).2 ≠ 0
      · rw [if_pos h1] at h0; exact absurd h0 h1
      · rw [if_neg h1] at h0 ⊢
        by_cases h2 : 40 < (runS (l.take j)).length
        · rw [if_pos h2] at h0; simp at h0
        · rw [if_neg h2]; exact ⟨rfl, by simpa using h1⟩
    have hl1 : (runS (l.take (j + 1))).length = kk + 1 + 1 := by rw [ht, hd.1, List.length_append, hk]; rfl
    have p1 := run_prefix l (j + 1)
    obtain ⟨hb, e1⟩ := prefix_get p1 (kk + 1) (by omega)
    obtain ⟨hb0, e0⟩ := prefix_get p1 kk (by omega)
    have c0 : (runS (l.take (j + 1)))[kk]'(by omega) = (runS (l.take j))[kk] := by
      simp only [ht, hd.1]
      rw [List.getElem_append_left]
    have c1 : (runS (l.take (j + 1)))[kk + 1]'(by omega) = (nextS ((runS (l.take j)).getLastD cfg0) l[j]).1 := by
      simp only [ht, hd.1]
      rw [List.getElem_append_right (by omega)]
      simp [hk]
    refine ⟨hb, ?_, ?_, hl1⟩
    · rw [e0, c0, ← hlast]; exact hd.2
    · rw [e0, c0, ← hlast, e1, c1]

theorem few_step_at (l : List Cmd) (C : List Cfg) (hC : C = runS l) (j : Nat) (hj : j < l.length) (kk : Nat) (hk : (runS (l.take j)).length = kk + 1) :
    ((doS (runS (l.take j)) l[j]).2 ≠ 0 → (runS (l.take (j + 1))).length = kk + 1) ∧
    ((doS (runS (l.take j)) l[j]).2 = 0 → ∃ h : kk + 1 < C.length, (nextS (C[kk]'(by omega)) l[j]).2 = 0 ∧ (nextS (C[kk]'(by omega)) l[j]).1 = C[kk + 1] ∧ (runS (l.take (j + 1))).length = kk + 1 + 1) := by
  subst hC
  exact few_step l j hj kk hk

end Go.Proofs.Ytgelgjjhpioihaa
