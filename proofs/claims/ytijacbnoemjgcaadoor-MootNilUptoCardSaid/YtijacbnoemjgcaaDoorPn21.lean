/- Plain laws of configurations, by looking at all of them: groups are a part of 1, 2, 3, 4; each shard's owner is one of them (or 0, where there are none). -/
import Derived.Test.YtijacbnoemjgcaaDoorPn16
import Derived.Test.YtijacbnoemjgcaaDoorPn19
set_option linter.unusedVariables false
set_option linter.unusedSimpArgs false
set_option linter.unnecessarySimpa false
namespace Go.Proofs.YtijacbnoemjgcaaDoor

def allFrom : List Int → List (List Int)
  | [] => [[]]
  | g :: r => allFrom r ++ (allFrom r).map (g :: ·)
def upFrom (last : Int) : List Int := [1, 2, 3, 4].filter (fun g => decide (last < g))
theorem asc_mem (gs : List Int) : ∀ last : Int, 0 ≤ last → last ≤ 4 → ascB last gs = true → gs ∈ allFrom (upFrom last) := by
  induction gs with
  | nil =>
    intro last h0 h4 _
    have e : last = 0 ∨ last = 1 ∨ last = 2 ∨ last = 3 ∨ last = 4 := by omega
    rcases e with rfl | rfl | rfl | rfl | rfl <;> decide
  | cons g r ih =>
    intro last h0 h4 h
    simp only [ascB, groupB, Bool.and_eq_true, Bool.not_eq_true', decide_eq_false_iff_not, decide_eq_true_eq] at h
    obtain ⟨⟨h1, h2, h3⟩, h5⟩ := h
    have hr := ih g (by omega) h3 h5
    have e : last = 0 ∨ last = 1 ∨ last = 2 ∨ last = 3 := by omega
    have eg : g = 1 ∨ g = 2 ∨ g = 3 ∨ g = 4 := by omega
    rcases e with rfl | rfl | rfl | rfl <;> rcases eg with rfl | rfl | rfl | rfl <;> first | omega | (simp [upFrom, allFrom] at hr ⊢; rcases hr with hr | hr | hr | hr | hr | hr | hr | hr <;> simp [hr]) | (simp [upFrom, allFrom] at hr ⊢; rcases hr with hr | hr | hr | hr <;> simp [hr]) | (simp [upFrom, allFrom] at hr ⊢; rcases hr with hr | hr <;> simp [hr]) | (simp [upFrom, allFrom] at hr ⊢; simp [hr])

/-- Whether p holds of all groups, owners and one group more. -/
def allCfg (p : List Int → Own → Int → Bool) : Bool :=
  (allFrom [1, 2, 3, 4]).all fun gs => (if gs.isEmpty then [0] else gs).all fun a => (if gs.isEmpty then [0] else gs).all fun b => (if gs.isEmpty then [0] else gs).all fun c => (if gs.isEmpty then [0] else gs).all fun d => [1, 2, 3, 4].all fun g => p gs ⟨a, b, c, d⟩ g
theorem allCfg_at {p : List Int → Own → Int → Bool} (h : allCfg p = true) {c : Cfg} (hc : checkB c = true) {g : Int} (hg : groupB g = true) : p c.gs c.o g = true := by
  simp only [checkB, Bool.and_eq_true] at hc
  obtain ⟨⟨_, hasc⟩, hown⟩ := hc
  have hm := asc_mem c.gs 0 (by omega) (by omega) hasc
  have hm' : c.gs ∈ allFrom [1, 2, 3, 4] := hm
  have ho : ∀ o ∈ c.own, o ∈ (if c.gs.isEmpty then [0] else c.gs) := by
    intro o ho
    have := List.all_eq_true.1 hown o ho
    unfold ownB at this
    by_cases h0 : c.gs.length = 0
    · rw [if_pos h0] at this
      rw [if_pos (by simpa using h0)]
      simpa using this
    · rw [if_neg h0] at this
      rw [if_neg (by simpa using h0)]
      simpa [inS] using this
  have hgm : g ∈ [(1 : Int), 2, 3, 4] := by
    simp only [groupB, Bool.and_eq_true, decide_eq_true_eq] at hg
    have : g = 1 ∨ g = 2 ∨ g = 3 ∨ g = 4 := by omega
    rcases this with rfl | rfl | rfl | rfl <;> simp
  unfold allCfg at h
  have h1 := List.all_eq_true.1 h c.gs hm'
  have h2 := List.all_eq_true.1 h1 c.o.a (ho _ (by simp [Cfg.own, Own.list]))
  have h3 := List.all_eq_true.1 h2 c.o.b (ho _ (by simp [Cfg.own, Own.list]))
  have h4 := List.all_eq_true.1 h3 c.o.c (ho _ (by simp [Cfg.own, Own.list]))
  have h5 := List.all_eq_true.1 h4 c.o.d (ho _ (by simp [Cfg.own, Own.list]))
  exact List.all_eq_true.1 h5 g hgm

/-- The last loop comes to its end within five rounds. -/
theorem gives : allCfg (fun gs o g => (inS g gs || (giveS (isort (gs ++ [g])) o).isSome) && (!inS g gs || gs.length == 1 || (giveS (offS g gs) o).isSome)) = true := by decide +kernel

end Go.Proofs.YtijacbnoemjgcaaDoor
