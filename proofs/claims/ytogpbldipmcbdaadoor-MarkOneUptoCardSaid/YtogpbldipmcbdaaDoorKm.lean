/- MarkOne: what stays so, vote by vote; the law's walk. -/
import Derived.Test.YtogpbldipmcbdaaDoorKl
set_option linter.unusedVariables false
set_option linter.unusedSimpArgs false
set_option linter.unnecessarySimpa false
namespace Go.Proofs.YtogpbldipmcbdaaDoor
open Go.RowKit Go.Shelf

/-- How many fail. -/
def cntF (set f : Int) : Nat → Nat
  | 0 => 0
  | k + 1 => cntF set f k + (if failsB set f k = true then 1 else 0)
theorem cntF_le (set f : Int) (hf : 0 ≤ f) (k : Nat) : (cntF set f k : Int) ≤ f ∧ (cntF set f k : Int) ≤ cntB set k := by
  induction k with
  | zero => simp [cntF, cntB]; omega
  | succ k ih =>
    have hb := bitI_rng set k
    simp only [cntF, cntB]
    split
    · rename_i h
      simp [failsB] at h
      obtain ⟨h1, h2⟩ := h
      simp only [cntB] at h2
      omega
    · omega
theorem pick_le (set f n : Int) (s : Bs) (vs : List Vot) (h : ∀ i (hi : i < vs.length), saidEq vs[i].n n vs[i].s s = true → failsB set f i = true) : ∀ k, k ≤ vs.length → (pickV n s 0 (vs.take k)).length ≤ cntF set f k := by
  intro k
  induction k with
  | zero => intro _; simp [pickV]
  | succ k ih =>
    intro hk
    have := ih (by omega)
    rw [pickV_take n s vs k (by omega), List.length_append]
    simp only [cntF]
    by_cases hq : saidEq vs[k].n n vs[k].s s = true
    · rw [if_pos hq, if_pos (h k (by omega) hq)]
      simp; omega
    · rw [if_neg hq]
      simp; omega
/-- What stays so while replica by replica votes. -/
structure OneM (set f : Int) (H : Bs) (j : Nat) (m : Mks) : Prop where
  g : m.g = 1
  ff : m.f = f
  len : (m.vs.length : Int) = 3 * f + 1
  was : ∀ i (hi : i < m.vs.length), m.vs[i].n = 4 → failsB set f i = true ∨ m.vs[i].s = H
  st : m.n = 0 ∨ (m.n = 4 ∧ m.s = H)
  tags : m.c.tags.length ≤ 1048576
theorem one_start (set f : Int) (hf : 0 ≤ f) (H : Bs) : OneM set f H 0 (m0 1 f) := by
  refine ⟨rfl, rfl, by simp [m0]; omega, ?_, .inl rfl, by simp [m0]⟩
  intro i hi h
  simp [m0] at h
theorem one_step {set f : Int} (hf : 0 ≤ f) (hf3 : f ≤ 3) {H : Bs} {j : Nat} {m : Mks} (h : OneM set f H j m) (x t : Bs) (hx : failsB set f j = true ∨ x = H) : OneM set f H (j + 1) (voteS m j 4 x t).m := by
  have key : ∀ hj : j < m.vs.length, ∀ i (hi : i < (m.vs.set j ⟨4, x, t⟩).length), (m.vs.set j ⟨4, x, t⟩)[i].n = 4 → failsB set f i = true ∨ (m.vs.set j ⟨4, x, t⟩)[i].s = H := by
    intro hj i hi h4
    simp only [List.length_set] at hi
    rw [List.getElem_set] at h4 ⊢
    split
    · rename_i e
      subst e
      exact hx
    · rename_i e
      rw [if_neg e] at h4
      exact h.was i hi h4
  unfold voteS
  split
  · exact ⟨h.g, h.ff, h.len, h.was, h.st, h.tags⟩
  · rename_i hno
    have hj : j < m.vs.length := by omega
    have hk := key hj
    split
    · exact ⟨h.g, h.ff, h.len, h.was, h.st, h.tags⟩
    · split
      · exact ⟨h.g, h.ff, h.len, h.was, h.st, h.tags⟩
      · split
        · exact ⟨h.g, h.ff, h.len, h.was, h.st, h.tags⟩
        · split
          · exact ⟨h.g, h.ff, by simp only [Int.toNat_natCast, List.length_set]; exact h.len, by simpa only [Int.toNat_natCast] using hk, h.st, h.tags⟩
          · split
            · exact ⟨h.g, h.ff, by simp only [Int.toNat_natCast, List.length_set]; exact h.len, by simpa only [Int.toNat_natCast] using hk, h.st, h.tags⟩
            · rename_i hfew
              refine ⟨h.g, h.ff, by simp only [Int.toNat_natCast, List.length_set]; exact h.len, by simpa only [Int.toNat_natCast] using hk, ?_, ?_⟩
              · right
                refine ⟨rfl, ?_⟩
                show x = H
                rcases Classical.em (x = H) with e | e
                · exact e
                · exfalso
                  simp only [Int.toNat_natCast] at hfew
                  have hp := pick_le set f 4 x (m.vs.set j ⟨4, x, t⟩) (by
                    intro i hi hq
                    simp [saidEq] at hq
                    rcases hk i hi hq.1 with a | a
                    · exact a
                    · rw [hq.2] at a; exact absurd a e) (m.vs.set j ⟨4, x, t⟩).length (Nat.le_refl _)
                  rw [List.take_length] at hp
                  have hc := (cntF_le set f hf (m.vs.set j ⟨4, x, t⟩).length).1
                  have := h.ff
                  rw [this] at hfew
                  omega
              · have := pickV_len 4 x (m.vs.set ((j : Int).toNat) ⟨4, x, t⟩) 0
                have h2 := h.len
                simp only [List.length_set] at this ⊢
                omega

end Go.Proofs.YtogpbldipmcbdaaDoor
