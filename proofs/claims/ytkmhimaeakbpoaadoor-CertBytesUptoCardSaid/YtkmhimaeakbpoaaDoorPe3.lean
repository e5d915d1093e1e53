/- Plain laws of numbers' texts: what is written is read; what is no number's text. -/
import Derived.Lib.ItoaNum
import Derived.Lib.AtoiAllCases
set_option linter.unusedVariables false
set_option linter.unusedSimpArgs false
set_option linter.unnecessarySimpa false
namespace Go.Proofs.YtkmhimaeakbpoaaDoor
open Go.Lib

theorem pu_snoc (d : UInt8) (h0 : 48 ≤ d.toNat) (h9 : d.toNat ≤ 57) : ∀ (l : List UInt8) (acc n : Nat), parseUint10 acc l = .ok n → n * 10 + (d.toNat - 48) < 18446744073709551616 → parseUint10 acc (l ++ [d]) = .ok (n * 10 + (d.toNat - 48)) := by
  intro l
  induction l with
  | nil =>
    intro acc n h hb
    simp only [parseUint10] at h
    injection h with h
    subst h
    rw [List.nil_append, parseUint10, if_pos ⟨h0, h9⟩, if_neg (by omega), if_neg (by omega), parseUint10]
  | cons c r ih =>
    intro acc n h hb
    rw [List.cons_append, parseUint10]
    rw [parseUint10] at h
    split at h
    · rename_i hc
      rw [if_pos hc]
      split at h
      · cases h
      · rename_i hr
        rw [if_neg hr]
        split at h
        · cases h
        · rename_i hs
          rw [if_neg hs]
          exact ih _ _ h hb
    · cases h
theorem digit_val (u : Nat) (h : u < 10) : (UInt8.ofNat (48 + u)).toNat = 48 + u := by
  simp [UInt8.toNat_ofNat']; omega
theorem dec_ne (u : Nat) : decDigits u ≠ [] := by
  intro h
  have := decDigits_length u
  rw [h] at this
  have := nDigits_pos u
  simp at *
  omega
theorem pu_dec (u : Nat) : u < 18446744073709551616 → parseUint10 0 (decDigits u) = .ok u := by
  induction u using Nat.strongRecOn with
  | ind u ih =>
    intro hu
    rw [decDigits]
    split
    · rename_i h
      have hv := digit_val u h
      rw [parseUint10, if_pos (by omega), if_neg (by omega), if_neg (by omega), parseUint10, hv]
      congr 1; omega
    · rename_i h
      have hq := ih (u / 10) (by omega) (by omega)
      have hv := digit_val (u % 10) (by omega)
      have := pu_snoc (UInt8.ofNat (48 + u % 10)) (by omega) (by omega) _ 0 (u / 10) hq (by omega)
      rw [this, hv]
      congr 1; omega
theorem pm_dec (u : Nat) (hu : u < 18446744073709551616) : parseMag (decDigits u) = .ok u := by
  rw [parseMag, if_neg (dec_ne u)]
  exact pu_dec u hu
theorem dec_digit (u : Nat) : ∀ c ∈ decDigits u, 48 ≤ c.toNat ∧ c.toNat ≤ 57 := by
  induction u using Nat.strongRecOn with
  | ind u ih =>
    intro c hc
    rw [decDigits] at hc
    split at hc
    · rename_i h
      rw [List.mem_singleton] at hc
      have hv := digit_val u h
      rw [hc]; omega
    · rename_i h
      rcases List.mem_append.1 hc with hc | hc
      · exact ih (u / 10) (by omega) c hc
      · rw [List.mem_singleton] at hc
        have hv := digit_val (u % 10) (by omega)
        rw [hc]; omega
/-- What is written is read. -/
theorem atoi_itoa (n : Int) (h0 : -9223372036854775808 ≤ n) (h1 : n ≤ 9223372036854775807) : atoiAll (itoa n) = .ok n := by
  unfold itoa
  split
  · rename_i hn
    simp only [atoiAll]
    have e45 : (45 : UInt8).toNat = 45 := rfl
    rw [if_pos (Or.inr e45), pm_dec _ (by omega)]
    simp only [e45]
    rw [if_neg (by simp), if_neg (by omega)]
    simp
    omega
  · rename_i hn
    have hne := dec_ne n.toNat
    have hd := dec_digit n.toNat
    have hp := pm_dec n.toNat (by omega)
    cases hl : decDigits n.toNat with
    | nil => exact absurd hl hne
    | cons c r =>
      have hc := hd c (by rw [hl]; simp)
      rw [hl] at hp
      simp only [atoiAll]
      rw [if_neg (by omega), hp]
      simp only
      rw [if_neg (by omega), if_neg (by omega), if_neg (by omega)]
      congr 1; omega

/-- The number that a text is, and an error. -/
def toNumB (s : List UInt8) : Int × Int :=
  match atoiAll s with
  | .ok v => if itoa v = s then (v, 0) else (0, 4)
  | _ => (0, 4)
theorem toNum_itoa (n : Int) (h0 : -9223372036854775808 ≤ n) (h1 : n ≤ 9223372036854775807) : toNumB (itoa n) = (n, 0) := by
  unfold toNumB
  rw [atoi_itoa n h0 h1]
  simp
theorem toNum_cases (s : List UInt8) : (toNumB s = (0, 4)) ∨ (toNumB s = ((toNumB s).1, 0) ∧ itoa (toNumB s).1 = s) := by
  unfold toNumB
  split
  · split
    · rename_i h; exact .inr ⟨rfl, h⟩
    · exact .inl rfl
  · exact .inl rfl
theorem toNum_not (s : List UInt8) (h : ∀ n : Int, -9223372036854775808 ≤ n → n ≤ 9223372036854775807 → itoa n ≠ s) : toNumB s = (0, 4) := by
  unfold toNumB
  split
  · rename_i v hv
    have hb := atoiAll_bounds hv
    rw [if_neg (h v hb.1 hb.2)]
  · rfl

end Go.Proofs.YtkmhimaeakbpoaaDoor
