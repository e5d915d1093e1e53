/- Configurations' texts, plain; there and back. -/
import Derived.Test.YtioikihehjacgaaGreatDoorCTexts8
import Derived.Test.YtioikihehjacgaaGreatDoorCTexts19
import Derived.Lib.ItoaLen
set_option linter.unusedVariables false
set_option linter.unusedSimpArgs false
set_option linter.unnecessarySimpa false
namespace Go.Proofs.YtioikihehjacgaaGreatDoor
open Go.Lib

/-- The word of a configuration's text. -/
def wCfg : Bs := [99, 111, 110, 102, 105, 103]
def cfgB (c : Cfg) : Bs := packB [wCfg, itoa c.num, lstB c.gs, lstB c.own]
/-- A configuration's text, and an error. -/
def cfgT (c : Cfg) : Bs × Int := if checkB c = true then (cfgB c, 0) else ([], 4)
def cfg00 : Cfg := ⟨0, [], ⟨0, 0, 0, 0⟩⟩
def cfgO (n : Int) (gs : List Int) (o : List Int) : Cfg × Int :=
  match o with
  | [a, b, c, d] => if checkB ⟨n, gs, ⟨a, b, c, d⟩⟩ = true then (⟨n, gs, ⟨a, b, c, d⟩⟩, 0) else (cfg00, 4)
  | _ => (cfg00, 4)
def cfgL (a b c d : Bs) : Cfg × Int :=
  if a = wCfg ∧ (toNumB b).2 = 0 ∧ (listedB c).2 = 0 ∧ (listedB d).2 = 0 then cfgO (toNumB b).1 (listedB c).1 (listedB d).1 else (cfg00, 4)
/-- The configuration of a text, and an error. -/
def cfgRd (t : Bs) : Cfg × Int :=
  match (unpackB t).1 with
  | [a, b, c, d] => if (unpackB t).2 = 0 then cfgL a b c d else (cfg00, 4)
  | _ => (cfg00, 4)
theorem unpackB_pack (l : List Bs) (hl : ∀ s ∈ l, s.length ≤ 999999999) : unpackB (packB l) = (l, 0) := by
  unfold unpackB
  rw [unpack_pack l hl]
theorem unpackB_some (t : Bs) (h : (unpackB t).2 = 0) : packB (unpackB t).1 = t := by
  unfold unpackB at h ⊢
  cases hu : unpackO t with
  | none => rw [hu] at h; simp at h
  | some l => exact (pack_unpack t.length t l (Nat.le_refl _) hu).1
theorem packB_len (l : List Bs) (m : Nat) (h : ∀ s ∈ l, s.length ≤ m) (hm : m ≤ 999999999) : (packB l).length ≤ l.length * (m + 30) := by
  induction l with
  | nil => simp [packB]
  | cons s l ih =>
    have h1 := h s (by simp)
    have h2 := ih (fun x hx => h x (by simp [hx]))
    have h3 := itoa_length_le (s.length : Int) (by omega) (by omega)
    rw [packB_cons, List.length_cons, Nat.add_mul]
    simp only [List.length_append, List.length_cons]
    omega
theorem lstB_len (l : List Int) (h : ∀ n ∈ l, 0 ≤ n ∧ n ≤ 1099511627776) (hl : l.length ≤ 1000) : (lstB l).length ≤ 100000 := by
  have := packB_len (l.map itoa) 30 (fun s hs => by
    obtain ⟨n, hn, rfl⟩ := List.mem_map.1 hs
    have := h n hn
    have := itoa_length_le n (by omega) (by omega)
    omega) (by omega)
  rw [List.length_map] at this
  unfold lstB
  omega
theorem listed_lst (l : List Int) (h : ∀ n ∈ l, 0 ≤ n ∧ n ≤ 1099511627776) (hl : l.length ≤ 1000) : listedB (lstB l) = (l, 0) := by
  unfold listedB lstB
  rw [unpackB_pack _ (fun s hs => by
    obtain ⟨n, hn, rfl⟩ := List.mem_map.1 hs
    have := h n hn
    have := itoa_length_le n (by omega) (by omega)
    omega)]
  simp only [if_true]
  rw [toNums_itoa l (fun n hn => by have := h n hn; omega)]
theorem listed_back (t : Bs) (h : (listedB t).2 = 0) : lstB (listedB t).1 = t := by
  unfold listedB at h ⊢
  by_cases h0 : (unpackB t).2 = 0
  · rw [if_pos h0] at h ⊢
    cases hn : toNums (unpackB t).1 with
    | none => rw [hn] at h; simp at h
    | some l =>
      simp only
      unfold lstB
      rw [toNums_some _ l hn, unpackB_some t h0]
  · rw [if_neg h0] at h; simp at h
/-- What is read of a configuration's text is it. -/
theorem cfg_back (c : Cfg) (h : checkB c = true) : cfgRd (cfgB c) = (c, 0) := by
  obtain ⟨h0, h1, hl, hg, h5⟩ := check_bounds h
  have hgs : ∀ n ∈ c.gs, 0 ≤ n ∧ n ≤ 1099511627776 := fun n hn => by have := hg n hn; omega
  have hon : ∀ n ∈ c.own, 0 ≤ n ∧ n ≤ 1099511627776 := by
    have a0 := h5 0 (by omega)
    have a1 := h5 1 (by omega)
    have a2 := h5 2 (by omega)
    have a3 := h5 3 (by omega)
    simp only [Own.get] at a0 a1 a2 a3
    intro n hn
    simp [Cfg.own, Own.list] at hn
    rcases hn with rfl | rfl | rfl | rfl <;> omega
  have hol : c.own.length ≤ 1000 := by simp [Cfg.own, Own.list]
  have hb1 := lstB_len c.gs hgs (by omega)
  have hb2 := lstB_len c.own hon hol
  have hb3 := itoa_length_le c.num (by omega) (by omega)
  unfold cfgRd cfgB
  rw [unpackB_pack _ (by
    intro s hs
    simp at hs
    rcases hs with rfl | rfl | rfl | rfl
    · simp [wCfg]
    · omega
    · omega
    · omega)]
  simp only [if_true]
  unfold cfgL
  rw [toNum_itoa c.num (by omega) (by omega), listed_lst c.gs hgs (by omega), listed_lst c.own hon hol, if_pos ⟨rfl, rfl, rfl, rfl⟩]
  obtain ⟨num, gs, ⟨a, b, cc, d⟩⟩ := c
  simp only [Cfg.own, Own.list, cfgO]
  rw [if_pos h]
/-- What is read has that text. -/
theorem cfg_again (t : Bs) (h : (cfgRd t).2 = 0) : checkB (cfgRd t).1 = true ∧ cfgB (cfgRd t).1 = t := by
  unfold cfgRd at h ⊢
  split at h
  · rename_i a b c d hl
    split at h
    · rename_i h0
      rw [if_pos h0]
      unfold cfgL at h ⊢
      split at h
      · rename_i hc
        rw [if_pos hc]
        obtain ⟨h1, h2, h3, h4⟩ := hc
        unfold cfgO at h ⊢
        split at h
        · rename_i o0 o1 o2 o3 ho
          split at h
          · rename_i hk
            rw [if_pos hk]
            refine ⟨hk, ?_⟩
            unfold cfgB
            simp only [Cfg.own, Own.list]
            rw [← ho, listed_back c h3, listed_back d h4, toNum_zero' b h2, ← h1, ← hl, unpackB_some t h0]
          · simp at h
        · simp at h
      · simp at h
    · simp at h
  · simp at h

end Go.Proofs.YtioikihehjacgaaGreatDoor
