/- Plain laws of lists as texts: Pack, Take, Unpack; there and back. -/
import Derived.Test.YtkmhimaeakbpoaaDoorPe3
set_option linter.unusedVariables false
set_option linter.unusedSimpArgs false
set_option linter.unnecessarySimpa false
namespace Go.Proofs.YtkmhimaeakbpoaaDoor
open Go.Lib

abbrev Bs := List UInt8
def itemB (s : Bs) : Bs := itoa s.length ++ 58 :: (s ++ [44])
def packB (l : List Bs) : Bs := l.flatMap itemB
theorem packB_append (a b : List Bs) : packB (a ++ b) = packB a ++ packB b := by simp [packB]
theorem packB_cons (s : Bs) (l : List Bs) : packB (s :: l) = itoa s.length ++ 58 :: (s ++ 44 :: packB l) := by simp [packB, itemB]
def splitColon : Bs → Option (Bs × Bs)
  | [] => none
  | c :: r => if c = 58 then some ([], r) else (splitColon r).map fun p => (c :: p.1, p.2)
theorem split_at (h r : Bs) (hn : ∀ c ∈ h, c ≠ 58) : splitColon (h ++ 58 :: r) = some (h, r) := by
  induction h with
  | nil => rfl
  | cons c h ih =>
    rw [List.cons_append, splitColon, if_neg (hn c (by simp)), ih (fun d hd => hn d (by simp [hd]))]
    rfl
theorem split_inv {s h r : Bs} (e : splitColon s = some (h, r)) : s = h ++ 58 :: r ∧ ∀ c ∈ h, c ≠ 58 := by
  induction s generalizing h with
  | nil => simp [splitColon] at e
  | cons c s ih =>
    rw [splitColon] at e
    by_cases hc : c = 58
    · rw [if_pos hc] at e
      simp at e
      obtain ⟨rfl, rfl⟩ := e
      subst hc
      exact ⟨rfl, by simp⟩
    · rw [if_neg hc] at e
      cases hs : splitColon s with
      | none => rw [hs] at e; simp at e
      | some p =>
        obtain ⟨h', r'⟩ := p
        rw [hs] at e
        simp at e
        obtain ⟨rfl, rfl⟩ := e
        obtain ⟨e1, e2⟩ := ih hs
        exact ⟨by rw [e1]; rfl, by intro d hd; rcases List.mem_cons.1 hd with rfl | hd; exact hc; exact e2 d hd⟩
theorem split_none {s : Bs} (e : splitColon s = none) : ∀ c ∈ s, c ≠ 58 := by
  induction s with
  | nil => simp
  | cons c s ih =>
    rw [splitColon] at e
    by_cases hc : c = 58
    · rw [if_pos hc] at e; simp at e
    · rw [if_neg hc] at e
      have := ih (by simpa using e)
      intro d hd
      rcases List.mem_cons.1 hd with rfl | hd
      · exact hc
      · exact this d hd
theorem itoa_no_colon (n : Nat) : ∀ c ∈ itoa n, c ≠ 58 := by
  intro c hc e
  have h : itoa (n : Int) = decDigits n := by unfold itoa; rw [if_neg (by omega)]; rfl
  rw [h] at hc
  have := dec_digit n c hc
  subst e
  simp at this
theorem itoa_len9 (n : Nat) : (itoa (n : Int)).length ≤ 9 ↔ n ≤ 999999999 := by
  have h : itoa (n : Int) = decDigits n := by unfold itoa; rw [if_neg (by omega)]; rfl
  rw [h, decDigits_length]
  constructor
  · intro h9
    have := lt_pow_nDigits n
    have h2 : 10 ^ nDigits n ≤ 10 ^ 9 := Nat.pow_le_pow_right (by omega) h9
    omega
  · intro h9
    rcases Nat.lt_or_ge (nDigits n) 10 with h | h
    · omega
    · exfalso
      have key : ∀ (k u : Nat), k + 1 ≤ nDigits u → 10 ^ k ≤ u ∨ k = 0 := by
        intro k
        induction k with
        | zero => intro u _; exact .inr rfl
        | succ k ih =>
          intro u hu
          left
          by_cases h10 : u < 10
          · rw [nDigits_small h10] at hu; omega
          · rw [nDigits_big h10] at hu
            rcases ih (u / 10) (by omega) with h1 | h1
            · have : 10 ^ (k + 1) = 10 ^ k * 10 := Nat.pow_succ 10 k
              omega
            · subst h1; omega
      rcases key 9 n h with h1 | h1 <;> omega

/-- The first text, and what is behind it, and an error. -/
def takeB (s : Bs) : Bs × Bs × Int :=
  match splitColon s with
  | none => ([], [], 4)
  | some (h, r) => if (toNumB h).2 = 0 ∧ h.length ≤ 9 ∧ 0 ≤ (toNumB h).1 ∧ (toNumB h).1 < r.length ∧ r[(toNumB h).1.toNat]? = some 44 then (r.take (toNumB h).1.toNat, r.drop ((toNumB h).1.toNat + 1), 0) else ([], [], 4)
theorem take_cases (s : Bs) : takeB s = ([], [], 4) ∨ ((takeB s).2.2 = 0 ∧ s = itoa (takeB s).1.length ++ 58 :: ((takeB s).1 ++ 44 :: (takeB s).2.1) ∧ (takeB s).1.length ≤ 999999999) := by
  unfold takeB
  split
  · exact .inl rfl
  · rename_i h r he
    split
    · rename_i hc
      obtain ⟨c1, c2, c3, c4, c5⟩ := hc
      right
      obtain ⟨e1, e2⟩ := split_inv he
      have hi : itoa (toNumB h).1 = h := by
        rcases toNum_cases h with e | ⟨_, e⟩
        · rw [e] at c1; simp at c1
        · exact e
      generalize (toNumB h).1 = n at *
      obtain ⟨k, rfl⟩ : ∃ k : Nat, n = (k : Int) := ⟨n.toNat, by omega⟩
      simp only [Int.toNat_natCast] at c5 ⊢
      have hk : k < r.length := by omega
      have hl : (r.take k).length = k := by rw [List.length_take]; omega
      rw [hl]
      refine ⟨trivial, ?_, (itoa_len9 k).1 (by rw [hi]; exact c2)⟩
      rw [hi, e1]
      congr 2
      rw [List.getElem?_eq_getElem hk] at c5
      injection c5 with c5
      rw [← c5, ← List.drop_eq_getElem_cons hk, List.take_append_drop]
    · exact .inl rfl
theorem take_item (t r : Bs) (ht : t.length ≤ 999999999) : takeB (itoa t.length ++ 58 :: (t ++ 44 :: r)) = (t, r, 0) := by
  unfold takeB
  rw [split_at _ _ (itoa_no_colon t.length)]
  have hn := toNum_itoa (t.length : Int) (by omega) (by omega)
  simp only [hn]
  rw [if_pos ⟨trivial, (itoa_len9 _).2 ht, by omega, by simp; omega, by simp⟩]
  simp

/-- The list that a text is, if it is one. -/
def unpackF : Nat → Bs → Option (List Bs)
  | _, [] => some []
  | 0, _ :: _ => none
  | k + 1, c :: s => if (takeB (c :: s)).2.2 = 0 then (unpackF k (takeB (c :: s)).2.1).map ((takeB (c :: s)).1 :: ·) else none
def unpackO (s : Bs) : Option (List Bs) := unpackF s.length s
def unpackB (s : Bs) : List Bs × Int := match unpackO s with
  | some l => (l, 0)
  | none => ([], 4)
theorem take_shorter (s : Bs) (h : (takeB s).2.2 = 0) : (takeB s).2.1.length + 2 ≤ s.length := by
  rcases take_cases s with e | ⟨_, e, _⟩
  · rw [e] at h; simp at h
  · have := congrArg List.length e
    simp at this
    omega
theorem unpackF_more : ∀ (k : Nat) (s : Bs), s.length ≤ k → unpackF k s = unpackO s := by
  intro k
  induction k using Nat.strongRecOn with
  | ind k ih =>
    intro s hs
    unfold unpackO
    cases s with
    | nil => cases k <;> rfl
    | cons c s =>
      cases k with
      | zero => simp at hs
      | succ k =>
        simp only [List.length_cons, unpackF]
        by_cases h : (takeB (c :: s)).2.2 = 0
        · rw [if_pos h, if_pos h]
          have hl := take_shorter _ h
          simp only [List.length_cons] at hl hs
          rw [ih k (by omega) _ (by omega)]
          rcases Nat.lt_or_ge s.length (k + 1) with h2 | h2
          · rw [ih s.length h2 _ (by omega)]
          · omega
        · rw [if_neg h, if_neg h]
theorem unpack_nil : unpackO [] = some [] := rfl
theorem unpack_step (s : Bs) (h0 : s ≠ []) : unpackO s = if (takeB s).2.2 = 0 then (unpackO (takeB s).2.1).map ((takeB s).1 :: ·) else none := by
  cases s with
  | nil => exact absurd rfl h0
  | cons c s =>
    show unpackF (s.length + 1) (c :: s) = _
    rw [unpackF]
    split
    · rename_i h
      have hl := take_shorter _ h
      simp only [List.length_cons] at hl
      rw [unpackF_more _ _ (by omega)]
    · rfl
/-- What was packed is unpacked. -/
theorem unpack_pack (l : List Bs) (hl : ∀ s ∈ l, s.length ≤ 999999999) : unpackO (packB l) = some l := by
  induction l with
  | nil => rfl
  | cons t l ih =>
    have hne : packB (t :: l) ≠ [] := by rw [packB_cons]; simp
    rw [unpack_step _ hne, packB_cons, take_item t _ (hl t (by simp)), if_pos rfl, ih (fun s hs => hl s (by simp [hs]))]
    rfl
/-- What is unpacked is packed so. -/
theorem pack_unpack : ∀ (n : Nat) (s : Bs) (l : List Bs), s.length ≤ n → unpackO s = some l → packB l = s ∧ ∀ t ∈ l, t.length ≤ 999999999 := by
  intro n
  induction n with
  | zero =>
    intro s l hs h
    have : s = [] := List.eq_nil_of_length_eq_zero (by omega)
    subst this
    rw [unpack_nil] at h
    simp at h
    subst h
    exact ⟨rfl, by simp⟩
  | succ n ih =>
    intro s l hs h
    by_cases h0 : s = []
    · subst h0
      rw [unpack_nil] at h
      simp at h
      subst h
      exact ⟨rfl, by simp⟩
    · rw [unpack_step s h0] at h
      split at h
      · rename_i hz
        have hsh := take_shorter s hz
        cases hu : unpackO (takeB s).2.1 with
        | none => rw [hu] at h; simp at h
        | some l' =>
          rw [hu] at h
          simp at h
          subst h
          obtain ⟨p1, p2⟩ := ih _ l' (by omega) hu
          rcases take_cases s with e | ⟨_, e, e9⟩
          · rw [e] at hz; simp at hz
          · refine ⟨?_, ?_⟩
            · rw [packB_cons, p1]; exact e.symm
            · intro t ht
              rcases List.mem_cons.1 ht with rfl | ht
              · exact e9
              · exact p2 t ht
      · cases h

end Go.Proofs.YtkmhimaeakbpoaaDoor
