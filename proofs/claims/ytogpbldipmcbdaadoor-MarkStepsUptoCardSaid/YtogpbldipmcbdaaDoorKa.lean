/- Plain laws of marks' texts: what is written, what is read; there and back. -/
import Derived.Test.YtogpbldipmcbdaaDoorNb
import Derived.Lib.ItoaLen
set_option linter.unusedVariables false
set_option linter.unusedSimpArgs false
set_option linter.unnecessarySimpa false
namespace Go.Proofs.YtogpbldipmcbdaaDoor
open Go.Lib

/-- The word of a mark's text. -/
def wMark : Bs := [109, 97, 114, 107]
def mrkB (g n : Int) (s : Bs) : Bs := packB [wMark, itoa g, itoa n, s]
def mrkIn (g n : Int) : Bool := decide (0 ≤ g) && (decide (g ≤ 4) && (decide (1 ≤ n) && decide (n ≤ 1099511627776)))
/-- A mark's text, and an error. -/
def mrkT (g n : Int) (s : Bs) : Bs × Int :=
  if mrkIn g n = true then (if s.length ≤ 30000 then (if (mrkB g n s).length ≤ 30000 then (mrkB g n s, 0) else ([], 2)) else ([], 2)) else ([], 1)
structure MSaid where
  g : Int
  n : Int
  s : Bs
  e : Int
def mrkNo : MSaid := ⟨0, 0, [], 4⟩
/-- What a mark's text says, of the list that it is. -/
def mrkL (t : Bs) (b c d : Bs) : MSaid :=
  if (toNumB b).2 = 0 ∧ (toNumB c).2 = 0 ∧ mrkIn (toNumB b).1 (toNumB c).1 = true ∧ mrkB (toNumB b).1 (toNumB c).1 d = t ∧ t.length ≤ 30000 then ⟨(toNumB b).1, (toNumB c).1, d, 0⟩ else mrkNo
/-- What a mark's text says. -/
def mrkR (t : Bs) : MSaid :=
  match (unpackB t).1 with
  | [a, b, c, d] => if (unpackB t).2 = 0 then mrkL t b c d else mrkNo
  | _ => mrkNo
theorem mrkIn_iff (g n : Int) : mrkIn g n = true ↔ (0 ≤ g ∧ g ≤ 4 ∧ 1 ≤ n ∧ n ≤ 1099511627776) := by simp [mrkIn]
theorem unpackB_cases (t : Bs) : (unpackB t = ([], 4) ∧ unpackO t = none) ∨ ((unpackB t).2 = 0 ∧ unpackO t = some (unpackB t).1 ∧ packB (unpackB t).1 = t) := by
  unfold unpackB
  cases hu : unpackO t with
  | none => exact .inl ⟨rfl, rfl⟩
  | some l => exact .inr ⟨rfl, rfl, (pack_unpack t.length t l (Nat.le_refl _) hu).1⟩
theorem packB_le (l : List Bs) (s : Bs) (h : s ∈ l) : s.length ≤ (packB l).length := by
  induction l with
  | nil => cases h
  | cons a l ih =>
    rw [packB_cons]
    rcases List.mem_cons.1 h with rfl | h
    · simp; omega
    · have := ih h; simp; omega
theorem toNum_bounds (s : Bs) : -9223372036854775808 ≤ (toNumB s).1 ∧ (toNumB s).1 ≤ 9223372036854775807 := by
  unfold toNumB
  split
  · rename_i v hv
    have hb := atoiAll_bounds hv
    split
    · exact hb
    · simp
  · simp
theorem toNum_zero (s : Bs) (h : (toNumB s).2 = 0) : itoa (toNumB s).1 = s := by
  rcases toNum_cases s with e | ⟨_, e⟩
  · rw [e] at h; simp at h
  · exact e
theorem toNum_err (s : Bs) (h : ¬ (toNumB s).2 = 0) : toNumB s = (0, 4) := by
  rcases toNum_cases s with e | ⟨e, _⟩
  · exact e
  · rw [e] at h; simp at h
/-- The program's test is the document's. -/
theorem mrkL_ref (t a b c d : Bs) (hp : packB [a, b, c, d] = t) :
    mrkL t b c d = if (a = wMark ∧ t.length ≤ 30000) ∧ ((toNumB b).2 = 0 ∧ (toNumB c).2 = 0 ∧ mrkIn (toNumB b).1 (toNumB c).1 = true) then ⟨(toNumB b).1, (toNumB c).1, d, 0⟩ else mrkNo := by
  unfold mrkL
  by_cases h : (toNumB b).2 = 0 ∧ (toNumB c).2 = 0 ∧ mrkIn (toNumB b).1 (toNumB c).1 = true
  · obtain ⟨h1, h2, h3⟩ := h
    have e1 := toNum_zero b h1
    have e2 := toNum_zero c h2
    by_cases ha : a = wMark ∧ t.length ≤ 30000
    · rw [if_pos ⟨h1, h2, h3, by unfold mrkB; rw [e1, e2, ← hp, ha.1], ha.2⟩, if_pos ⟨ha, h1, h2, h3⟩]
    · rw [if_neg, if_neg (fun x => ha x.1)]
      rintro ⟨_, _, _, hm, hl⟩
      refine ha ⟨?_, hl⟩
      unfold mrkB at hm
      rw [e1, e2] at hm
      have hab : packB [wMark, b, c, d] = packB [a, b, c, d] := by rw [hm, hp]
      have hlen : ∀ s ∈ [wMark, b, c, d], s.length ≤ 999999999 := by
        intro s hs
        have := packB_le _ s hs
        rw [hm] at this
        omega
      have hlen2 : ∀ s ∈ [a, b, c, d], s.length ≤ 999999999 := by
        intro s hs
        have := packB_le _ s hs
        rw [hp] at this
        omega
      have u1 := unpack_pack _ hlen
      have u2 := unpack_pack _ hlen2
      rw [hab, u2] at u1
      simp at u1
      exact u1
  · rw [if_neg (fun x => h ⟨x.1, x.2.1, x.2.2.1⟩), if_neg (fun x => h x.2)]
theorem wMark_len : wMark.length = 4 := rfl
theorem mrkB_len (g n : Int) (s : Bs) (h : mrkIn g n = true) (hs : s.length ≤ 1000000000000) : (mrkB g n s).length ≤ s.length + 200 ∧ s.length ≤ (mrkB g n s).length := by
  rw [mrkIn_iff] at h
  have h1 := itoa_length_le g (by omega) (by omega)
  have h2 := itoa_length_le n (by omega) (by omega)
  unfold mrkB
  refine ⟨?_, packB_le _ _ (by simp)⟩
  rw [packB_cons, packB_cons, packB_cons, packB_cons]
  have e1 := itoa_length_le (wMark.length : Int) (by simp [wMark_len]) (by simp [wMark_len])
  have e2 := itoa_length_le ((itoa g).length : Int) (by omega) (by omega)
  have e3 := itoa_length_le ((itoa n).length : Int) (by omega) (by omega)
  have e4 := itoa_length_le (s.length : Int) (by omega) (by omega)
  simp [packB, wMark_len] at *
  omega
theorem mrkT_in (g n : Int) (s : Bs) (h : mrkIn g n = true) : mrkT g n s = if s.length ≤ 30000 then (if (mrkB g n s).length ≤ 30000 then (mrkB g n s, 0) else ([], 2)) else ([], 2) := by
  unfold mrkT; rw [if_pos h]
theorem mrkT_ok (g n : Int) (s : Bs) : (mrkT g n s).2 = 0 ↔ (mrkIn g n = true ∧ (mrkB g n s).length ≤ 30000) := by
  by_cases h : mrkIn g n = true
  · rw [mrkT_in g n s h]
    have hle := packB_le [wMark, itoa g, itoa n, s] s (by simp)
    change s.length ≤ (mrkB g n s).length at hle
    by_cases h1 : s.length ≤ 30000
    · by_cases h2 : (mrkB g n s).length ≤ 30000
      · rw [if_pos h1, if_pos h2]; simp [h, h2]
      · rw [if_pos h1, if_neg h2]; simp [h2]
    · rw [if_neg h1]; simp; omega
  · unfold mrkT; rw [if_neg h]; simp [h]
theorem mrkT_text (g n : Int) (s : Bs) (h : (mrkT g n s).2 = 0) : (mrkT g n s).1 = mrkB g n s := by
  obtain ⟨h1, h2⟩ := (mrkT_ok g n s).1 h
  have hle := packB_le [wMark, itoa g, itoa n, s] s (by simp)
  change s.length ≤ (mrkB g n s).length at hle
  rw [mrkT_in g n s h1, if_pos (by omega), if_pos h2]
/-- As the program tests it. -/
theorem mrkL_prog (t b c d : Bs) : mrkL t b c d = if (toNumB b).2 = 0 ∧ (toNumB c).2 = 0 ∧ (mrkT (toNumB b).1 (toNumB c).1 d).2 = 0 ∧ (mrkT (toNumB b).1 (toNumB c).1 d).1 = t then ⟨(toNumB b).1, (toNumB c).1, d, 0⟩ else mrkNo := by
  unfold mrkL
  by_cases h : (toNumB b).2 = 0 ∧ (toNumB c).2 = 0 ∧ mrkIn (toNumB b).1 (toNumB c).1 = true ∧ mrkB (toNumB b).1 (toNumB c).1 d = t ∧ t.length ≤ 30000
  · obtain ⟨h1, h2, h3, h4, h5⟩ := h
    have hz := (mrkT_ok (toNumB b).1 (toNumB c).1 d).2 ⟨h3, by rw [h4]; exact h5⟩
    rw [if_pos ⟨h1, h2, h3, h4, h5⟩, if_pos ⟨h1, h2, hz, by rw [mrkT_text _ _ _ hz]; exact h4⟩]
  · rw [if_neg h, if_neg]
    rintro ⟨h1, h2, h3, h4⟩
    obtain ⟨i1, i2⟩ := (mrkT_ok _ _ _).1 h3
    rw [mrkT_text _ _ _ h3] at h4
    exact h ⟨h1, h2, i1, h4, by rw [← h4]; exact i2⟩
/-- There and back. -/
theorem mrk_back (g n : Int) (s : Bs) (h : (mrkT g n s).2 = 0) : mrkR (mrkT g n s).1 = ⟨g, n, s, 0⟩ := by
  unfold mrkT at h ⊢
  split at h
  · rename_i h1
    rw [if_pos h1]
    split at h
    · rename_i h2
      rw [if_pos h2]
      split at h
      · rename_i h3
        rw [if_pos h3]
        have hi := (mrkIn_iff g n).1 h1
        have hu : unpackB (mrkB g n s) = ([wMark, itoa g, itoa n, s], 0) := by
          unfold unpackB
          have : unpackO (mrkB g n s) = some [wMark, itoa g, itoa n, s] := by
            unfold mrkB at h3 ⊢
            refine unpack_pack _ (fun x hx => ?_)
            have := packB_le _ x hx
            omega
          rw [this]
        have t1 := toNum_itoa g (by omega) (by omega)
        have t2 := toNum_itoa n (by omega) (by omega)
        unfold mrkR
        rw [hu]
        simp only [if_true]
        unfold mrkL
        rw [t1, t2]
        simp only
        rw [if_pos]
        exact ⟨trivial, trivial, h1, trivial, h3⟩
      · simp at h
    · simp at h
  · simp at h
/-- What is read of a text has that text. -/
theorem mrk_read (t : Bs) (h : (mrkR t).e = 0) : mrkT (mrkR t).g (mrkR t).n (mrkR t).s = (t, 0) := by
  unfold mrkR at h ⊢
  split at h
  · rename_i a b c d hl
    split at h
    · rename_i h0
      rw [if_pos h0]
      unfold mrkL at h ⊢
      split at h
      · rename_i hc
        obtain ⟨h1, h2, h3, h4, h5⟩ := hc
        rw [if_pos ⟨h1, h2, h3, h4, h5⟩]
        simp only
        unfold mrkT
        rw [if_pos h3, if_pos, if_pos (by rw [h4]; exact h5), h4]
        have := packB_le [wMark, itoa (toNumB b).1, itoa (toNumB c).1, d] d (by simp)
        unfold mrkB at h4
        rw [h4] at this
        omega
      · simp [mrkNo] at h
    · simp [mrkNo] at h
  · simp [mrkNo] at h

end Go.Proofs.YtogpbldipmcbdaaDoor
