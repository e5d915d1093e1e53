/- Plain laws of how deep lists stand in a text. -/
import Derived.Test.YtcmjalcmldgnkaaDoorNb
set_option linter.unusedVariables false
set_option linter.unusedSimpArgs false
set_option linter.unnecessarySimpa false
namespace Go.Proofs.YtcmjalcmldgnkaaDoor
open Go.Lib

def maxI (a b : Int) : Int := if a < b then b else a
def deepF : Nat → Bs → Int
  | 0, _ => 0
  | k + 1, s => match unpackO s with
    | none => 0
    | some l => l.foldl (fun d t => maxI d (1 + deepF k t)) 0
def deepB (s : Bs) : Int := deepF (s.length + 1) s
theorem unpack_shorter {s : Bs} {l : List Bs} (h : unpackO s = some l) : ∀ t ∈ l, t.length < s.length := by
  intro t ht
  have hp := (pack_unpack s.length s l (Nat.le_refl _) h).1
  have key : ∀ l : List Bs, t ∈ l → t.length < (packB l).length := by
    intro l
    induction l with
    | nil => simp
    | cons a l ih =>
      intro hm
      rw [packB_cons]
      rcases List.mem_cons.1 hm with rfl | hm
      · simp; omega
      · have := ih hm; simp; omega
  have := key l ht
  rwa [hp] at this
theorem foldl_congr {f g : Int → Bs → Int} (l : List Bs) : ∀ d : Int, (∀ d, ∀ t ∈ l, f d t = g d t) → l.foldl f d = l.foldl g d := by
  induction l with
  | nil => intro d _; rfl
  | cons a l ih =>
    intro d h
    rw [List.foldl_cons, List.foldl_cons, h d a (by simp)]
    exact ih _ (fun d t ht => h d t (by simp [ht]))
theorem deepF_more : ∀ (k : Nat) (s : Bs), s.length < k → deepF k s = deepB s := by
  intro k
  induction k using Nat.strongRecOn with
  | ind k ih =>
    intro s hs
    cases k with
    | zero => omega
    | succ k =>
      unfold deepB
      rw [deepF, deepF]
      cases hu : unpackO s with
      | none => rfl
      | some l =>
        simp only
        refine foldl_congr l 0 (fun d t ht => ?_)
        have hl := unpack_shorter hu t ht
        rw [ih k (by omega) t (by omega)]
        rcases Nat.lt_or_ge s.length (k + 1) with h | h
        · by_cases hk : s.length = k
          · rw [hk, ih k (by omega) t (by omega)]
          · rw [ih s.length (by omega) t hl]
        · omega
theorem deep_is (s : Bs) : deepB s = match unpackO s with
    | none => 0
    | some l => l.foldl (fun d t => maxI d (1 + deepB t)) 0 := by
  unfold deepB
  rw [deepF]
  cases hu : unpackO s with
  | none => rfl
  | some l =>
    simp only
    refine foldl_congr l 0 (fun d t ht => ?_)
    rw [deepF_more _ t (unpack_shorter hu t ht)]
    rfl
theorem deep_nonneg (s : Bs) : 0 ≤ deepB s := by
  rw [deep_is]
  split
  · omega
  · rename_i l _
    have : ∀ (l : List Bs) (d : Int), 0 ≤ d → 0 ≤ l.foldl (fun d t => maxI d (1 + deepB t)) d := by
      intro l
      induction l with
      | nil => intro d h; exact h
      | cons a l ih => intro d h; rw [List.foldl_cons]; refine ih _ ?_; unfold maxI; split <;> omega
    exact this l 0 (by omega)
theorem deep_bound : ∀ (n : Nat) (s : Bs), s.length ≤ n → deepB s ≤ s.length := by
  intro n
  induction n with
  | zero =>
    intro s hs
    have : s = [] := List.eq_nil_of_length_eq_zero (by omega)
    subst this
    rw [deep_is, unpack_nil]; simp
  | succ n ih =>
    intro s hs
    rw [deep_is]
    split
    · omega
    · rename_i l hu
      have hsh := unpack_shorter hu
      have : ∀ (l : List Bs) (d : Int), (∀ t ∈ l, t.length < s.length) → d ≤ s.length → l.foldl (fun d t => maxI d (1 + deepB t)) d ≤ s.length := by
        intro l
        induction l with
        | nil => intro d _ h; exact h
        | cons a l ih2 =>
          intro d hl h
          rw [List.foldl_cons]
          refine ih2 _ (fun t ht => hl t (by simp [ht])) ?_
          have h1 := hl a (by simp)
          have h2 := ih a (by omega)
          unfold maxI
          split <;> omega
      exact this l 0 hsh (by omega)
/-- A list as a text of another one is one deeper. -/
theorem deep_in (s : Bs) (h : s.length ≤ 999999999) : deepB (packB [s]) = 1 + deepB s := by
  rw [deep_is, unpack_pack [s] (by simpa using h)]
  simp only [List.foldl_cons, List.foldl_nil]
  have := deep_nonneg s
  unfold maxI
  split <;> omega

end Go.Proofs.YtcmjalcmldgnkaaDoor
