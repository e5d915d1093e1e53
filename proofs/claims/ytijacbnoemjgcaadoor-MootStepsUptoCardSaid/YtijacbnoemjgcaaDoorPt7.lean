/- Lists of ints: slices.Index, Contains, IndexFunc, cmp.Less; package chain's group. -/
import Derived.Test.YtijacbnoemjgcaaDoorRows
import Derived.Test.YtijacbnoemjgcaaDoorPt6
import Derived.Shelf.Abstract
set_option linter.unusedVariables false
set_option linter.unusedSimpArgs false
set_option linter.unnecessarySimpa false
namespace Go.Proofs.YtijacbnoemjgcaaDoor
open Go.RowKit Go.Shelf

def ints (l : List Int) : List Value := l.map (.int .i64)
theorem ints_length (l : List Int) : (ints l).length = l.length := by simp [ints]
theorem ints_append (l m : List Int) : ints (l ++ m) = ints l ++ ints m := by simp [ints]
theorem ints_get (l : List Int) (k : Nat) (hk : k < l.length) : (ints l)[k]? = some (.int .i64 l[k]) := by simp [ints, hk]
theorem ints_one (l : List Int) : ∀ u ∈ ints l, u.oneCell' = true := by intro u hu; simp [ints] at hu; obtain ⟨x, _, rfl⟩ := hu; rfl

theorem rd_get1 {w : World} {B : Nat} {v : Value} {l : List Int} (h : Rd w B 1 v l.length (ints l)) {k : Nat} (hk : k < l.length) :
    ∃ g off c, v = .slice (some ⟨g, off, none⟩) l.length c ∧ g < B ∧ w.cell? ⟨g, off + k, none⟩ = some (.int .i64 l[k]) := by
  obtain ⟨_, A, c, rfl, _, h0 | ⟨g, off, rfl, hg, hc⟩⟩ := h
  · omega
  · exact ⟨g, off, c, rfl, hg, hc _ _ (ints_get l k hk)⟩

/-- where a number stands first -/
def idxS (x : Int) : List Int → Int
  | [] => -1
  | r :: l => if x = r then 0 else (if idxS x l = -1 then -1 else idxS x l + 1)

theorem idxS_at (x : Int) (l : List Int) (k : Nat) (hk : k < l.length) (h : x = l[k]) (hb : ∀ j (hj : j < k), x ≠ l[j]) : idxS x l = k := by
  induction l generalizing k with
  | nil => simp at hk
  | cons a l ih =>
    cases k with
    | zero => simp at h; simp [idxS, h]
    | succ k =>
      have h0 := hb 0 (by omega)
      have hi := ih k (by simpa using hk) (by simpa using h) (fun j hj => by simpa using hb (j + 1) (by omega))
      simp at h0
      rw [idxS, if_neg h0, hi, if_neg (by omega)]; rfl
theorem idxS_none (x : Int) (l : List Int) (h : ∀ j (hj : j < l.length), x ≠ l[j]) : idxS x l = -1 := by
  induction l with
  | nil => rfl
  | cons a l ih =>
    have h0 := h 0 (by simp)
    simp at h0
    rw [idxS, if_neg h0, ih (fun j hj => by have := h (j + 1) (by simpa using hj); simpa using this), if_pos rfl]

def inS (x : Int) (l : List Int) : Bool := l.contains x
theorem idxS_in (x : Int) (l : List Int) : decide (0 ≤ idxS x l) = inS x l := by
  induction l with
  | nil => rfl
  | cons a l ih =>
    unfold inS at ih ⊢
    rw [idxS, List.contains_cons]
    by_cases h : x = a
    · simp [h]
    · rw [if_neg h]
      have hb : (x == a) = false := by simpa using h
      rw [hb, Bool.false_or, ← ih]
      by_cases h2 : idxS x l = -1
      · rw [if_pos h2, h2]
      · rw [if_neg h2]
        have : ∀ l : List Int, -1 ≤ idxS x l := by
          intro l
          induction l with
          | nil => simp [idxS]
          | cons b l ih =>
            rw [idxS]
            split
            · omega
            · split <;> omega
        have := this l
        rw [decide_eq_true (by omega), decide_eq_true (by omega)]

set_option maxHeartbeats 400000 in
theorem index_any (v : Value) (l : List Int) (x : Int) (w : World) (B : Nat) (hr : Rd w B 1 v l.length (ints l)) (hm : l.length ≤ 9223372036854775807) :
    Calls Tryd.prog 59 #[v, .int .i64 x] w fun e w' => e = .returned (.int .i64 (idxS x l)) ∧ w = w' := by
  have HR := Lib.hid hr
  obtain ⟨_, A, c, rfl, _, _⟩ := hr
  go_enter Tryd.func59, Tryd.ntmps59
  go_wp2
  go_loopw [5, 8] (fun _ s wr => ∃ k : Nat, k ≤ l.length ∧ s = .int .i64 k ∧ wr = w ∧ Hid (∀ j (hj : j < k) (hj' : j < l.length), x ≠ l[j])) (fun _ i _ => l.length - (intOf i).toNat)
  case atStart => exact ⟨0, Nat.zero_le _, rfl, rfl, fun j hj => by omega⟩
  case round =>
    obtain ⟨k, hk, rfl, rfl, hno⟩ := hrel
    by_cases hlt : k < l.length
    · obtain ⟨g, off, c', hV, hg, hc⟩ := rd_get1 HR.out hlt
      injection hV with hA _ hcc
      subst hA
      clear hcc
      cases hq : (x == l[k]) with
      | true =>
        have HQ := Lib.hid hq
        go_wp2
        go_ret
        refine ⟨?_, rfl⟩
        rw [idxS_at x l k hlt (by simpa using HQ.out) (fun j hj => hno.out j hj (by omega))]; rfl
      | false =>
        have HQ := Lib.hid hq
        go_wp2
        go_roundw
        case rel =>
          refine ⟨k + 1, by omega, by go_num, by trivial, ?_⟩
          intro j hj hj'
          rcases Nat.lt_or_ge j k with h | h
          · exact hno.out j h hj'
          · obtain rfl : j = k := by omega
            simpa using HQ.out
        case measure => simp [intOf]; omega
    · go_wp2
      go_ret
      refine ⟨?_, rfl⟩
      rw [idxS_none x l (fun j hj => hno.out j (by omega) hj)]; rfl

theorem contains_any (v : Value) (l : List Int) (x : Int) (w : World) (B : Nat) (hr : Rd w B 1 v l.length (ints l)) (hm : l.length ≤ 9223372036854775807) :
    Calls Tryd.prog 54 #[v, .int .i64 x] w fun e w' => e = .returned (.bool (inS x l)) ∧ w = w' := by
  go_enter Tryd.func54, Tryd.ntmps54
  go_wp2_with (go_at_call 59; refine (index_any v l x _ B hr hm).mono ?_; rintro e w' ⟨rfl, rfl⟩)
  go_ret
  refine ⟨?_, rfl⟩
  rw [idxS_in]
  rfl

def groupB (g : Int) : Bool := decide (1 ≤ g) && decide (g ≤ 4)
theorem group_any (g : Int) (w : World) :
    Calls Tryd.prog 53 #[.int .i64 g] w fun e w' => e = .returned (.bool (groupB g)) ∧ w = w' := by
  cases h : decide (1 ≤ g) with
  | false =>
    go_enter Tryd.func53, Tryd.ntmps53
    go_wp2
    go_ret
    refine ⟨by simp [groupB, h], rfl⟩
  | true =>
    go_enter Tryd.func53, Tryd.ntmps53
    go_wp2
    go_ret
    refine ⟨by simp [groupB, h], rfl⟩

theorem isNaN_any (g : Int) (w : World) :
    Calls Tryd.prog 85 #[.int .i64 g] w fun e w' => e = .returned (.bool false) ∧ w = w' := by
  go_enter Tryd.func85, Tryd.ntmps85
  go_wp2
  go_ret
  exact ⟨by simp, rfl⟩
theorem less_any (a b : Int) (w : World) :
    Calls Tryd.prog 71 #[.int .i64 a, .int .i64 b] w fun e w' => e = .returned (.bool (decide (a < b))) ∧ w = w' := by
  go_enter Tryd.func71, Tryd.ntmps71
  go_wp2_with (go_at_call 85; refine (isNaN_any _ _).mono ?_; rintro e w' ⟨rfl, rfl⟩)
  go_ret
  exact ⟨rfl, rfl⟩

end Go.Proofs.YtijacbnoemjgcaaDoor
