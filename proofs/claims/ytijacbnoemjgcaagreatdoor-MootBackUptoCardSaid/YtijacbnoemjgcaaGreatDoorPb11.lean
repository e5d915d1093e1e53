/- slices.Sort of at most twelve ints. -/
import Derived.Test.YtijacbnoemjgcaaGreatDoorPb10
set_option linter.unusedVariables false
set_option linter.unusedSimpArgs false
set_option linter.unnecessarySimpa false
namespace Go.Proofs.YtijacbnoemjgcaaGreatDoor
open Go.RowKit Go.Shelf
def SomeLen (w : World) (e : Ending) (w' : World) : Prop := (∃ l : Int, e = .returned (.int .i64 l)) ∧ w = w'
set_option maxRecDepth 100000 in
theorem len64_0 (w : World) : Calls Tryz.prog 97 #[.int .u64 0] w (SomeLen w) := by
  go_enter Tryz.func97, Tryz.ntmps97
  go_wp2
  go_ret
  exact ⟨⟨_, rfl⟩, rfl⟩
set_option maxRecDepth 100000 in
theorem len64_1 (w : World) : Calls Tryz.prog 97 #[.int .u64 1] w (SomeLen w) := by
  go_enter Tryz.func97, Tryz.ntmps97
  go_wp2
  go_ret
  exact ⟨⟨_, rfl⟩, rfl⟩
set_option maxRecDepth 100000 in
theorem len64_2 (w : World) : Calls Tryz.prog 97 #[.int .u64 2] w (SomeLen w) := by
  go_enter Tryz.func97, Tryz.ntmps97
  go_wp2
  go_ret
  exact ⟨⟨_, rfl⟩, rfl⟩
set_option maxRecDepth 100000 in
theorem len64_3 (w : World) : Calls Tryz.prog 97 #[.int .u64 3] w (SomeLen w) := by
  go_enter Tryz.func97, Tryz.ntmps97
  go_wp2
  go_ret
  exact ⟨⟨_, rfl⟩, rfl⟩
set_option maxRecDepth 100000 in
theorem len64_4 (w : World) : Calls Tryz.prog 97 #[.int .u64 4] w (SomeLen w) := by
  go_enter Tryz.func97, Tryz.ntmps97
  go_wp2
  go_ret
  exact ⟨⟨_, rfl⟩, rfl⟩
set_option maxRecDepth 100000 in
theorem len64_5 (w : World) : Calls Tryz.prog 97 #[.int .u64 5] w (SomeLen w) := by
  go_enter Tryz.func97, Tryz.ntmps97
  go_wp2
  go_ret
  exact ⟨⟨_, rfl⟩, rfl⟩
set_option maxRecDepth 100000 in
theorem len64_6 (w : World) : Calls Tryz.prog 97 #[.int .u64 6] w (SomeLen w) := by
  go_enter Tryz.func97, Tryz.ntmps97
  go_wp2
  go_ret
  exact ⟨⟨_, rfl⟩, rfl⟩
set_option maxRecDepth 100000 in
theorem len64_7 (w : World) : Calls Tryz.prog 97 #[.int .u64 7] w (SomeLen w) := by
  go_enter Tryz.func97, Tryz.ntmps97
  go_wp2
  go_ret
  exact ⟨⟨_, rfl⟩, rfl⟩
set_option maxRecDepth 100000 in
theorem len64_8 (w : World) : Calls Tryz.prog 97 #[.int .u64 8] w (SomeLen w) := by
  go_enter Tryz.func97, Tryz.ntmps97
  go_wp2
  go_ret
  exact ⟨⟨_, rfl⟩, rfl⟩
set_option maxRecDepth 100000 in
theorem len64_9 (w : World) : Calls Tryz.prog 97 #[.int .u64 9] w (SomeLen w) := by
  go_enter Tryz.func97, Tryz.ntmps97
  go_wp2
  go_ret
  exact ⟨⟨_, rfl⟩, rfl⟩
set_option maxRecDepth 100000 in
theorem len64_10 (w : World) : Calls Tryz.prog 97 #[.int .u64 10] w (SomeLen w) := by
  go_enter Tryz.func97, Tryz.ntmps97
  go_wp2
  go_ret
  exact ⟨⟨_, rfl⟩, rfl⟩
set_option maxRecDepth 100000 in
theorem len64_11 (w : World) : Calls Tryz.prog 97 #[.int .u64 11] w (SomeLen w) := by
  go_enter Tryz.func97, Tryz.ntmps97
  go_wp2
  go_ret
  exact ⟨⟨_, rfl⟩, rfl⟩
set_option maxRecDepth 100000 in
theorem len64_12 (w : World) : Calls Tryz.prog 97 #[.int .u64 12] w (SomeLen w) := by
  go_enter Tryz.func97, Tryz.ntmps97
  go_wp2
  go_ret
  exact ⟨⟨_, rfl⟩, rfl⟩
theorem len64_any (n : Nat) (w : World) (h : n ≤ 12) : Calls Tryz.prog 97 #[.int .u64 n] w (SomeLen w) := by
  have e : n = 0 ∨ n = 1 ∨ n = 2 ∨ n = 3 ∨ n = 4 ∨ n = 5 ∨ n = 6 ∨ n = 7 ∨ n = 8 ∨ n = 9 ∨ n = 10 ∨ n = 11 ∨ n = 12 := by omega
  rcases e with rfl | rfl | rfl | rfl | rfl | rfl | rfl | rfl | rfl | rfl | rfl | rfl | rfl
  · exact len64_0 w
  · exact len64_1 w
  · exact len64_2 w
  · exact len64_3 w
  · exact len64_4 w
  · exact len64_5 w
  · exact len64_6 w
  · exact len64_7 w
  · exact len64_8 w
  · exact len64_9 w
  · exact len64_10 w
  · exact len64_11 w
  · exact len64_12 w

theorem len_any (n : Nat) (W : World) (h : n ≤ 12) : Calls Tryz.prog 74 #[.int .u64 n] W fun e w' => (∃ l : Int, e = .returned (.int .i64 l)) ∧ W = w' := by
  go_enter Tryz.func74, Tryz.ntmps74
  go_wp2_with fail
  refine (len64_any n W h).mono ?_
  rintro e w' ⟨⟨l, rfl⟩, rfl⟩
  go_wp2_with fail
  go_ret
  exact ⟨⟨_, rfl⟩, rfl⟩

theorem grown_drewN {w w' : World} {r : Option Nat} (h : w.grownBy w' r) (n : Nat) : w.grownBy (w'.drewN n) r := by
  obtain ⟨a, b, c, d, e⟩ := h
  exact ⟨a, b, c, d, e⟩
def swapS (cur : List Int) (j : Nat) : List Int := (cur.set (j + 1) (cur.getD j 0)).set j (cur.getD (j + 1) 0)
def downS (cur : List Int) : Nat → List Int
  | 0 => cur
  | j + 1 => if cur.getD (j + 1) 0 < cur.getD j 0 then downS (swapS cur j) j else cur
def outK (l : List Int) : Nat → List Int
  | 0 => l
  | k + 1 => downS (outK l k) k
def isort (l : List Int) : List Int := outK l l.length
theorem swapS_length (cur : List Int) (j : Nat) : (swapS cur j).length = cur.length := by simp [swapS]
theorem downS_length (j : Nat) : ∀ cur : List Int, (downS cur j).length = cur.length := by
  induction j with
  | zero => intro cur; rfl
  | succ j ih =>
    intro cur
    rw [downS]
    split
    · rw [ih, swapS_length]
    · rfl
theorem outK_length (l : List Int) (k : Nat) : (outK l k).length = l.length := by
  induction k with
  | zero => rfl
  | succ k ih => rw [outK, downS_length, ih]

set_option maxHeartbeats 1000000 in
set_option maxRecDepth 100000 in
theorem insertion_any (g cap : Nat) (l : List Int) (w : World) (base : Nat) (h0 : 0 < l.length) (hm : l.length ≤ 12) (hown : w.ownsRow base 3 1 (.slice (some ⟨g, 0, none⟩) l.length cap) l.length (ints l)) :
    Calls Tryz.prog 87 #[.slice (some ⟨g, 0, none⟩) l.length cap, .int .i64 0, .int .i64 l.length] w fun e w' =>
      e = .returned (.tuple #[]) ∧ w'.ownsRow base 3 1 (.slice (some ⟨g, 0, none⟩) l.length cap) l.length (ints (isort l)) ∧ w.grownBy w' (some g) := by
  have HO := Lib.hid hown
  clear hown
  go_enter Tryz.func87, Tryz.ntmps87
  go_wp2
  go_loopw [6] (fun i wr => ∃ k : Nat, k + 1 ≤ l.length ∧ i = .int .i64 ((k : Int) + 1) ∧ Hid (wr.ownsRow base 3 1 (.slice (some ⟨g, 0, none⟩) l.length cap) l.length (ints (outK l (k + 1))) ∧ w.grownBy wr (some g))) (fun i _ => l.length - (intOf i).toNat)
  case atStart => exact ⟨0, by omega, rfl, HO.out, World.grownBy.refl _ _⟩
  case round =>
    obtain ⟨k, hk, rfl, hI⟩ := hrel
    by_cases hlt : k + 1 < l.length
    · have hk1 : (k : Int) + 1 < (l.length : Int) := by omega
      go_wp2_with fail
      go_loopw [7] (fun j wx => ∃ (jn : Nat) (cur : List Int), jn ≤ k + 1 ∧ j = .int .i64 jn ∧ Hid (downS cur jn = outK l (k + 2) ∧ cur.length = l.length ∧ wx.ownsRow base 3 1 (.slice (some ⟨g, 0, none⟩) l.length cap) l.length (ints cur) ∧ w.grownBy wx (some g))) (fun j _ => (intOf j).toNat)
      case atStart => exact ⟨k + 1, outK l (k + 1), Nat.le_refl _, by simp, rfl, outK_length _ _, hI.out.1, hI.out.2⟩
      case round =>
        obtain ⟨jn, cur, hjn, rfl, hJ⟩ := hrel
        obtain ⟨wo, rfl⟩ : ∃ wo : World, wo = wr := ⟨_, rfl⟩
        cases jn with
        | zero =>
          go_wp2_with fail
          go_quiet (fail)
          go_wp2_with fail
          go_roundw
          case rel => exact ⟨k + 1, by omega, by simp, by unfold Hid; rw [show k + 1 + 1 = k + 2 from rfl, ← hJ.out.1]; exact ⟨hJ.out.2.2.1, grown_drewN hJ.out.2.2.2 _⟩⟩
          case measure => simp [intOf]; omega
        | succ j =>
          obtain ⟨hds, hcl, hown, hg⟩ := hJ.out
          have ej : ((j + 1 : Nat) : Int) = (j : Int) + 1 := by omega
          rw [ej]
          have hj1 : (j : Int) + 1 < (l.length : Int) := by omega
          have hj2 : (j : Int) < (l.length : Int) := by omega
          have hj3 : (0 : Int) < (j : Int) + 1 := by omega
          have hj4 : (0 : Int) ≤ (j : Int) + 1 := by omega
          have hj5 : (0 : Int) ≤ (j : Int) := by omega
          have hj6 : IntKind.i64.wrap ((j : Int) + 1 - 1) = (j : Int) := by rw [IntKind.wrap_i64]; omega
          have hj7 : IntKind.i64.wrap (j : Int) = (j : Int) := by rw [IntKind.wrap_i64]; omega
          have hj8 : ((j : Int) + 1).toNat = j + 1 := by omega
          have c1 := hown.cellAt (j + 1) (by omega)
          have c0 := hown.cellAt j (by omega)
          rw [ints_get cur (j + 1) (by omega)] at c1
          rw [ints_get cur j (by omega)] at c0
          have hx : cur.getD (j + 1) 0 = cur[j + 1]'(by omega) := by simp [List.getD, show j + 1 < cur.length by omega]
          have hy : cur.getD j 0 = cur[j]'(by omega) := by simp [List.getD, show j < cur.length by omega]
          rw [← hx] at c1
          rw [← hy] at c0
          rw [downS] at hds
          have HD := Lib.hid hds
          have HO2 := Lib.hid (And.intro hcl (And.intro hown hg))
          have f1 := hown.frozenAt (j + 1)
          have f0 := hown.frozenAt j
          have hsw : Hid (swapS cur j = (cur.set (j + 1) (cur.getD j 0)).set j (cur.getD (j + 1) 0)) := rfl
          clear hx hy hds hown hg hJ
          generalize cur.getD (j + 1) 0 = x at *
          generalize cur.getD j 0 = y at *
          cases ht : decide (x < y) with
          | false =>
            have hfin : Hid (cur = outK l (k + 2)) := by
              have := HD.out
              rwa [if_neg (of_decide_eq_false ht)] at this
            go_wp2_with fail
            go_region_held3 (fun w' => w'.cell? ⟨g, j + 1, none⟩ = some (.int .i64 x) ∧ w'.cell? ⟨g, j, none⟩ = some (.int .i64 y))
              (first | exact ⟨c1, c0⟩)
              ((go_at_call 93; refine (less_any _ _ _).mono ?_; rintro e w' ⟨rfl, rfl⟩; rw [ht]))
            go_wp2_with fail
            go_roundw
            case rel => exact ⟨k + 1, by omega, by simp, by unfold Hid; rw [show k + 1 + 1 = k + 2 from rfl, ← hfin.out]; exact ⟨HO2.out.2.1, grown_drewN HO2.out.2.2 1⟩⟩
            case measure => simp [intOf]; omega
          | true =>
            have hfin : Hid (downS (swapS cur j) j = outK l (k + 2)) := by
              have := HD.out
              rwa [if_pos (of_decide_eq_true ht)] at this
            go_wp2_with fail
            go_region_held3 (fun w' => w'.cell? ⟨g, j + 1, none⟩ = some (.int .i64 x) ∧ w'.cell? ⟨g, j, none⟩ = some (.int .i64 y))
              (first | exact ⟨c1, c0⟩)
              ((go_at_call 93; refine (less_any _ _ _).mono ?_; rintro e w' ⟨rfl, rfl⟩; rw [ht]))
            go_wp2_with fail
            have hlast : Hid (((((wo.setCell ⟨g, j + 1, none⟩ (.int .i64 y)).setCell ⟨g, j, none⟩ (.int .i64 x)).drew.drew).ownsRow base 3 1 (.slice (some ⟨g, 0, none⟩) l.length cap) l.length (ints (swapS cur j))) ∧ w.grownBy (((wo.setCell ⟨g, j + 1, none⟩ (.int .i64 y)).setCell ⟨g, j, none⟩ (.int .i64 x)).drew.drew) (some g)) := by
              obtain ⟨s1, g1⟩ := HO2.out.2.1.stored (j + 1) (.int .i64 y)
              obtain ⟨s2, g2⟩ := s1.stored j (.int .i64 x)
              refine ⟨?_, grown_drewN (grown_drewN ((HO2.out.2.2.andThen g1 (fun _ h => .inr h)).andThen g2 (fun _ h => .inr h)) 1) 1⟩
              rw [hsw.out, show ints ((cur.set (j + 1) y).set j x) = ((ints cur).set (j + 1) (.int .i64 y)).set j (.int .i64 x) by simp [ints, List.map_set]]
              exact s2
            have hrel2 : Hid (downS (swapS cur j) j = outK l (k + 2) ∧ (swapS cur j).length = l.length ∧ _ ∧ _) := ⟨hfin.out, (swapS_length cur j).trans HO2.out.1, hlast.out⟩
            clear hlast hsw HO2 HD hfin
            go_region_with (fail)
            all_goals
              go_wp2_with fail
              go_roundw
              case rel => exact ⟨j, _, by omega, by go_num, hrel2⟩
              case measure => simp [intOf]
    · have hk1 : ¬ (k : Int) + 1 < (l.length : Int) := by omega
      go_wp2_with fail
      go_end0
      have e : k + 1 = l.length := by omega
      have := hI.out
      rw [e] at this
      exact ⟨rfl, this⟩

set_option maxHeartbeats 1000000 in
set_option maxRecDepth 100000 in
theorem pdq_any (g cap : Nat) (l : List Int) (lim : Int) (w : World) (base : Nat) (h0 : 0 < l.length) (hm : l.length ≤ 12) (hown : w.ownsRow base 3 1 (.slice (some ⟨g, 0, none⟩) l.length cap) l.length (ints l)) :
    Calls Tryz.prog 73 #[.slice (some ⟨g, 0, none⟩) l.length cap, .int .i64 0, .int .i64 l.length, .int .i64 lim] w fun e w' =>
      e = .returned (.tuple #[]) ∧ w'.ownsRow base 3 1 (.slice (some ⟨g, 0, none⟩) l.length cap) l.length (ints (isort l)) ∧ w.grownBy w' (some g) := by
  have HO := Lib.hid hown
  clear hown
  have h12 : (l.length : Int) ≤ 12 := by omega
  have hsub : IntKind.i64.wrap (l.length : Int) = (l.length : Int) := by rw [IntKind.wrap_i64]; omega
  go_enter Tryz.func73, Tryz.ntmps73
  go_wp2_with fail
  refine wp_loop_rounds 1 ?_
  rw [rounds_succ]
  go_wp2_with (go_at_call 87; refine (insertion_any g cap l _ base h0 hm HO.out).mono ?_; rintro e w' ⟨rfl, hs⟩)
  refine bodyPost_ret (v := .tuple #[]) (by simp [results, Tryz.results73, go_sem]) rfl ?_
  exact ⟨rfl, hs⟩

set_option maxHeartbeats 1000000 in
set_option maxRecDepth 100000 in
theorem sort_any (g cap : Nat) (l : List Int) (w : World) (base : Nat) (h0 : 0 < l.length) (hm : l.length ≤ 12) (hown : w.ownsRow base 3 1 (.slice (some ⟨g, 0, none⟩) l.length cap) l.length (ints l)) :
    Calls Tryz.prog 56 #[.slice (some ⟨g, 0, none⟩) l.length cap] w fun e w' =>
      e = .returned (.tuple #[]) ∧ w'.ownsRow base 3 1 (.slice (some ⟨g, 0, none⟩) l.length cap) l.length (ints (isort l)) ∧ w.grownBy w' (some g) := by
  have HO := Lib.hid hown
  clear hown
  have h12 : (l.length : Int) ≤ 12 := by omega
  have hsub : IntKind.u64.wrap (l.length : Int) = (l.length : Int) := by simp [IntKind.wrap, IntKind.bits, IntKind.signed]; omega
  go_enter Tryz.func56, Tryz.ntmps56
  go_wp2_with fail
  refine (len_any l.length _ hm).mono ?_
  rintro e w1 ⟨⟨lim, rfl⟩, rfl⟩
  go_wp2_with (go_at_call 73; refine (pdq_any g cap l lim _ base h0 hm HO.out).mono ?_; rintro e w' ⟨rfl, hs⟩)
  go_end0
  exact ⟨rfl, hs⟩

end Go.Proofs.YtijacbnoemjgcaaGreatDoor
