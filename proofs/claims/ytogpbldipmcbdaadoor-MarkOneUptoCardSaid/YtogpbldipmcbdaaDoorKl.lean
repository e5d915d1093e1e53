/- MarkOne: who fails. -/
import Derived.Test.YtogpbldipmcbdaaDoorKf
import Derived.Test.YtogpbldipmcbdaaDoorBt
set_option linter.unusedVariables false
set_option linter.unusedSimpArgs false
set_option linter.unnecessarySimpa false
namespace Go.Proofs.YtogpbldipmcbdaaDoor
open Go.RowKit Go.Shelf

/-- One of those that fail. -/
def failsB (set f : Int) (i : Nat) : Bool := decide (bitI set i = 1) && decide (cntB set (i + 1) ≤ f)
set_option maxHeartbeats 4000000 in
set_option maxRecDepth 100000 in
theorem fails_any (set f : Int) (i : Nat) (hi : i ≤ 9) (w : World) :
    Calls Tryd.prog 10 #[.int .i64 set, .int .i64 f, .int .i64 i] w fun e w' => e = .returned (.bool (failsB set f i)) ∧ w = w' := by
  have hand := and_bit
  go_enter Tryd.func10, Tryd.ntmps10
  go_wp2
  go_loopw [7, 8] (fun n k wr => ∃ (j : Nat), j ≤ i + 1 ∧ k = .int .i64 j ∧ n = .int .i64 (cntB set j) ∧ wr = w) (fun _ k _ => i + 1 - (intOf k).toNat)
  case atStart => exact ⟨0, by omega, rfl, rfl, rfl⟩
  case round =>
    obtain ⟨j, hj, rfl, rfl, rfl⟩ := hrel
    have hc := cntB_rng set j
    by_cases hlt : j ≤ i
    · have hb := bitI_rng set j
      go_wp2
      exact ⟨⟨j + 1, by omega, by simp, rfl, trivial⟩, by simp [intOf]; omega⟩
    · obtain rfl : j = i + 1 := by omega
      by_cases hbt : bitI set i = 1
      · have ef : Hid (failsB set f i = decide (cntB set (i + 1) ≤ f)) := by simp [Hid, failsB, hbt]
        go_wp2
        go_ret
        exact ⟨by rw [ef.out]; rfl, rfl⟩
      · have ef : Hid (failsB set f i = false) := by simp [Hid, failsB, hbt]
        go_wp2
        go_ret
        exact ⟨by rw [ef.out]; rfl, rfl⟩

end Go.Proofs.YtogpbldipmcbdaaDoor
