/- Last. -/
import Derived.Test.YtamlfapdifocoaaDoorBi
set_option linter.unusedVariables false
set_option linter.unusedSimpArgs false
set_option linter.unnecessarySimpa false
namespace Go.Proofs.YtamlfapdifocoaaDoor
open Go.RowKit Go.Shelf

set_option maxRecDepth 100000 in
set_option maxHeartbeats 400000 in
theorem last_any (base B : Nat) (V : Value) (l : List Req) (d : Nat → Int) (c : Int) (w : World) (hp : PoolAt w base B V l d) :
    Calls Tryd.prog 13 #[.pointer (some ⟨B, 0, none⟩), .int .i64 c] w fun e w' => e = .returned (.int .i64 (if wrongB c 1 = true then 0 else d c.toNat)) ∧ Below w.heap.size w w' := by
  by_cases h : wrongB c 1 = true
  · rw [if_pos h]
    go_enter Tryd.func13, Tryd.ntmps13
    go_wp2_with (go_at_call 20; refine (wrong_yes _ _ _ h).mono ?_; rintro e w' ⟨rfl, rfl⟩)
    go_ret
    exact ⟨rfl, Below.refl _ _⟩
  · rw [if_neg h]
    have h' : wrongB c 1 = false := by simpa using h
    obtain ⟨b1, b2, b3, b4⟩ := wrong_bounds h'
    have hd : w.cell? ⟨B, 1 + c.toNat, none⟩ = some (.int .i64 (d c.toNat)) := by rw [Nat.add_comm]; exact hp.num (by omega)
    clear hp h
    go_enter Tryd.func13, Tryd.ntmps13
    go_wp2_with (go_at_call 20; refine (wrong_no _ _ _ h').mono ?_; rintro e w' ⟨rfl, rfl⟩)
    try go_quiet (fail)
    try go_wp2
    go_ret
    exact ⟨rfl, Below.refl _ _⟩

set_option maxRecDepth 100000 in
set_option maxHeartbeats 400000 in
theorem last_nil (c : Int) (w : World) :
    Calls Tryd.prog 13 #[.pointer none, .int .i64 c] w fun e w' => e = .returned (.int .i64 0) ∧ w = w' := by
  go_enter Tryd.func13, Tryd.ntmps13
  go_wp2
  go_ret
  exact ⟨rfl, rfl⟩

end Go.Proofs.YtamlfapdifocoaaDoor
