/- Marks: nil ones; Adopt. -/
import Derived.Test.YtogpbldipmcbdaaDoorKf
import Derived.Test.YtogpbldipmcbdaaDoorHb
set_option linter.unusedVariables false
set_option linter.unusedSimpArgs false
set_option linter.unnecessarySimpa false
namespace Go.Proofs.YtogpbldipmcbdaaDoor
open Go.RowKit Go.Shelf

theorem mvote_nil (no n : Int) (s t : Bs) (w : World) :
    Calls Tryd.prog 11 #[.pointer none, .int .i64 no, .int .i64 n, .string ⟨s.toArray⟩, .string ⟨t.toArray⟩] w fun e w' => e = .returned (.tuple #[.bool false, .int .i64 (if no < 0 then 1 else 7)]) ∧ w = w' := by
  by_cases h : no < 0
  · rw [if_pos h]
    go_enter Tryd.func11, Tryd.ntmps11
    go_wp2
    go_ret2
    exact ⟨rfl, rfl⟩
  · rw [if_neg h]
    go_enter Tryd.func11, Tryd.ntmps11
    go_wp2
    go_ret2
    exact ⟨rfl, rfl⟩
theorem mof_nil (no : Int) (w : World) : Calls Tryd.prog 23 #[.pointer none, .int .i64 no] w fun e w' => e = .returned (.int .i64 0) ∧ w = w' := by
  go_enter Tryd.func23, Tryd.ntmps23
  go_wp2
  go_ret
  exact ⟨rfl, rfl⟩
theorem madopt_nil (c : CrtV) (w : World) : Calls Tryd.prog 17 #[.pointer none, .agg c.cells.toArray] w fun e w' => e = .returned (.tuple #[.bool false, .int .i64 7]) ∧ Below w.heap.size w w' := by
  unfold CrtV.cells
  go_enter Tryd.func17, Tryd.ntmps17
  go_wp2
  go_ret2
  exact ⟨rfl, below_alloc1 w _⟩
theorem mstable_nil (w : World) :
    Calls Tryd.prog 12 #[.pointer none] w fun e w' => e = .returned (.tuple #[.int .i64 0, .string ⟨#[]⟩, .agg #[.string ⟨#[]⟩, .int .i64 0, .slice none 0 0]]) ∧ Below w.heap.size w w' := by
  go_enter Tryd.func12, Tryd.ntmps12
  go_wp2
  refine bodyPost_ret (v := .tuple #[.int .i64 0, .string ⟨#[]⟩, .agg #[.string ⟨#[]⟩, .int .i64 0, .slice none 0 0]]) (by simp [results, Tryd.results12, go_sem]) rfl ⟨rfl, below_alloc1 w _⟩

end Go.Proofs.YtogpbldipmcbdaaDoor
