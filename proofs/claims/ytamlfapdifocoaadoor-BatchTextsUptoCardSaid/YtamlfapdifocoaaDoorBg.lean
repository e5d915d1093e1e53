/- An empty pool. -/
import Derived.Test.YtamlfapdifocoaaDoorBe
set_option linter.unusedVariables false
set_option linter.unusedSimpArgs false
set_option linter.unnecessarySimpa false
namespace Go.Proofs.YtamlfapdifocoaaDoor
open Go.RowKit Go.Shelf

/-- an empty pool's cells -/
def pz : Array Value := (Value.slice none 0 0 :: List.replicate 64 (Value.int .i64 0)).toArray
theorem pz_size : pz.size = 65 := by simp [pz]
theorem pz_zero : pz[0]? = some (.slice none 0 0) := by simp [pz]
theorem pz_succ (c : Nat) (hc : c < 64) : pz[c + 1]? = some (.int .i64 0) := by
  unfold pz
  rw [List.getElem?_toArray, List.getElem?_cons_succ, List.getElem?_replicate, if_pos hc]
theorem zeroPool (w : World) : (zeroValue 47).run Tryd.prog w = .ok (.agg pz) w := by kernel_rfl

set_option maxRecDepth 100000 in
set_option maxHeartbeats 400000 in
theorem new_any (w : World) :
    Calls Tryd.prog 10 #[] w fun e w' => e = .returned (.pointer (some ⟨w.heap.size, 0, none⟩)) ∧ PoolAt w' w.heap.size w.heap.size (.slice none 0 0) [] (fun _ => 0) ∧ Below w.heap.size w w' := by
  have hz := zeroPool
  go_enter Tryd.func10, Tryd.ntmps10
  go_wp2
  go_ret
  exact ⟨rfl, ⟨⟨_, Blk.new _ _ _, pz_size, pz_zero, pz_succ⟩, ⟨by simp [cellsOf], .inl ⟨rfl, rfl⟩⟩⟩, (Below.refl _ _).alloc (Nat.le_refl _) _⟩

end Go.Proofs.YtamlfapdifocoaaDoor
