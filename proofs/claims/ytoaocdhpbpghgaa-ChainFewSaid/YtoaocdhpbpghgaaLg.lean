/- How many shards have another owner. -/
import Derived.Test.YtoaocdhpbpghgaaLf
import Derived.Test.YtoaocdhpbpghgaaPd
namespace Go.Proofs.Ytoaocdhpbpghgaa
open Go.RowKit Go.Shelf
set_option linter.unusedVariables false
set_option linter.unusedSimpArgs false

def ownCells (o : Own) : Array Value := #[.int .i64 o.a, .int .i64 o.b, .int .i64 o.c, .int .i64 o.d]
theorem ownCells_get (o : Own) (k : Nat) (hk : k < 4) : (ownCells o)[k]? = some (.int .i64 (o.get k)) := by
  have h : k = 0 ∨ k = 1 ∨ k = 2 ∨ k = 3 := by omega
  rcases h with rfl | rfl | rfl | rfl <;> rfl
theorem ownCells_set (o : Own) (k : Nat) (hk : k < 4) (v : Int) : (ownCells o).setIfInBounds k (.int .i64 v) = ownCells (o.put k v) := by
  have h : k = 0 ∨ k = 1 ∨ k = 2 ∨ k = 3 := by omega
  rcases h with rfl | rfl | rfl | rfl <;> rfl
def movedK (a b : Own) : Nat → Int
  | 0 => 0
  | k + 1 => if a.get k = b.get k then movedK a b k else movedK a b k + 1
theorem movedK_bd (a b : Own) (k : Nat) : 0 ≤ movedK a b k ∧ movedK a b k ≤ k := by
  induction k with
  | zero => simp [movedK]
  | succ k ih => rw [movedK]; split <;> omega
theorem movedK_all (a b : Own) : movedK a b 4 = movedS a b := by
  simp only [movedK, movedS, Own.get]
  split <;> split <;> split <;> split <;> omega

set_option maxHeartbeats 1000000 in
set_option maxRecDepth 100000 in
theorem moved_any (a b : Own) (w : World) :
    Calls Try.prog 19 #[.agg #[.int .i64 a.a, .int .i64 a.b, .int .i64 a.c, .int .i64 a.d], .agg #[.int .i64 b.a, .int .i64 b.b, .int .i64 b.c, .int .i64 b.d]] w fun e w' => e = .returned (.int .i64 (movedS a b)) ∧ Below w.heap.size w w' := by
  go_enter Try.func19, Try.ntmps19
  go_wp2
  go_loopw [5, 7] (fun n i wr => ∃ k : Nat, k ≤ 4 ∧ i = .int .i64 k ∧ n = .int .i64 (movedK a b k) ∧ Hid (Blk wr w.heap.size 23 (ownCells a) ∧ Blk wr (w.heap.size + 1) 23 (ownCells b) ∧ Below w.heap.size w wr)) (fun _ i _ => 4 - (intOf i).toNat)
  case atStart => exact ⟨0, by omega, rfl, rfl, (Blk.new w _ _).alloc _, (Blk.new (w.alloc _) _ _).cast_ (by simp), ((Below.refl _ _).alloc (Nat.le_refl _) _).alloc (by simp) _⟩
  case round =>
    obtain ⟨k, hk, rfl, rfl, hI⟩ := hrel
    by_cases hlt : k < 4
    · have ca : wr.cell? ⟨w.heap.size, k, none⟩ = some (.int .i64 (a.get k)) := by rw [hI.out.1.cell]; exact ownCells_get a k hlt
      have cb : wr.cell? ⟨w.heap.size + 1, k, none⟩ = some (.int .i64 (b.get k)) := by rw [hI.out.2.1.cell]; exact ownCells_get b k hlt
      have hst : Hid (movedK a b (k + 1) = if a.get k = b.get k then movedK a b k else movedK a b k + 1) := rfl
      have hbd := movedK_bd a b k
      obtain ⟨hb0, hb4⟩ := hbd
      have hk0 : (0 : Int) ≤ (k : Int) := by omega
      have hk4 : (k : Int) < 4 := by omega
      generalize movedK a b k = q at *
      generalize a.get k = x at *
      generalize b.get k = y at *
      cases hne : (x != y) with
      | true =>
        have hne' : x ≠ y := by simpa using hne
        have hs2 : Hid (movedK a b (k + 1) = q + 1) := by unfold Hid; rw [hst.out, if_neg hne']
        clear hne' hst
        go_wp2_with fail
        go_quiet (fail)
        go_wp2_with fail
        go_roundw
        case rel => exact ⟨k + 1, by omega, by go_num, by rw [hs2.out], hI.out.1.drewN _, hI.out.2.1.drewN _, below_drewN hI.out.2.2 _⟩
        case measure => simp [intOf]; omega
      | false =>
        have hne' : x = y := by simpa using hne
        have hs2 : Hid (movedK a b (k + 1) = q) := by unfold Hid; rw [hst.out, if_pos hne']
        clear hne' hst
        go_wp2_with fail
        go_quiet (fail)
        go_wp2_with fail
        go_roundw
        case rel => exact ⟨k + 1, by omega, by go_num, by rw [hs2.out], hI.out.1.drewN _, hI.out.2.1.drewN _, below_drewN hI.out.2.2 _⟩
        case measure => simp [intOf]; omega
    · obtain rfl : k = 4 := by omega
      rw [movedK_all]
      go_wp2
      go_ret
      exact ⟨rfl, hI.out.2.2⟩

end Go.Proofs.Ytoaocdhpbpghgaa
