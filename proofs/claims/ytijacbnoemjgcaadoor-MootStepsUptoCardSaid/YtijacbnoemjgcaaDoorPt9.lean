/- Configurations: how many shards each group has; the groups with most and with fewest. -/
import Derived.Test.YtijacbnoemjgcaaDoorPt8
set_option linter.unusedVariables false
set_option linter.unusedSimpArgs false
set_option linter.unnecessarySimpa false
namespace Go.Proofs.YtijacbnoemjgcaaDoor
open Go.RowKit Go.Shelf

theorem ix_get (o : Own) (k : Nat) (hk : k < 4) (w : World) : (Instr.index 47 (.agg #[.int .i64 o.a, .int .i64 o.b, .int .i64 o.c, .int .i64 o.d]) (.int .i64 k)).run Tryd.prog w = .ok (.int .i64 (o.get k)) w := by
  have h : k = 0 ∨ k = 1 ∨ k = 2 ∨ k = 3 := by omega
  rcases h with rfl | rfl | rfl | rfl
  · exact idx4_0 _ _ _ _ w
  · exact idx4_1 _ _ _ _ w
  · exact idx4_2 _ _ _ _ w
  · exact idx4_3 _ _ _ _ w
theorem own_take (o : Own) (k : Nat) (hk : k < 4) : o.list.take (k + 1) = o.list.take k ++ [o.get k] := by
  have h : k = 0 ∨ k = 1 ∨ k = 2 ∨ k = 3 := by omega
  rcases h with rfl | rfl | rfl | rfl <;> rfl

/-- how many shards a group has -/
def cnt (l : List Int) (g : Int) : Int := (l.countP (· == g) : Nat)
theorem cnt_snoc (l : List Int) (x g : Int) : cnt (l ++ [x]) g = cnt l g + (if x = g then 1 else 0) := by
  unfold cnt
  rw [List.countP_append]
  by_cases h : x = g <;> simp [h]
theorem cnt_le (l : List Int) (g : Int) : 0 ≤ cnt l g ∧ cnt l g ≤ l.length := by
  unfold cnt
  have := List.countP_le_length (p := (· == g)) (l := l)
  omega
def cntCells (l : List Int) : Array Value := #[.int .i64 (cnt l 0), .int .i64 (cnt l 1), .int .i64 (cnt l 2), .int .i64 (cnt l 3), .int .i64 (cnt l 4)]
theorem cntCells_get (l : List Int) (x : Int) (h0 : 0 ≤ x) (h4 : x < 5) : (cntCells l)[x.toNat]? = some (.int .i64 (cnt l x)) := by
  have h : x = 0 ∨ x = 1 ∨ x = 2 ∨ x = 3 ∨ x = 4 := by omega
  rcases h with rfl | rfl | rfl | rfl | rfl <;> rfl
theorem cntCells_set (l : List Int) (x : Int) (h0 : 0 ≤ x) (h4 : x < 5) : (cntCells l).setIfInBounds x.toNat (.int .i64 (cnt l x + 1)) = cntCells (l ++ [x]) := by
  have h : x = 0 ∨ x = 1 ∨ x = 2 ∨ x = 3 ∨ x = 4 := by omega
  rcases h with rfl | rfl | rfl | rfl | rfl <;> simp [cntCells, cnt_snoc]

theorem Blk.cast_ {w : World} {g g' : Nat} {t : TypeId} {cs : Array Value} (h : Blk w g t cs) (e : g = g') : Blk w g' t cs := e ▸ h

set_option maxHeartbeats 1000000 in
set_option maxRecDepth 100000 in
theorem count_any (c : Cfg) (s : Value) (w : World) (ho : ∀ k, k < 4 → 0 ≤ c.o.get k ∧ c.o.get k < 5) :
    Calls Tryd.prog 58 #[.agg #[.int .i64 c.num, s, .int .i64 c.o.a, .int .i64 c.o.b, .int .i64 c.o.c, .int .i64 c.o.d]] w fun e w' => e = .returned (.agg (cntCells c.own)) ∧ Below w.heap.size w w' := by
  have HO := Lib.hid ho
  clear ho
  go_enter Tryd.func58, Tryd.ntmps58
  go_wp2
  go_loopw [8] (fun i wr => ∃ k : Nat, k ≤ 4 ∧ i = .int .i64 k ∧ Hid (Blk wr (w.heap.size + 1) 112 (cntCells []) ∧ Blk wr (w.heap.size + 2) 112 (cntCells (c.own.take k)) ∧ Below w.heap.size w wr)) (fun i _ => 4 - (intOf i).toNat)
  case atStart => exact ⟨0, by omega, rfl, ⟨((Blk.new ((w.alloc _)) _ _).alloc _).cast_ (by simp), (Blk.new ((w.alloc _).alloc _) _ _).cast_ (by simp), (((Below.refl _ _).alloc (Nat.le_refl _) _).alloc (by simp) _).alloc (by simp; omega) _⟩⟩
  case round =>
    obtain ⟨k, hk, rfl, hI⟩ := hrel
    obtain ⟨hb1, hb2, hbw⟩ := hI.out
    by_cases hlt : k < 4
    · have hix := ix_get c.o k hlt
      obtain ⟨x0, x4⟩ := HO.out k hlt
      have hsn : Hid (c.own.take (k + 1) = c.own.take k ++ [c.o.get k]) := own_take c.o k hlt
      generalize c.o.get k = x at *
      have hr : wr.cell? ⟨w.heap.size + 2, x.toNat, none⟩ = some (.int .i64 (cnt (c.own.take k) x)) := by
        rw [hb2.cell]; exact cntCells_get _ x x0 x4
      have hf : wr.frozen? ⟨w.heap.size + 2, x.toNat, none⟩ = false := hb2.frozen _
      obtain ⟨c0, c4⟩ := cnt_le (c.own.take k) x
      have hl : (c.own.take k).length = k := by simp [Cfg.own, Own.list]; omega
      rw [hl] at c4
      have hset := Lib.hid (cntCells_set (c.own.take k) x x0 x4)
      have HB := Lib.hid hI.out
      generalize cnt (c.own.take k) x = q at *
      clear hb1 hb2 hbw hI
      go_wp2
      go_roundw
      case rel =>
        refine ⟨k + 1, by omega, by go_num, ⟨HB.out.1.far (by simp) _, ?_, ?_⟩⟩
        · rw [hsn.out, ← hset.out]
          exact HB.out.2.1.set_ _ _
        · exact ((Chg.of_below HB.out.2.2).setCell (F := fun i => i = w.heap.size + 2) (fun _ => rfl) _).to_below (by intro i hi; omega) (Nat.le_refl _)
      case measure => simp [intOf]; omega
    · have e : c.own.take k = c.own := List.take_of_length_le (by simp [Cfg.own, Own.list]; omega)
      rw [e] at hb2
      have p0 : wr.cell? ⟨w.heap.size + 2, 0, none⟩ = some (.int .i64 (cnt c.own 0)) := hb2.cell 0
      have p1 : wr.cell? ⟨w.heap.size + 2, 1, none⟩ = some (.int .i64 (cnt c.own 1)) := hb2.cell 1
      have p2 : wr.cell? ⟨w.heap.size + 2, 2, none⟩ = some (.int .i64 (cnt c.own 2)) := hb2.cell 2
      have p3 : wr.cell? ⟨w.heap.size + 2, 3, none⟩ = some (.int .i64 (cnt c.own 3)) := hb2.cell 3
      have p4 : wr.cell? ⟨w.heap.size + 2, 4, none⟩ = some (.int .i64 (cnt c.own 4)) := hb2.cell 4
      have z0 : wr.cell? ⟨w.heap.size + 1, 0, none⟩ = some (.int .i64 0) := hb1.cell 0
      have z1 : wr.cell? ⟨w.heap.size + 1, 1, none⟩ = some (.int .i64 0) := hb1.cell 1
      have z2 : wr.cell? ⟨w.heap.size + 1, 2, none⟩ = some (.int .i64 0) := hb1.cell 2
      have z3 : wr.cell? ⟨w.heap.size + 1, 3, none⟩ = some (.int .i64 0) := hb1.cell 3
      have z4 : wr.cell? ⟨w.heap.size + 1, 4, none⟩ = some (.int .i64 0) := hb1.cell 4
      have f0 := hb1.frozen 0
      have f1 := hb1.frozen 1
      have f2 := hb1.frozen 2
      have f3 := hb1.frozen 3
      have f4 := hb1.frozen 4
      have HB := Lib.hid hI.out
      clear hb1 hb2 hbw hI e
      go_wp2
      refine bodyPost_ret (v := .agg (cntCells c.own)) (by simp [results, Tryd.results58, go_sem, z0, z1, z2, z3, z4, cntCells]) rfl ⟨rfl, ?_⟩
      exact ((((((Chg.of_below HB.out.2.2).setCell (F := fun i => i = w.heap.size + 1) (fun _ => rfl) _).setCell (fun _ => rfl) _).setCell (fun _ => rfl) _).setCell (fun _ => rfl) _).setCell (fun _ => rfl) _).to_below (by intro i hi; omega) (Nat.le_refl _)

end Go.Proofs.YtijacbnoemjgcaaDoor
