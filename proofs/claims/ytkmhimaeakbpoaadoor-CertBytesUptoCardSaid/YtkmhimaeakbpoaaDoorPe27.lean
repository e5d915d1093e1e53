/- Words for drawn regions: worlds behind one another; lists of texts that grow. -/
import Derived.Test.YtkmhimaeakbpoaaDoorPe7
import Derived.Test.YtkmhimaeakbpoaaDoorPe19
set_option linter.unusedVariables false
set_option linter.unusedSimpArgs false
set_option linter.unnecessarySimpa false
namespace Go.Proofs.YtkmhimaeakbpoaaDoor
open Go.RowKit Go.Shelf

theorem below_al {W w1 : World} (h : Below W.heap.size W w1) (o : Obj) : Below W.heap.size W (w1.alloc o) := h.alloc h.size o
theorem below_then {W w1 w2 : World} (h : Below W.heap.size W w1) (k : Below w1.heap.size w1 w2) : Below W.heap.size W w2 := h.trans (k.mono h.size)
theorem bl_refl (B : Nat) (W : World) : Below B W W = True := eq_true (Below.refl _ _)
theorem bl_drew (B : Nat) (W w1 : World) : Below B W w1.drew = Below B W w1 := propext ⟨fun h => ⟨h.os, h.tape, h.output, h.size, h.block⟩, fun h => h.drew⟩
theorem bl_alloc (W w1 : World) (o : Obj) (h : Below W.heap.size W w1) : Below W.heap.size W (w1.alloc o) = True := eq_true (below_al h o)
theorem keep2Y {t : TypeId} {W w' : World} {b : Nat} {v0 v1 : Value} (h : Blk W b t #[v0, v1]) (hb : Below W.heap.size W w') : w'.cell? ⟨b, 0, none⟩ = some v0 ∧ w'.cell? ⟨b, 1, none⟩ = some v1 := ⟨(h.below hb h.lt).cell 0, (h.below hb h.lt).cell 1⟩
theorem keep3Y {t : TypeId} {W w' : World} {b : Nat} {v0 v1 v2 : Value} (h : Blk W b t #[v0, v1, v2]) (hb : Below W.heap.size W w') : w'.cell? ⟨b, 0, none⟩ = some v0 ∧ w'.cell? ⟨b, 1, none⟩ = some v1 ∧ w'.cell? ⟨b, 2, none⟩ = some v2 := ⟨(h.below hb h.lt).cell 0, (h.below hb h.lt).cell 1, (h.below hb h.lt).cell 2⟩
theorem rd_newY (w : World) (l : List Bs) (cs : Array Value) (h : cs.toList = strs l) (n : Nat) (hn : l.length = n) : Rd (w.alloc (.cells cs 9)) (w.heap.size + 1) 1 (.slice (some ⟨w.heap.size, 0, none⟩) n n) l.length (strs l) := by
  subst hn
  refine ⟨by rw [strs_length, Nat.mul_one], _, _, rfl, Nat.le_refl _, .inr ⟨w.heap.size, 0, rfl, by omega, fun j u hu => ?_⟩⟩
  rw [Nat.zero_add, (Blk.new w 9 cs).cell j]
  rw [← h] at hu
  simpa using hu
theorem strs_appendY (a b : List Bs) : strs (a ++ b) = strs a ++ strs b := by simp [strs]
theorem infoSY : (Tryd.prog.info? 9).map (fun i => (i.zero, i.size, i.bytes)) = some (some (.string ⟨#[]⟩), 1, 16) := by kernel_rfl
theorem strs_one (l : List Bs) : ∀ u ∈ strs l, u.oneCell' = true := by
  intro u hu
  simp only [strs, List.mem_map] at hu
  obtain ⟨s, _, rfl⟩ := hu
  rfl
/-- A list of texts that a call makes. -/
structure TxL (w : World) (A' : Option Addr) (n c' : Nat) (l : List Bs) (wr : World) : Prop where
  len : n = l.length
  own : wr.ownsRow w.heap.size 9 1 (.slice A' n c') n (strs l)
  bel : Below w.heap.size w wr
theorem TxL.nil (w : World) : TxL w none 0 0 [] w := ⟨rfl, World.ownsRow_nil _ _ _ _, Below.refl _ _⟩
theorem TxL.more {w wr w2 : World} {A' : Option Addr} {n c' : Nat} {l : List Bs} (h : TxL w A' n c' l wr) (hb : Below wr.heap.size wr w2) : TxL w A' n c' l w2 := ⟨h.len, own_below h.own hb, h.bel.trans (hb.mono h.bel.size)⟩
theorem TxL.push {w wr w4 : World} {A' : Option Addr} {n c' g2 cap2 m : Nat} {l : List Bs} {o : Obj} (h : TxL w A' n c' l wr) (x : List Bs) (hm : x.length = m)
    (hg : (wr.alloc o).grownBy w4 (Value.slice A' n c').ownBlock) (ho : w4.ownsRow w.heap.size 9 1 (.slice (some ⟨g2, 0, none⟩) (n + m) cap2) (n + m) (strs l ++ strs x)) :
    TxL w (some ⟨g2, 0, none⟩) (n + m) cap2 (l ++ x) w4 := by
  have hsz := h.bel.size
  refine ⟨by rw [List.length_append, h.len, hm], by rw [strs_appendY]; exact ho, h.bel.trans ((((Below.refl w.heap.size wr).alloc hsz o)).grown hg (by simp; omega) (fun g e => (h.own.lt g e).1))⟩
theorem TxL.made {w wr : World} (hb : Below w.heap.size w wr) (l : List Bs) (cs : Array Value) (h : cs.toList = strs l) (n : Nat) (hn : l.length = n) (hm : n ≤ maxLen) : TxL w (some ⟨wr.heap.size, 0, none⟩) n n l (wr.alloc (.cells cs 9)) := by
  subst hn
  refine ⟨rfl, ⟨by rw [strs_length, Nat.mul_one], .inr ⟨wr.heap.size, l.length, cs, rfl, hb.size, heap_alloc_new wr _, Nat.le_refl _, hm, ?_, ?_⟩⟩, hb.alloc hb.size _⟩
  · rw [← Array.length_toList, h, strs_length, Nat.mul_one]
  · rw [h, Nat.mul_one, ← strs_length l, List.take_length]

end Go.Proofs.YtkmhimaeakbpoaaDoor
