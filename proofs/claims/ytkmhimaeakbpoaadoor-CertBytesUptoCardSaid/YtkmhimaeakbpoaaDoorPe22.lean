/- slices.Insert of a tag. -/
import Derived.Test.YtkmhimaeakbpoaaDoorPe21
set_option linter.unusedVariables false
set_option linter.unusedSimpArgs false
set_option linter.unnecessarySimpa false
namespace Go.Proofs.YtkmhimaeakbpoaaDoor
open Go.RowKit Go.Shelf

def InsP (base : Nat) (v : Value) (l : List TagV) (i : Nat) (x : TagV) (w : World) (e : Ending) (w' : World) : Prop :=
  ∃ v', e = .returned v' ∧ w'.ownsRow base 64 2 v' (l.length + 1) (cellsT (l.take i ++ x :: l.drop i)) ∧ Chg (fun k => v.ownBlock = some k) w w'

set_option maxHeartbeats 4000000 in
set_option maxRecDepth 100000 in
theorem insert_end (v : Value) (l : List TagV) (x : TagV) (vb base : Nat) (w : World) (hown : w.ownsRow base 64 2 v l.length (cellsT l)) (hx : Blk w vb 64 #[.int .i64 x.1, .string ⟨x.2.toArray⟩]) (hb : base ≤ w.heap.size) (hm : l.length ≤ 1048576) :
    Calls Tryd.prog 29 #[v, .int .i64 l.length, .slice (some ⟨vb, 0, none⟩) 1 1] w (InsP base v l l.length x w) := by
  obtain ⟨i0, hi0, hz0, hz1, hz2⟩ := info_parts tag_info
  have HO := Lib.hid hown
  have hnews : ∀ j u, (tagC x)[j]? = some u → w.cell? ((⟨vb, 0, none⟩ : Addr).add j) = some u := fun j u hu => by
    rw [Addr.add_lit, Nat.zero_add, hx.cell j]
    simpa [tagC, ← List.getElem?_toArray] using hu
  have hcell : cellsT (l.take l.length ++ x :: l.drop l.length) = cellsT l ++ tagC x := by
    rw [List.take_length, List.drop_length, cellsT_append]; rfl
  have HC := Lib.hid hcell
  have HN := Lib.hid hnews
  clear hcell hnews
  obtain ⟨_, h0 | ⟨g, cap, cur, rfl, hbg, hg, hnc, hcm, hcs, ht⟩⟩ := hown
  · obtain ⟨rfl, h0⟩ := h0
    obtain rfl : l = [] := List.eq_nil_of_length_eq_zero h0
    simp only [List.length_nil] at HO HC ⊢
    go_enter Tryd.func29, Tryd.ntmps29
    go_wp2_with (at_builtin; refine wpList_append_own _ rfl _ _ 22 rfl base 64 i0 _ 2 24 Tryd.underlying22 hi0 hz0 hz1 hz2 rfl (by omega) _ 0 (cellsT []) rfl HO.out _ 1 1 (tagC x) rfl (by simp [tagC]) HN.out (by simp [tagC, Value.oneCell']) (by unfold maxLen; omega) (by omega) hb ?_; intro v2 w2 hown2 hgr2 _)
    go_ret
    refine ⟨_, rfl, ?_, (Chg.refl _ _).grown hgr2 (fun k h _ => h)⟩
    rw [HC.out]; exact hown2
  · have hg0 : g < w.heap.size := by
      rcases Nat.lt_or_ge g w.heap.size with h | h
      · exact h
      · rw [Array.getElem?_eq_none h] at hg; cases hg
    clear hg hcs ht
    go_enter Tryd.func29, Tryd.ntmps29
    go_wp2_with (at_builtin; refine wpList_append_own _ rfl _ _ 22 rfl base 64 i0 _ 2 24 Tryd.underlying22 hi0 hz0 hz1 hz2 rfl (by omega) _ l.length (cellsT l) rfl HO.out _ 1 1 (tagC x) rfl (by simp [tagC]) HN.out (by simp [tagC, Value.oneCell']) (by unfold maxLen; omega) (by omega) hb ?_; intro v2 w2 hown2 hgr2 _)
    all_goals
      go_ret
      refine ⟨_, rfl, ?_, (Chg.refl _ _).grown hgr2 (fun k h _ => h)⟩
      rw [HC.out]; exact hown2

theorem overlaps_no (w : World) (vb g off lb cb : Nat) (cs cs' : Array Value) (hx : Blk w vb 64 cs) (hg : Blk w g 64 cs') (hne : vb ≠ g) (h0 : cs'.size ≠ 0) :
    (callFunc 48 #[.slice (some ⟨vb, 0, none⟩) 1 1, .slice (some ⟨g, off, none⟩) lb cb]).run Tryd.prog w = .ok (.value (.bool false)) w := by
  rw [run_callFunc_extern Tryd.func48 (by kernel_rfl) (by kernel_rfl) (by kernel_rfl) (e := Extern.SlicesOverlaps.overlaps #[22, 22] #[4]) (by kernel_rfl),
    Lib.run_overlaps_apart w 22 4 64 Tryd.underlying22 2 Tryd.sizeOf64 ⟨vb, 0, none⟩ ⟨g, off, none⟩ 1 1 lb cb hne 64 64 cs.size cs'.size (by unfold Blk at hx; simp [World.shape?, hx]) (by unfold Blk at hg; simp [World.shape?, hg]) h0 (hx.frozen 0) (hx.frozen cs.size)]
  rfl

end Go.Proofs.YtkmhimaeakbpoaaDoor
