/- slices.Insert of a tag where there is room; the whole. -/
import Derived.Test.YtkmhimaeakbpoaaDoorPe23
set_option linter.unusedVariables false
set_option linter.unusedSimpArgs false
set_option linter.unnecessarySimpa false
namespace Go.Proofs.YtkmhimaeakbpoaaDoor
open Go.RowKit Go.Shelf

set_option maxHeartbeats 4000000 in
set_option maxRecDepth 100000 in
theorem insert_room (g n c i : Nat) (l : List TagV) (x : TagV) (vb base : Nat) (w : World) (cur : Array Value) (hi : i < n) (hn : l.length = n) (hbg : base ≤ g) (hg : Blk w g 64 cur) (hcn : n + 1 ≤ c) (hcm : c ≤ maxLen) (hcs : cur.size = c * 2) (ht : cur.toList.take (n * 2) = cellsT l)
    (hx : Blk w vb 64 #[.int .i64 x.1, .string ⟨x.2.toArray⟩]) (hne : vb ≠ g) (hb : base ≤ w.heap.size) (hm : n ≤ 1048576) :
    Calls Tryd.prog 29 #[.slice (some ⟨g, 0, none⟩) n c, .int .i64 i, .slice (some ⟨vb, 0, none⟩) 1 1] w (InsP base (.slice (some ⟨g, 0, none⟩) n c) l i x w) := by
  have hgl := hg.lt
  have hvl := hx.lt
  have hll := cellsT_length l
  have hcell : ∀ j u, (cellsT l)[j]? = some u → w.cell? ⟨g, j, none⟩ = some u := fun j u hu => by
    rw [hg.cell j]
    rw [← ht, List.getElem?_take] at hu
    split at hu
    · simpa using hu
    · cases hu
  have hov := fun lb cb => overlaps_no w vb g ((i + 1) * 2) lb cb _ cur hx hg hne (by omega)
  have hDl : (cellsT (l.drop i)).length = (n - i) * 2 := by rw [cellsT_length, List.length_drop]; omega
  have HFIN := Lib.hid (splice_room cur.toList (cellsT l) (tagC x) (cellsT (l.drop i)) (i * 2) (n * 2) (by omega) rfl (by omega) (cellsT_drop l i) ht (by rw [Array.length_toList, hcs]; omega))
  have hcat : cellsT (l.take i ++ x :: l.drop i) = (cellsT l).take (i * 2) ++ (tagC x ++ (cellsT l).drop (i * 2)) := by
    rw [cellsT_append, cellsT_take, ← cellsT_drop]; rfl
  have HCAT := Lib.hid hcat
  have hdcell : ∀ j u, (cellsT (l.drop i))[j]? = some u → w.cell? ⟨g, i * 2 + j, none⟩ = some u := fun j u hu => by
    rw [cellsT_drop, List.getElem?_drop] at hu
    exact hcell _ _ hu
  have hone1 : ∀ u ∈ tagC x, u.oneCell' = true := by simp [tagC, Value.oneCell']
  have hone2 := cellsT_one (l.drop i)
  obtain ⟨R, hR⟩ : ∃ R, R = cur.toList := ⟨_, rfl⟩
  have hcurR : cur = R.toArray := by rw [hR]
  rw [← hR] at HFIN
  have hRl : R.length = c * 2 := by rw [hR, Array.length_toList, hcs]
  subst hcurR
  clear hcell hcat ht hR hcs
  generalize hD : cellsT (l.drop i) = D at *
  have htl : (tagC x).length = 1 * 2 := rfl
  have hfit1 : (i + 1) * 2 + D.length ≤ R.length := by rw [hDl, hRl]; omega
  have hfit2 : i * 2 + (tagC x).length ≤ (splice R ((i + 1) * 2) D).length := by rw [length_splice _ _ _ hfit1, htl, hRl]; omega
  have HPK1 := Lib.hid (And.intro (show Nat.min (n + 1 - i) (n - i) = n - i by simp only [Nat.min_def]; split <;> omega) (And.intro hDl (And.intro hfit1 (And.intro hone2 (And.intro hg hdcell)))))
  have HPK2 := Lib.hid (And.intro (show Nat.min 1 (n + 1 - i) = 1 by simp only [Nat.min_def]; split <;> omega) (And.intro htl (And.intro hfit2 hone1)))
  have HX := Lib.hid hx
  have HOWN : Hid (∀ w4, Blk w4 g 64 (splice (splice R ((i + 1) * 2) D) (i * 2) (tagC x)).toArray → w4.ownsRow base 64 2 (.slice (some ⟨g, 0, none⟩) (n + 1) c) (n + 1) ((cellsT l).take (i * 2) ++ (tagC x ++ (cellsT l).drop (i * 2)))) := fun w4 h4 => by
    refine ⟨by simp only [List.length_append, htl, List.length_take, List.length_drop, hll, hn]; omega, .inr ⟨g, c, _, rfl, hbg, h4, hcn, hcm, ?_, ?_⟩⟩
    · rw [List.size_toArray, length_splice _ _ _ hfit2, length_splice _ _ _ hfit1, hRl]
    · have := HFIN.out
      rw [show (i + 1) * 2 = i * 2 + 2 by omega, show (n + 1) * 2 = n * 2 + 2 by omega]
      exact this
  have hci : ¬ (c = i) := by omega
  have hci1 : ¬ (c = i + 1) := by omega
  have hic : (i : Int) < (n : Int) := by omega
  have hin : i ≤ n := by omega
  have hi63 : (c : Nat) ≤ 9223372036854775807 := by unfold maxLen at hcm; omega
  have hnn : (0 : Int) ≤ (i : Int) + 1 := by omega
  have hnn2 : (0 : Int) ≤ (n : Int) + 1 := by omega
  have hin1 : (i : Int) ≤ (n : Int) + 1 := by omega
  have hn1c : (n : Int) + 1 ≤ (c : Int) := by omega
  have hgt : ¬ ((c : Int) < (n : Int) + 1) := by omega
  have htn : ((n : Int) + 1).toNat = n + 1 := by omega
  have htn2 : ((i : Int) + 1).toNat = i + 1 := by omega
  have hw1 : IntKind.i64.wrap ((i : Int) + 1) = (i : Int) + 1 := by rw [IntKind.wrap_i64]; omega
  have hw2 : IntKind.i64.wrap ((n : Int) + 1) = (n : Int) + 1 := by rw [IntKind.wrap_i64]; omega
  have hq : ((i : Int) == (n : Int)) = false := by simp; omega
  clear hg hx hdcell hone1 hone2 hfit1 hfit2 htl hRl hDl HFIN hll hD
  go_enter Tryd.func29, Tryd.ntmps29
  go_upto_region 15 with (simp only [hov])
  go_region_law ((refine step_copy_K rfl (.tmp 73) (.tmp 76) 22 22 rfl 64 Tryd.underlying22 2 tag_size g ((i + 1) * 2) (n - i) (c - (i + 1)) ⟨g, i * 2, none⟩ (n + 1 - i) (c - i) (by simp [Act.eval, Act.put]) (by simp [Act.eval, Act.put]) R 64 HPK1.out.2.2.2.2.1 (n - i) HPK1.out.1 D HPK1.out.2.1 (fun j u hu => by rw [add_lit2]; exact HPK1.out.2.2.2.2.2 j u hu) HPK1.out.2.2.1 HPK1.out.2.2.2.1 ?_; intro w3 hB3 hC3))
  all_goals
    have hx3 : Blk w3 vb 64 #[.int .i64 x.1, .string ⟨x.2.toArray⟩] := HX.out.drew.chg hC3.out hne
    have hsx : Hid (∀ j u, (tagC x)[j]? = some u → w3.cell? ⟨vb, 0 + j, none⟩ = some u) := fun j u hu => by
      rw [Nat.zero_add, hx3.cell j]
      simpa [tagC, ← List.getElem?_toArray] using hu
    clear hx3
    go_wp2_with (with_reducible refine wpList_copy_K rfl (.tmp 80) (.tmp 81) 22 22 rfl 64 Tryd.underlying22 2 tag_size g (i * 2) (n + 1 - i) (c - i) ⟨vb, 0, none⟩ 1 1 ?a1 ?a2 (splice R ((i + 1) * 2) D) 64 ?a3 1 HPK2.out.1 (tagC x) HPK2.out.2.1 ?a6 HPK2.out.2.2.1 HPK2.out.2.2.2 ?_)
    first | (case a1 => rfl) | skip
    first | (case a2 => rfl) | skip
    case a3 => exact hB3.out
    case a6 => exact (fun j u hu => by have := hsx.out j u hu; simpa [add_lit2] using this)
    intro w4 hB4 hC4
    have hfin := Lib.hid (HOWN.out w4 hB4.out)
    have hchg : Hid (Chg (fun k => (Value.slice (some ⟨g, 0, none⟩) n c).ownBlock = some k) w w4) :=
      ((((Chg.refl (fun k => k = g) w).drew).trans hC3.out (fun k hk e => e)).trans hC4.out (fun k hk e => e)).mono (fun k hk e => by subst e; rfl)
    clear hB3 hB4 hC3 hC4 hsx
    go_wp2_with fail
    go_ret
    refine ⟨_, rfl, ?_, hchg.out⟩
    rw [HCAT.out, hn]
    exact hfin.out

theorem insert_any (v : Value) (l : List TagV) (i : Nat) (hi : i ≤ l.length) (x : TagV) (vb base : Nat) (w : World) (hown : w.ownsRow base 64 2 v l.length (cellsT l)) (hx : Blk w vb 64 #[.int .i64 x.1, .string ⟨x.2.toArray⟩]) (hne : v.ownBlock ≠ some vb) (hb : base ≤ w.heap.size) (hm : l.length ≤ 1048576) :
    Calls Tryd.prog 29 #[v, .int .i64 i, .slice (some ⟨vb, 0, none⟩) 1 1] w (InsP base v l i x w) := by
  by_cases h : i = l.length
  · subst h
    exact insert_end v l x vb base w hown hx hb hm
  · obtain ⟨_, h0 | ⟨g, cap, cur, rfl, hbg, hg, hnc, hcm, hcs, ht⟩⟩ := hown
    · omega
    · by_cases hc : cap < l.length + 1
      · exact insert_grow g l.length cap i l x vb base w cur (by omega) rfl hbg hg hnc hc ht hx hb hm
      · exact insert_room g l.length cap i l x vb base w cur (by omega) rfl hbg hg (by omega) hcm hcs ht hx (fun e => hne (by rw [e]; rfl)) hb hm

end Go.Proofs.YtkmhimaeakbpoaaDoor
