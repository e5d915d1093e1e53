/- slices.Insert of a tag, ahead of others. -/
import Derived.Test.YtkmhimaeakbpoaaDoorPe22
set_option linter.unusedVariables false
set_option linter.unusedSimpArgs false
set_option linter.unnecessarySimpa false
namespace Go.Proofs.YtkmhimaeakbpoaaDoor
open Go.RowKit Go.Shelf

theorem zeros_len (z : Array Value) (n : Nat) : (Builtin.zeroCells z n).size = n * z.size := by simp [Builtin.zeroCells]
theorem add_lit2 (g o j : Nat) : (⟨g, o, none⟩ : Addr).add j = ⟨g, o + j, none⟩ := by unfold Addr.add; split <;> simp_all

set_option maxHeartbeats 4000000 in
set_option maxRecDepth 100000 in
theorem insert_grow (g n c i : Nat) (l : List TagV) (x : TagV) (vb base : Nat) (w : World) (cur : Array Value) (hi : i < n) (hn : l.length = n) (hbg : base ≤ g) (hg : Blk w g 64 cur) (hnc : n ≤ c) (hcn : c < n + 1) (ht : cur.toList.take (n * 2) = cellsT l)
    (hx : Blk w vb 64 #[.int .i64 x.1, .string ⟨x.2.toArray⟩]) (hb : base ≤ w.heap.size) (hm : n ≤ 1048576) :
    Calls Tryd.prog 29 #[.slice (some ⟨g, 0, none⟩) n c, .int .i64 i, .slice (some ⟨vb, 0, none⟩) 1 1] w (InsP base (.slice (some ⟨g, 0, none⟩) n c) l i x w) := by
  obtain ⟨i0, hi0, hz0, hz1, hz2⟩ := info_parts tag_info
  obtain rfl : c = n := by omega
  have hgl := hg.lt
  have hvl := hx.lt
  have hll := cellsT_length l
  have hcell : ∀ j u, (cellsT l)[j]? = some u → w.cell? ⟨g, j, none⟩ = some u := fun j u hu => by
    rw [hg.cell j]
    rw [← ht, List.getElem?_take] at hu
    split at hu
    · simpa using hu
    · cases hu
  have hold : (Builtin.firstCells i0.size i (.slice (some ⟨g, 0, none⟩) i c)).run Tryd.prog w.drew = .ok (cellsT (l.take i)).toArray w.drew := by
    rw [hz1]
    exact run_firstCells_some (P := Tryd.prog) w.drew 2 i ⟨g, 0, none⟩ i c (cellsT (l.take i)) (by rw [cellsT_length, List.length_take]; omega) (fun j v hj => by
      rw [add_lit2, Nat.zero_add]
      rw [cellsT_take, List.getElem?_take] at hj
      split at hj
      · exact hcell j v hj
      · cases hj)
  have hkk : (c : Int) + 1 - (i : Int) = ((c + 1 - i : Nat) : Int) := by omega
  have hik : i + (c + 1 - i) = c + 1 := by omega
  have hG0 := growslice_fits (need := c + 1) (bytes := 24) (show c < c + 1 by omega) (by omega)
  have hrz : ∀ ty, (Builtin.append_ #[22, 3] ty #[.slice (some ⟨g, 0, none⟩) i c, .int .i64 ((c : Int) + 1 - (i : Int))]).run Tryd.prog w =
      .ok (.slice (some ⟨w.heap.size, 0, none⟩) (c + 1) (grownCap w (c + 1) c 64)) (w.drew.alloc (.cells ((cellsT (l.take i)).toArray ++ Builtin.zeroCells (Value.agg #[.int .i64 0, .string ⟨#[]⟩]).cells (c + 1 - i) ++ Builtin.zeroCells (Value.agg #[.int .i64 0, .string ⟨#[]⟩]).cells (grownCap w (c + 1) c 64 - (c + 1))) 64)) := fun ty => by
    have h := Lib.run_append_grow_zeros w 22 3 ty 64 i0 _ .i64 .i64 Tryd.underlying22 Tryd.underlying3 hi0 hz0 (some ⟨g, 0, none⟩) i c (cellsT (l.take i)) hold (c + 1 - i) (by omega) (by omega) (by omega) (by omega) (by rw [hz2]; omega) (by rw [hz2, hik]; exact hG0)
    rw [hik] at h
    rw [hkk]
    exact h
  have hGn : c + 1 ≤ grownCap w (c + 1) c 64 := grownCap_ge w _ _ _
  have hG63 : grownCap w (c + 1) c 64 ≤ maxLen := grownCap_le_maxLen w (c + 1) c 64 (by unfold maxLen; omega)
  generalize grownCap w (c + 1) c 64 = G at *
  obtain ⟨Z, hZ⟩ : ∃ Z : List Value, Z = (Builtin.zeroCells (Value.agg #[.int .i64 0, .string ⟨#[]⟩]).cells (c + 1 - i) ++ Builtin.zeroCells (Value.agg #[.int .i64 0, .string ⟨#[]⟩]).cells (G - (c + 1))).toList := ⟨_, rfl⟩
  have hZl : Z.length = (G - i) * 2 := by
    have z2 : (Value.agg #[.int .i64 0, .string ⟨#[]⟩]).cells.size = 2 := rfl
    rw [hZ, Array.length_toList, Array.size_append, zeros_len, zeros_len, z2]
    omega
  have hROW : ((cellsT (l.take i)).toArray ++ Builtin.zeroCells (Value.agg #[.int .i64 0, .string ⟨#[]⟩]).cells (c + 1 - i) ++ Builtin.zeroCells (Value.agg #[.int .i64 0, .string ⟨#[]⟩]).cells (G - (c + 1))) = (cellsT (l.take i) ++ Z).toArray := by
    rw [hZ]
    simp [Array.append_assoc]
  rw [hROW] at hrz
  have hpl : (cellsT (l.take i)).length = i * 2 := by rw [cellsT_length, List.length_take]; omega
  have hDl : (cellsT (l.drop i)).length = (c - i) * 2 := by rw [cellsT_length, List.length_drop]; omega
  have HFIN := Lib.hid (splice_grow (cellsT (l.take i)) (tagC x) (cellsT (l.drop i)) Z (i * 2) (c * 2) hpl rfl (by rw [hDl]; omega) (by omega) (by omega))
  have hcat : cellsT (l.take i ++ x :: l.drop i) = cellsT (l.take i) ++ (tagC x ++ cellsT (l.drop i)) := by rw [cellsT_append]; rfl
  have HCAT := Lib.hid hcat
  have hdcell : ∀ j u, (cellsT (l.drop i))[j]? = some u → w.cell? ⟨g, i * 2 + j, none⟩ = some u := fun j u hu => by
    rw [cellsT_drop, List.getElem?_drop] at hu
    exact hcell _ _ hu
  have hone1 : ∀ u ∈ tagC x, u.oneCell' = true := by simp [tagC, Value.oneCell']
  have hone2 := cellsT_one (l.drop i)
  clear hROW hZ hcat hold hkk hik hG0 hcell
  generalize hpre : cellsT (l.take i) = pre at *
  generalize hD : cellsT (l.drop i) = D at *
  obtain ⟨ROW, hR⟩ : ∃ ROW, ROW = pre ++ Z := ⟨_, rfl⟩
  rw [← hR] at hrz HFIN
  have hRl : ROW.length = G * 2 := by rw [hR, List.length_append, hpl, hZl]; omega
  have hN : Blk (w.drew.alloc (.cells ROW.toArray 64)) w.heap.size 64 ROW.toArray := Blk.new w.drew _ _
  have hbN : Below w.heap.size w (w.drew.alloc (.cells ROW.toArray 64)) := ((Below.refl _ w).drew).alloc (Nat.le_refl _) _
  have HX := Lib.hid hx
  have HG := Lib.hid hg
  have hdd : ∀ w', Below w.heap.size w w' → ∀ j u, D[j]? = some u → w'.cell? ⟨g, i * 2 + j, none⟩ = some u := fun w' h j u hu => (h.cell (p := ⟨g, i * 2 + j, none⟩) hgl).trans (hdcell j u hu)
  have hxx : ∀ w', Below w.heap.size w w' → ∀ j u, (tagC x)[j]? = some u → w'.cell? ⟨vb, 0 + j, none⟩ = some u := fun w' h j u hu => by
    rw [Nat.zero_add, (hx.below h hvl).cell j]
    simpa [tagC, ← List.getElem?_toArray] using hu
  have HDD := Lib.hid hdd
  have HXX := Lib.hid hxx
  have hci : ¬ (c = i) := by omega
  have hGi : ¬ (G = i) := by omega
  have hGi1 : ¬ (G = i + 1) := by omega
  have hic : (i : Int) < (c : Int) := by omega
  have hi63 : (G : Nat) ≤ 9223372036854775807 := by unfold maxLen at hG63; omega
  have hw1 : IntKind.i64.wrap ((i : Int) + 1) = (i : Int) + 1 := by rw [IntKind.wrap_i64]; omega
  have hq : ((i : Int) == (c : Int)) = false := by simp; omega
  clear hg hx hdd hxx hdcell hR
  go_enter Tryd.func29, Tryd.ntmps29
  have hN' : Blk (w.alloc (.cells ROW.toArray 64)).drew w.heap.size 64 ROW.toArray := (Blk.new w _ _).drew
  have hbN' : Below w.heap.size w (w.alloc (.cells ROW.toArray 64)).drew := ((Below.refl _ w).alloc (Nat.le_refl _) _).drew
  have hsrc1 := HXX.out _ hbN'
  have hm1 : Nat.min 1 (c + 1 - i) = 1 := by simp only [Nat.min_def]; split <;> omega
  have htl : (tagC x).length = 1 * 2 := rfl
  have hfit1 : i * 2 + (tagC x).length ≤ ROW.length := by rw [htl, hRl]; omega
  have HPK := Lib.hid (And.intro hN' (And.intro hbN' (And.intro hsrc1 (And.intro hm1 (And.intro htl (And.intro hfit1 hone1))))))
  have hm2 : Nat.min (c - i) (c - i) = c - i := by simp
  have hfit2 : (i + 1) * 2 + D.length ≤ (splice ROW (i * 2) (tagC x)).length := by rw [length_splice _ _ _ hfit1, hDl, hRl]; omega
  have HPK2 := Lib.hid (And.intro hm2 (And.intro hDl (And.intro hfit2 hone2)))
  have HOWN : Hid (∀ w4, Blk w4 w.heap.size 64 (splice (splice ROW (i * 2) (tagC x)) ((i + 1) * 2) D).toArray → w4.ownsRow base 64 2 (.slice (some ⟨w.heap.size, 0, none⟩) (c + 1) G) (c + 1) (pre ++ (tagC x ++ D))) := fun w4 h4 => by
    refine ⟨by simp only [List.length_append, htl, hpl, hDl]; omega, .inr ⟨w.heap.size, G, _, rfl, hb, h4, hGn, hG63, ?_, ?_⟩⟩
    · rw [List.size_toArray, length_splice _ _ _ hfit2, length_splice _ _ _ hfit1, hRl]
    · have := HFIN.out
      rw [show (i + 1) * 2 = i * 2 + 2 by omega, show (c + 1) * 2 = c * 2 + 2 by omega]
      exact this
  clear hN hbN hN' hbN' hsrc1 hm1 htl hfit1 hone1 hm2 hDl hfit2 hone2 hRl hZl hll hpl hpre hD HFIN ht
  go_upto_region 10 with (at_builtin; refine Lib.wpList_append_run _ rfl _ _ _ _ rfl _ _ rfl rfl _ _ (hrz _) ?_; clear hrz)
  go_wp2_with (with_reducible refine wpList_copy_K rfl (.tmp 43) (.tmp 44) 22 22 rfl 64 Tryd.underlying22 2 tag_size w.heap.size (i * 2) (c + 1 - i) (G - i) ⟨vb, 0, none⟩ 1 1 ?a1 ?a2 ROW 64 ?a3 1 HPK.out.2.2.2.1 (tagC x) HPK.out.2.2.2.2.1 ?a6 HPK.out.2.2.2.2.2.1 HPK.out.2.2.2.2.2.2 ?_)
  case a1 => rfl
  case a2 => rfl
  case a3 => exact HPK.out.1
  case a6 => exact (fun j u hu => by rw [add_lit2]; exact HPK.out.2.2.1 j u hu)
  intro w3 hB3 hC3
  go_upto_region 11 with fail
  have hb3 : Below w.heap.size w w3 := HPK.out.2.1.trans (hC3.out.to_below (fun k hk e => by omega) HPK.out.2.1.size)
  have HB3 := Lib.hid hb3
  have hsrc2 := HDD.out w3 hb3
  have HS2 := Lib.hid hsrc2
  clear hsrc2 hb3 HDD HXX HPK hC3
  have hnn : (0 : Int) ≤ (i : Int) + 1 := by omega
  have hle : i ≤ c := by omega
  go_region_law ((refine step_copy_K rfl (.tmp 50) (.tmp 53) 22 22 rfl 64 Tryd.underlying22 2 tag_size w.heap.size ((i + 1) * 2) (c - i) (G - (i + 1)) ⟨g, i * 2, none⟩ (c - i) (c - i) (by simp [Act.eval, Act.put]) (by simp [Act.eval, Act.put]) (splice ROW (i * 2) (tagC x)) 64 hB3.out (c - i) HPK2.out.1 D HPK2.out.2.1 (fun j u hu => by rw [add_lit2]; exact HS2.out j u hu) HPK2.out.2.2.1 HPK2.out.2.2.2 ?_; intro w4 hB4 hC4))
  all_goals
    have hfin := Lib.hid (HOWN.out w4 hB4.out)
    have hchg : Hid (Below w.heap.size w w4) := (HB3.out.drew).trans (hC4.out.to_below (fun k hk e => by omega) HB3.out.size)
    clear hB4 hC4
    go_wp2_with fail
    go_ret
    refine ⟨_, rfl, ?_, Chg.of_below hchg.out⟩
    rw [HCAT.out, hn]
    exact hfin.out

end Go.Proofs.YtkmhimaeakbpoaaDoor
