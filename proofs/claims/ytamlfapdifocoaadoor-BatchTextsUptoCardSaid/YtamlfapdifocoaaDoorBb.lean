/- Clone and Delete of a slice of requests; of, gone. -/
import Derived.Test.YtamlfapdifocoaaDoorBa
import Derived.Test.YtamlfapdifocoaaDoorMemB
set_option linter.unusedVariables false
set_option linter.unusedSimpArgs false
set_option linter.unnecessarySimpa false
namespace Go.Proofs.YtamlfapdifocoaaDoor
open Go.RowKit Go.Shelf

theorem req_info : (Tryd.prog.info? 26).map (fun i => (i.zero, i.size, i.bytes)) = some (some (.agg #[.int .i64 0, .int .i64 0, .string ⟨#[]⟩]), 3, 32) := by kernel_rfl

theorem cellsOf_one (l : List Req) : ∀ u ∈ cellsOf l, u.oneCell' = true := by
  intro u hu
  simp only [cellsOf, List.mem_flatMap] at hu
  obtain ⟨r, _, hr⟩ := hu
  simp [Req.cells] at hr
  rcases hr with rfl | rfl | rfl <;> rfl

set_option maxRecDepth 100000 in
set_option maxHeartbeats 400000 in
theorem clone_any (v : Value) (l : List Req) (w : World) (h0 : 0 < l.length) (hm : l.length ≤ 1000000000) (hr : Rd w w.heap.size 3 v l.length (cellsOf l)) :
    Calls Tryd.prog 32 #[v] w fun e w' => ∃ g cap, e = .returned (.slice (some ⟨g, 0, none⟩) l.length cap) ∧ w'.ownsRow w.heap.size 26 3 (.slice (some ⟨g, 0, none⟩) l.length cap) l.length (cellsOf l) ∧ Below w.heap.size w w' := by
  obtain ⟨i0, hi0, hz0, hz1, hz2⟩ := info_parts req_info
  obtain ⟨hl, A, c, rfl, hnc, hA | ⟨g, off, rfl, hg, hcell⟩⟩ := hr
  · omega
  have heq := fun wx => Lib.run_eql_slice_nil (P := Tryd.prog) wx 22 26 (some ⟨g, off, none⟩) l.length c 0 0 Tryd.underlying22
  simp only [Option.isNone_some] at heq
  go_enter Tryd.func32, Tryd.ntmps32
  have hown0 : (w.alloc (.cells #[] 26)).ownsRow w.heap.size 26 3 (.slice (some ⟨w.heap.size, 0, none⟩) 0 0) 0 [] := World.ownsRow_lit w #[] 0 (Nat.le_refl _) (by unfold maxLen; omega) (by simp)
  have hnews : ∀ j u, (cellsOf l)[j]? = some u → (w.alloc (.cells #[] 26)).cell? ((⟨g, off, none⟩ : Addr).add j) = some u := by
    intro j u hu
    rw [Addr.add_lit, World.cell?_alloc_lt _ _ _ hg]
    exact hcell j u hu
  clear hcell
  go_wp2_with (at_builtin; refine wpList_append_lies _ rfl (.tmp 5) (.tmp 6) _ rfl w.heap.size 26 i0 _ 3 32 Tryd.underlying22 hi0 hz0 hz1 hz2 rfl (by omega) (.slice (some ⟨w.heap.size, 0, none⟩) 0 0) 0 [] rfl hown0 ⟨g, off, none⟩ l.length c (cellsOf l) rfl (cellsOf_length l) hnews (cellsOf_one l) h0 (by unfold maxLen; omega) (by omega) (by simp) (w.heap.size + 1) (by simp) ?_; intro g1 cap1 w1 hown1 hg1 hat1 hlt1)
  go_ret
  simp only [Nat.zero_add, List.nil_append] at hown1
  refine ⟨g1, cap1, by simp, hown1, ?_⟩
  exact ((Below.refl _ _).alloc (Nat.le_refl _) _).grown hg1 (by simp) (by intro k hk; simp [Value.ownBlock] at hk; omega)

theorem cells_take (l : List Req) (k : Nat) : (cellsOf l).take (k * 3) = cellsOf (l.take k) := by
  induction l generalizing k with
  | nil => simp [cellsOf]
  | cons a l ih =>
    cases k with
    | zero => simp [cellsOf]
    | succ k =>
      have := ih k
      simp only [cellsOf, List.flatMap_cons, List.take_succ_cons] at this ⊢
      rw [show (k + 1) * 3 = (Req.cells a).length + k * 3 by simp [Req.cells]; omega, List.take_length_add_append, this]
theorem cells_drop (l : List Req) (k : Nat) : (cellsOf l).drop (k * 3) = cellsOf (l.drop k) := by
  induction l generalizing k with
  | nil => simp [cellsOf]
  | cons a l ih =>
    cases k with
    | zero => simp [cellsOf]
    | succ k =>
      have := ih k
      simp only [cellsOf, List.flatMap_cons, List.drop_succ_cons] at this ⊢
      rw [show (k + 1) * 3 = (Req.cells a).length + k * 3 by simp [Req.cells]; omega, List.drop_length_add_append, this]

set_option maxRecDepth 100000 in
set_option maxHeartbeats 800000 in
theorem delete_any (g cap : Nat) (l : List Req) (i : Nat) (w : World) (hi : i < l.length) (hm : l.length ≤ 1000000000) (_hc : cap ≤ 9223372036854775807) (base : Nat) (hown : w.ownsRow base 26 3 (.slice (some ⟨g, 0, none⟩) l.length cap) l.length (cellsOf l)) :
    Calls Tryd.prog 31 #[.slice (some ⟨g, 0, none⟩) l.length cap, .int .i64 i, .int .i64 (i + 1)] w fun e w' => e = .returned (.slice (some ⟨g, 0, none⟩) (l.length - 1) cap) ∧
      w'.ownsRow base 26 3 (.slice (some ⟨g, 0, none⟩) (l.length - 1) cap) (l.length - 1) (cellsOf (l.eraseIdx i)) ∧ w.grownBy w' (some g) := by
  obtain ⟨i0, hi0, hz0, hz1, hz2⟩ := info_parts req_info
  have hcap : l.length ≤ cap := by
    rcases hown.2 with ⟨h', _⟩ | ⟨g', cap', cur, h', _, _, hnc, _⟩
    · simp at h'
    · simp only [Value.slice.injEq, Option.some.injEq, Addr.mk.injEq, and_true, true_and] at h'
      omega
  have hd1 : Hid ((cellsOf (l.drop (i + 1))).length = (l.length - (i + 1)) * 3) := by rw [Hid, cellsOf_length, List.length_drop]
  have hone := cellsOf_one (l.drop (i + 1))
  have hown2 := own_shrink hown (k := i) (by omega)
  rw [cells_take] at hown2
  obtain ⟨A, hA, hnews⟩ : ∃ A : Addr, (if cap = i + 1 then some (⟨g, 0, none⟩ : Addr) else some ⟨g, (i + 1) * 3, none⟩) = some A ∧ Hid (∀ j u, (cellsOf (l.drop (i + 1)))[j]? = some u → w.drew.cell? (A.add j) = some u) := by
    by_cases h : cap = i + 1
    · refine ⟨⟨g, 0, none⟩, by simp [h], fun j u hu => ?_⟩
      have h0 : l.drop (i + 1) = [] := List.drop_eq_nil_of_le (by omega)
      rw [h0] at hu
      simp [cellsOf] at hu
    · refine ⟨⟨g, (i + 1) * 3, none⟩, by simp [h], fun j u hu => ?_⟩
      rw [← cells_drop, List.getElem?_drop] at hu
      have := hown.cells (g := g) rfl _ _ hu
      rw [Addr.add_lit] at this ⊢
      simpa using this
  have hic : i ≤ cap := by omega
  have hwr : IntKind.i64.wrap ((i : Int) + 1) = (i : Int) + 1 := by rw [IntKind.wrap_i64]; omega
  have hp0 : (0 : Int) ≤ (i : Int) + 1 := by omega
  have hp1 : (i : Int) + 1 ≤ (l.length : Int) := by omega
  have hp2 : ((i : Int) + 1).toNat = i + 1 := by omega
  have hroom : i + (l.length - (i + 1)) ≤ cap := by omega
  go_enter Tryd.func31, Tryd.ntmps31
  go_wp2_with fail
  go_region_law ((refine step_append_fits rfl (.tmp 22) (.tmp 25) 22 rfl base 26 i0 3 Tryd.underlying22 hi0 hz1 g i cap (cellsOf (l.take i)) (by simp [Act.eval, Act.put]) hown2 A (l.length - (i + 1)) (cap - (i + 1)) (cellsOf (l.drop (i + 1))) (by simp [Act.eval, Act.put]) hd1.out hnews.out hone hroom ?_; intro w1 hown1 hg1))
  have e1 : i + (l.length - (i + 1)) = l.length - 1 := by omega
  rw [e1] at hown1 ⊢
  clear e1
  go_wp2_with (with_reducible refine wpList_clear_own rfl (.tmp 31) 22 rfl 26 i0 _ 3 Tryd.underlying22 hi0 hz0 hz1 rfl ?c1 (by omega) base g (l.length - 1) l.length cap (l.length - (l.length - 1)) (cap - (l.length - 1)) _ ?c2 hown1 ?c3 hcap ?c5 ?_)
  case c2 => rfl
  case c3 => omega
  case c5 => omega
  case c1 => intro u hu; simp [Value.cells] at hu; rcases hu with rfl | rfl | rfl <;> rfl
  intro w2 hown3 hg2
  go_wp2
  go_ret
  refine ⟨rfl, ?_, ?_⟩
  · rw [List.eraseIdx_eq_take_drop_succ, cellsOf_append]; exact hown3
  · exact ((Chg.refl (fun k => k = g) w).drew.grown hg1 (by intro k hk _; injection hk with hk; exact hk.symm)).grown hg2 (by intro k hk _; injection hk with hk; exact hk.symm) |>.to_grown (fun _ h => h)

end Go.Proofs.YtamlfapdifocoaaDoor
