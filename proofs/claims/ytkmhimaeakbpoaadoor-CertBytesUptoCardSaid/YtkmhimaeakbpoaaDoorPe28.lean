/- seal: is, Name. -/
import Derived.Test.YtkmhimaeakbpoaaDoorPe27
import Derived.Test.YtkmhimaeakbpoaaDoorPe25
set_option linter.unusedVariables false
set_option linter.unusedSimpArgs false
set_option linter.unnecessarySimpa false
namespace Go.Proofs.YtkmhimaeakbpoaaDoor
open Go.RowKit Go.Shelf

set_option maxHeartbeats 1000000 in
set_option maxRecDepth 100000 in
theorem is_any (g n : Int) (w : World) : Calls Tryd.prog 46 #[.agg #[.int .i64 g, .int .i64 n]] w fun e w' => e = .returned (.bool (isPB g n)) ∧ Below w.heap.size w w' := by
  have hb := (Below.refl w.heap.size w).alloc (Nat.le_refl _) (.cells #[.int .i64 g, .int .i64 n] 26)
  unfold isPB
  cases h1 : decide (-1 ≤ g) with
  | false =>
    go_enter Tryd.func46, Tryd.ntmps46
    go_wp2
    go_ret
    exact ⟨by simp, hb⟩
  | true =>
    cases h2 : decide (g ≤ 4) with
    | false =>
      go_enter Tryd.func46, Tryd.ntmps46
      go_wp2
      go_ret
      exact ⟨by simp, hb⟩
    | true =>
      cases h3 : decide (0 ≤ n) with
      | false =>
        go_enter Tryd.func46, Tryd.ntmps46
        go_wp2
        go_ret
        exact ⟨by simp, hb⟩
      | true =>
        cases h4 : decide (n ≤ 15) with
        | false =>
          go_enter Tryd.func46, Tryd.ntmps46
          go_wp2
          go_ret
          exact ⟨by simp, hb⟩
        | true =>
          go_enter Tryd.func46, Tryd.ntmps46
          go_wp2
          go_ret
          exact ⟨by simp, hb⟩

def nameB (g n : Int) : Bs := packB [Lib.itoa g, Lib.itoa n]
def nameS (g n : Int) : Bs × Int := if isPB g n = true then (nameB g n, 0) else ([], 1)
theorem isPB_in {g n : Int} (h : isPB g n = true) : -1 ≤ g ∧ g ≤ 4 ∧ 0 ≤ n ∧ n ≤ 15 := by
  simp only [isPB, Bool.and_eq_true, decide_eq_true_eq] at h
  omega

set_option maxHeartbeats 1000000 in
set_option maxRecDepth 100000 in
theorem name_any (g n : Int) (w : World) (hl : LayN w) : Calls Tryd.prog 25 #[.agg #[.int .i64 g, .int .i64 n]] w fun e w' => e = .returned (.tuple #[.string ⟨(nameS g n).1.toArray⟩, .int .i64 (nameS g n).2]) ∧ Below w.heap.size w w' := by
  have hb0 := (Below.refl w.heap.size w).alloc (Nat.le_refl _) (.cells #[.int .i64 g, .int .i64 n] 26)
  have hI := is_any g n (w.alloc (.cells #[.int .i64 g, .int .i64 n] 26))
  have HBX := Lib.hid (Blk.new w 26 #[.int .i64 g, .int .i64 n])
  have HB0 := Lib.hid hb0
  clear hb0
  cases hp : isPB g n with
  | false =>
    have HN : Hid (nameS g n = ([], 1)) := by unfold Hid nameS; rw [hp]; rfl
    rw [hp] at hI
    go_enter Tryd.func25, Tryd.ntmps25
    go_wp2_with fail
    refine hI.mono ?_
    rintro e w1 ⟨rfl, hb1⟩
    go_wp2
    go_ret2
    exact ⟨by rw [HN.out]; rfl, HB0.out.trans (hb1.mono HB0.out.size)⟩
  | true =>
    have HN : Hid (nameS g n = (packB [Lib.itoa g, Lib.itoa n], 0)) := by unfold Hid nameS; rw [hp]; rfl
    obtain ⟨p1, p2, p3, p4⟩ := isPB_in hp
    have hi1 := Lib.itoa_length_le g (by omega) (by omega)
    have hi2 := Lib.itoa_length_le n (by omega) (by omega)
    have HLN : Hid ((packB [Lib.itoa g, Lib.itoa n]).length ≤ 140737488355328) := by
      have hj1 := Lib.itoa_length_le ((Lib.itoa g).length : Int) (by omega) (by omega)
      have hj2 := Lib.itoa_length_le ((Lib.itoa n).length : Int) (by omega) (by omega)
      have h6 : packB [] = [] := rfl
      unfold Hid
      rw [packB_cons, packB_cons, h6]
      simp only [List.length_append, List.length_cons, List.length_nil]
      omega
    rw [hp] at hI
    clear hi1 hi2
    go_enter Tryd.func25, Tryd.ntmps25
    go_wp2_with fail
    refine hI.mono ?_
    rintro e W ⟨rfl, hb1⟩
    have HBW := Lib.hid (HB0.out.trans (hb1.mono HB0.out.size))
    have HX := Lib.hid (HBX.out.below hb1 HBX.out.lt)
    have HLW : Hid (∀ w', Below W.heap.size W w' → LayN w') := fun w' h => (hl.later HBW.out).later h
    have g1 : -9223372036854775808 ≤ g := by omega
    have g2 : g ≤ 9223372036854775807 := by omega
    have n1 : -9223372036854775808 ≤ n := by omega
    have n2 : n ≤ 9223372036854775807 := by omega
    clear hb1 hI HB0 HBX
    go_wp2_with fail
    go_region_held3 (fun w' => w'.cell? ⟨w.heap.size, 0, none⟩ = some (.int .i64 g) ∧ w'.cell? ⟨w.heap.size, 1, none⟩ = some (.int .i64 n))
      ((refine keep2Y HX.out ?_; simp only [bl_drew, bl_alloc, bl_refl, *]))
      ((first
        | (go_at_call 38; have hq := hbl2; refine Calls.mono (pack_anyN _ [Lib.itoa g, Lib.itoa n] (w2.heap.size + 1) _ (HLW.out _ (below_al hbl2 _)) (by simp) (rd_newY w2 [Lib.itoa g, Lib.itoa n] _ rfl 2 rfl) (by simp) HLN.out) ?_; rintro e w4 ⟨rfl, hb4⟩; have hbl4 : Below W.heap.size W w4 := below_then (below_al hbl2 _) hb4)
        | (go_at_call 37; have hq := hbl1; refine Calls.mono (num_anyN n n1 n2 _ (HLW.out _ hbl1)) ?_; rintro e w2 ⟨rfl, hb2⟩; have hbl2 : Below W.heap.size W w2 := below_then hbl1 hb2)
        | (go_at_call 37; refine Calls.mono (num_anyN g g1 g2 _ (HLW.out _ (by simp only [bl_drew, bl_refl]))) ?_; rintro e w1 ⟨rfl, hb1⟩; have hbl1 : Below W.heap.size W w1 := below_then (by simp only [bl_drew, bl_refl]) hb1)))
    all_goals
      have hfin := Lib.hid (HBW.out.trans (hbl4.mono HBW.out.size))
      clear hbl4 hbl2 hbl1 hb4
      go_wp2
      go_ret2
      exact ⟨by rw [HN.out]; rfl, hfin.out⟩

end Go.Proofs.YtkmhimaeakbpoaaDoor
