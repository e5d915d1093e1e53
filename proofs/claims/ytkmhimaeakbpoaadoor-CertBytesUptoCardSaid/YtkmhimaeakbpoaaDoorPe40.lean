/- The law's own same, where both are alike. -/
import Derived.Test.YtkmhimaeakbpoaaDoorPe39
set_option linter.unusedVariables false
set_option linter.unusedSimpArgs false
set_option linter.unnecessarySimpa false
namespace Go.Proofs.YtkmhimaeakbpoaaDoor
open Go.RowKit Go.Shelf

set_option maxHeartbeats 8000000 in
set_option maxRecDepth 100000 in
theorem same_true (c : Crt) (A1 A2 : Option Addr) (k1 k2 : Nat) (w : World) (B : Nat) (hB : B ≤ w.heap.size) (hr1 : Rd w B 2 (.slice A1 c.tags.length k1) c.tags.length (cellsT c.tags)) (hr2 : Rd w B 2 (.slice A2 c.tags.length k2) c.tags.length (cellsT c.tags)) (hm : c.tags.length ≤ 1048576) :
    Calls Tryd.prog 13 #[.agg #[.string ⟨c.t.toArray⟩, .int .i64 c.g, .slice A1 c.tags.length k1], .agg #[.string ⟨c.t.toArray⟩, .int .i64 c.g, .slice A2 c.tags.length k2]] w fun e w' => e = .returned (.bool true) ∧ Below w.heap.size w w' := by
  have HR1 := Lib.hid (hr1.more hB)
  have HR2 := Lib.hid (hr2.more hB)
  clear hr1 hr2
  have hs1 : (w.alloc (.cells #[.string ⟨c.t.toArray⟩, .int .i64 c.g, .slice A1 c.tags.length k1] 24)).heap.size = w.heap.size + 1 := by simp
  generalize hW : (w.alloc (.cells #[.string ⟨c.t.toArray⟩, .int .i64 c.g, .slice A1 c.tags.length k1] 24)).alloc (.cells #[.string ⟨c.t.toArray⟩, .int .i64 c.g, .slice A2 c.tags.length k2] 36) = W
  have hb : Below w.heap.size w W := by rw [← hW]; exact ((Below.refl _ w).alloc (Nat.le_refl _) _).alloc (by simp) _
  have hX : Blk W w.heap.size 24 #[.string ⟨c.t.toArray⟩, .int .i64 c.g, .slice A1 c.tags.length k1] := by rw [← hW]; exact (Blk.new w _ _).alloc _
  have hY : Blk W (w.heap.size + 1) 36 #[.string ⟨c.t.toArray⟩, .int .i64 c.g, .slice A2 c.tags.length k2] := by rw [← hW, ← hs1]; exact Blk.new _ _ _
  have x0 : W.cell? ⟨w.heap.size, 0, none⟩ = some (.string ⟨c.t.toArray⟩) := hX.cell 0
  have x1 : W.cell? ⟨w.heap.size, 1, none⟩ = some (.int .i64 c.g) := hX.cell 1
  have x2 : W.cell? ⟨w.heap.size, 2, none⟩ = some (.slice A1 c.tags.length k1) := hX.cell 2
  have y0 : W.cell? ⟨w.heap.size + 1, 0, none⟩ = some (.string ⟨c.t.toArray⟩) := hY.cell 0
  have y1 : W.cell? ⟨w.heap.size + 1, 1, none⟩ = some (.int .i64 c.g) := hY.cell 1
  have y2 : W.cell? ⟨w.heap.size + 1, 2, none⟩ = some (.slice A2 c.tags.length k2) := hY.cell 2
  have HB := Lib.hid hb
  have HX := Lib.hid hX
  have HY := Lib.hid hY
  clear hs1 hb hX hY
  go_enter Tryd.func13, Tryd.ntmps13
  go_upto_region 1 with fail
  clear hW
  go_wp2_with fail
  go_loopw [30] (fun i wr => ∃ k : Nat, k ≤ c.tags.length ∧ i = .int .i64 k ∧ Hid (Below W.heap.size W wr)) (fun i _ => c.tags.length - (intOf i).toNat)
  case atStart => exact ⟨0, Nat.zero_le _, rfl, Below.refl _ _⟩
  case round =>
    obtain ⟨k, hk, rfl, HI⟩ := hrel
    obtain ⟨u0, u1, u2⟩ := keep3Y HX.out HI.out
    obtain ⟨v0, v1, v2⟩ := keep3Y HY.out HI.out
    by_cases hlt : k < c.tags.length
    · obtain ⟨g1, o1, c1', hV1, hg1, p0, p1⟩ := rd_tag ((HR1.out.below HB.out).below (HI.out.mono HB.out.size)) hlt
      injection hV1 with hA1 hl1 hc1
      subst hA1
      obtain ⟨g2, o2, c2', hV2, hg2, q0, q1⟩ := rd_tag ((HR2.out.below HB.out).below (HI.out.mono HB.out.size)) hlt
      injection hV2 with hA2 hl2 hc2
      subst hA2
      clear hc1 hc2 hl1 hl2 x0 x1 x2 y0 y1 y2 u0 u1 v0 v1
      generalize c.tags[k] = x at *
      obtain ⟨n, s⟩ := x
      simp only at p0 p1 q0 q1
      go_upto_region 6 with fail
      go_cut [60] (fun tv wc => tv = .bool false ∧ Below W.heap.size W wc)
      case first =>
        go_region_held3 (fun w' => w'.cell? ⟨w.heap.size, 2, none⟩ = some (.slice (some ⟨g1, o1, none⟩) c.tags.length k1) ∧ w'.cell? ⟨w.heap.size + 1, 2, none⟩ = some (.slice (some ⟨g2, o2, none⟩) c.tags.length k2) ∧ w'.cell? ⟨g1, o1 + k * 2, none⟩ = some (.int .i64 n) ∧ w'.cell? ⟨g2, o2 + k * 2, none⟩ = some (.int .i64 n) ∧ w'.cell? ⟨g1, o1 + k * 2 + 1, none⟩ = some (.string ⟨s.toArray⟩) ∧ w'.cell? ⟨g2, o2 + k * 2 + 1, none⟩ = some (.string ⟨s.toArray⟩))
          ((exact ⟨u2, v2, p0, q0, p1, q1⟩))
          ((fail))
        all_goals
          go_wp2_with fail
          go_meet
          case rel => exact ⟨by simp, HI.out.drew⟩
      case rest =>
        obtain ⟨rfl, hbc⟩ := hcut
        have HBC := Lib.hid hbc
        clear hbc p0 p1 q0 q1 u2 v2
        go_wp2_with fail
        exact ⟨⟨k + 1, by omega, by simp, HBC.out⟩, by simp [intOf]; omega⟩
    · obtain rfl : k = c.tags.length := by omega
      clear x0 x1 x2 y0 y1 y2 hlt
      go_wp2_with fail
      go_ret
      exact ⟨rfl, HB.out.trans (HI.out.mono HB.out.size)⟩

end Go.Proofs.YtkmhimaeakbpoaaDoor
