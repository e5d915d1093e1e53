/- ChainNil and ChainNext, walked. -/
import Derived.Test.YtoaocdhpbpghgaaLb
namespace Go.Proofs.Ytoaocdhpbpghgaa
open Go.RowKit Go.Shelf

set_option maxHeartbeats 1000000 in
set_option maxRecDepth 100000 in
theorem chainNil_any (x : Cmd) (num : Int) (w : World) : Calls Try.prog 6 #[.agg #[.int .i64 x.kind, .int .i64 x.group, .int .i64 x.shard], .int .i64 num] w fun e w' => e = .returned (.bool true) ∧ Below w.heap.size w w' := by
  have hb0 := Lib.hid (fun o => (Below.refl w.heap.size w).alloc (Nat.le_refl _) o)
  go_enter Try.func6, Try.ntmps6
  go_wp2_with fail
  refine (get_nil num _).mono ?_
  rintro e w1 ⟨s1, rfl, ho1, hb1⟩
  obtain ⟨A1, c1, rfl⟩ := own_shape ho1
  have hx : Blk w1 w.heap.size 27 #[.int .i64 x.kind, .int .i64 x.group, .int .i64 x.shard] := Blk.below (Blk.new w _ _) hb1 (by simp)
  have y0 : w1.cell? ⟨w.heap.size, 0, none⟩ = some (.int .i64 x.kind) := hx.cell 0
  have y1 : w1.cell? ⟨w.heap.size, 1, none⟩ = some (.int .i64 x.group) := hx.cell 1
  have y2 : w1.cell? ⟨w.heap.size, 2, none⟩ = some (.int .i64 x.shard) := hx.cell 2
  have hlt : w.heap.size < w1.heap.size := hx.lt
  have HB1 := Lib.hid ((hb0.out _).trans (hb1.mono (by simp)))
  have hsz : w.heap.size ≤ w1.heap.size := HB1.out.size
  clear hb1 ho1 hx
  unfold Cfg.val
  simp only [cfg0]
  have HB2 := Lib.hid (fun o => HB1.out.alloc hsz o)
  go_wp2_with fail
  refine (do_nil x _).mono ?_
  rintro e w2 ⟨rfl, hb2⟩
  have HB3 := Lib.hid ((HB2.out _).trans (hb2.mono (by simp; omega)))
  clear hb2 HB2 HB1 y0 y1 y2 hlt
  go_wp2_with fail
  refine (last_nil w2).mono ?_
  rintro e w3 ⟨s3, rfl, ho3, hb3⟩
  obtain ⟨A3, c3, rfl⟩ := own_shape ho3
  have HR := Lib.hid (Rd.of_own ho3)
  have HB4 := Lib.hid (HB3.out.trans (hb3.mono HB3.out.size))
  clear hb3 ho3 HB3
  unfold Cfg.val
  simp only [cfg0]
  go_wp2_with fail
  refine (same_true cfg0 A3 c3 none 0 w3 w3.heap.size (Nat.le_refl _) HR.out (Rd.nil _ _ _ _) (by simp [cfg0])).mono ?_
  rintro e w4 ⟨rfl, hb4⟩
  have HB5 := Lib.hid (HB4.out.trans (hb4.mono HB4.out.size))
  clear hb4 HB4 HR
  go_wp2_with fail
  refine (three_any w4).mono ?_
  rintro e w5 ⟨rfl, hb5⟩
  have HB6 := Lib.hid (HB5.out.trans (hb5.mono HB5.out.size))
  clear hb5 HB5
  go_wp2_with fail
  go_ret
  exact ⟨rfl, HB6.out⟩

end Go.Proofs.Ytoaocdhpbpghgaa
