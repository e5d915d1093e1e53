/- The reference: the next configuration, refused. -/
import Derived.Test.YtijacbnoemjgcaaGreatDoorPb16
import Derived.Test.YtijacbnoemjgcaaGreatDoorPb17
import Derived.Test.YtijacbnoemjgcaaGreatDoorPb18
set_option linter.unusedVariables false
set_option linter.unusedSimpArgs false
set_option linter.unnecessarySimpa false
namespace Go.Proofs.YtijacbnoemjgcaaGreatDoor
open Go.RowKit Go.Shelf

def RNext (c : Cfg) (x : Cmd) (s : Value) (w : World) : Prop :=
    Calls Tryz.prog 33 #[.agg #[.int .i64 c.num, s, .int .i64 c.o.a, .int .i64 c.o.b, .int .i64 c.o.c, .int .i64 c.o.d], .agg #[.int .i64 x.kind, .int .i64 x.group, .int .i64 x.shard]] w fun e w' =>
      ∃ s', e = .returned (.tuple #[(nextS c x).1.val s', .int .i64 (nextS c x).2]) ∧ w'.ownsRow w.heap.size 3 1 s' (nextS c x).1.gs.length (ints (nextS c x).1.gs) ∧ Below w.heap.size w w'

/-- What is known behind the check. -/
structure RAt (c : Cfg) (x : Cmd) (s : Value) (w w1 : World) : Prop where
  hc : Blk w1 w.heap.size 92 (cfgCells c.num s c.o)
  hx : Blk w1 (w.heap.size + 1) 68 #[.int .i64 x.kind, .int .i64 x.group, .int .i64 x.shard]
  hz : Blk w1 (w.heap.size + 2) 92 (cfgCells 0 (.slice none 0 0) ⟨0, 0, 0, 0⟩)
  hb : Below w.heap.size w w1
theorem rat_of {c : Cfg} {x : Cmd} {s : Value} {w w1 : World} (h : Below (((w.alloc (.cells (cfgCells c.num s c.o) 92)).alloc (.cells #[.int .i64 x.kind, .int .i64 x.group, .int .i64 x.shard] 68)).alloc (.cells (cfgCells 0 (.slice none 0 0) ⟨0, 0, 0, 0⟩) 92)).heap.size
    (((w.alloc (.cells (cfgCells c.num s c.o) 92)).alloc (.cells #[.int .i64 x.kind, .int .i64 x.group, .int .i64 x.shard] 68)).alloc (.cells (cfgCells 0 (.slice none 0 0) ⟨0, 0, 0, 0⟩) 92)) w1) : RAt c x s w w1 :=
  ⟨Blk.below (((Blk.new w _ _).alloc _).alloc _) h (by simp; omega), Blk.below (((Blk.new (w.alloc _) _ _).alloc _).cast_ (by simp)) h (by simp), Blk.below ((Blk.new ((w.alloc _).alloc _) _ _).cast_ (by simp)) h (by simp),
   ((((Below.refl _ w).alloc (Nat.le_refl _) _).alloc (by simp) _).alloc (by simp; omega) _).trans (h.mono (by simp; omega))⟩

theorem rend {w W : World} (h : Below w.heap.size w W) (W' : World) (hc : Chg (fun i => i = w.heap.size + 2) W W') : W'.ownsRow w.heap.size 3 1 (.slice none 0 0) cfg0.gs.length (ints cfg0.gs) ∧ Below w.heap.size w W' :=
  ⟨World.ownsRow_nil _ _ _ _, ((Chg.of_below (F := fun i => i = w.heap.size + 2) h).trans hc (fun _ _ h => h)).to_below (by intro i hi; omega) (Nat.le_refl _)⟩

set_option maxHeartbeats 1000000 in
set_option maxRecDepth 100000 in
theorem rnext_form (c : Cfg) (x : Cmd) (s : Value) (w : World) (hr : Rd w w.heap.size 1 s c.gs.length (ints c.gs)) (hm : c.gs.length ≤ 1000) (hck : checkB c = false) : RNext c x s w := by
  have he : Hid (nextS c x = (cfg0, 4)) := by unfold Hid nextS; rw [if_pos hck]
  have HRa : Hid (∀ o o' o2, Rd (((w.alloc o).alloc o').alloc o2) w.heap.size 1 s c.gs.length (ints c.gs)) := fun o o' o2 => hr.below ((((Below.refl _ w).alloc (Nat.le_refl _) o).alloc (by simp) o').alloc (by simp; omega) o2)
  clear hr
  unfold RNext
  go_enter Tryz.func33, Tryz.ntmps33
  go_wp2_with fail
  refine (rcheck_any c s _ w.heap.size (by simp; omega) (HRa.out _ _ _) (by omega)).mono ?_
  rintro e w1 ⟨rfl, hb⟩
  rw [hck]
  have hR : RAt c x s w w1 := rat_of hb
  obtain ⟨z0, z1, z2, z3, z4, z5⟩ := keep6 hR.hz (Below.refl _ _)
  have f0 := hR.hz.frozen 0
  have f1 := hR.hz.frozen 1
  have f2 := hR.hz.frozen 2
  have f3 := hR.hz.frozen 3
  have f4 := hR.hz.frozen 4
  have f5 := hR.hz.frozen 5
  have HR1 := Lib.hid hR
  clear hR hb
  simp only [errC]
  go_wp2_with fail
  refine bodyPost_ret (v := .tuple #[cfg0.val (.slice none 0 0), .int .i64 4]) (by simp [results, Tryz.results33, go_sem, z0, z1, z2, z3, z4, z5, Cfg.val, cfg0]) rfl ?_
  rw [he.out]
  exact ⟨.slice none 0 0, rfl, rend (HR1.out.hb) _ (((((((Chg.refl (fun i => i = w.heap.size + 2) _).setCell (fun _ => rfl) _).setCell (fun _ => rfl) _).setCell (fun _ => rfl) _).setCell (fun _ => rfl) _).setCell (fun _ => rfl) _).setCell (fun _ => rfl) _)⟩

set_option maxHeartbeats 1000000 in
set_option maxRecDepth 100000 in
theorem rnext_k1 (c : Cfg) (kind grp sh : Int) (A : Option Addr) (cc : Nat) (w : World) (hr : Rd w w.heap.size 1 (.slice A c.gs.length cc) c.gs.length (ints c.gs)) (hm : c.gs.length ≤ 1000) (hck : checkB c = true) (he : Hid (nextS c ⟨kind, grp, sh⟩ = (cfg0, 1)))
    (h1 : kind < 1) : RNext c ⟨kind, grp, sh⟩ (.slice A c.gs.length cc) w := by
  have HRa : Hid (∀ o o' o2, Rd (((w.alloc o).alloc o').alloc o2) w.heap.size 1 (.slice A c.gs.length cc) c.gs.length (ints c.gs)) := fun o o' o2 => hr.below ((((Below.refl _ w).alloc (Nat.le_refl _) o).alloc (by simp) o').alloc (by simp; omega) o2)
  have HR := Lib.hid hr
  clear hr
  have HCK := Lib.hid hck
  clear hck
  unfold RNext
  go_enter Tryz.func33, Tryz.ntmps33
  go_wp2_with fail
  refine (rcheck_any c _ _ w.heap.size (by simp; omega) (HRa.out _ _ _) (by omega)).mono ?_
  rintro e w1 ⟨rfl, hb⟩
  rw [HCK.out]
  have hR : RAt c ⟨kind, grp, sh⟩ (.slice A c.gs.length cc) w w1 := rat_of hb
  obtain ⟨q0, q1, q2, q3, q4, q5⟩ := keep6 hR.hc (Below.refl _ _)
  have y0 : w1.cell? ⟨w.heap.size + 1, 0, none⟩ = some (.int .i64 kind) := hR.hx.cell 0
  have y1 : w1.cell? ⟨w.heap.size + 1, 1, none⟩ = some (.int .i64 grp) := hR.hx.cell 1
  have y2 : w1.cell? ⟨w.heap.size + 1, 2, none⟩ = some (.int .i64 sh) := hR.hx.cell 2
  obtain ⟨z0, z1, z2, z3, z4, z5⟩ := keep6 hR.hz (Below.refl _ _)
  have f0 := hR.hz.frozen 0
  have f1 := hR.hz.frozen 1
  have f2 := hR.hz.frozen 2
  have f3 := hR.hz.frozen 3
  have f4 := hR.hz.frozen 4
  have f5 := hR.hz.frozen 5
  have HR1 := Lib.hid hR
  clear hR hb
  simp only [errC]
  go_wp2_with fail
  refine bodyPost_ret (v := .tuple #[cfg0.val (.slice none 0 0), .int .i64 1]) (by simp [results, Tryz.results33, go_sem, z0, z1, z2, z3, z4, z5, Cfg.val, cfg0]) rfl ?_
  rw [he.out]
  exact ⟨.slice none 0 0, rfl, rend (HR1.out.hb) _ (((((((Chg.refl (fun i => i = w.heap.size + 2) _).setCell (fun _ => rfl) _).setCell (fun _ => rfl) _).setCell (fun _ => rfl) _).setCell (fun _ => rfl) _).setCell (fun _ => rfl) _).setCell (fun _ => rfl) _)⟩

set_option maxHeartbeats 1000000 in
set_option maxRecDepth 100000 in
theorem rnext_k3 (c : Cfg) (kind grp sh : Int) (A : Option Addr) (cc : Nat) (w : World) (hr : Rd w w.heap.size 1 (.slice A c.gs.length cc) c.gs.length (ints c.gs)) (hm : c.gs.length ≤ 1000) (hck : checkB c = true) (he : Hid (nextS c ⟨kind, grp, sh⟩ = (cfg0, 1)))
    (h1 : 3 < kind) : RNext c ⟨kind, grp, sh⟩ (.slice A c.gs.length cc) w := by
  have HRa : Hid (∀ o o' o2, Rd (((w.alloc o).alloc o').alloc o2) w.heap.size 1 (.slice A c.gs.length cc) c.gs.length (ints c.gs)) := fun o o' o2 => hr.below ((((Below.refl _ w).alloc (Nat.le_refl _) o).alloc (by simp) o').alloc (by simp; omega) o2)
  have HR := Lib.hid hr
  clear hr
  have HCK := Lib.hid hck
  clear hck
  unfold RNext
  go_enter Tryz.func33, Tryz.ntmps33
  go_wp2_with fail
  refine (rcheck_any c _ _ w.heap.size (by simp; omega) (HRa.out _ _ _) (by omega)).mono ?_
  rintro e w1 ⟨rfl, hb⟩
  rw [HCK.out]
  have hR : RAt c ⟨kind, grp, sh⟩ (.slice A c.gs.length cc) w w1 := rat_of hb
  obtain ⟨q0, q1, q2, q3, q4, q5⟩ := keep6 hR.hc (Below.refl _ _)
  have y0 : w1.cell? ⟨w.heap.size + 1, 0, none⟩ = some (.int .i64 kind) := hR.hx.cell 0
  have y1 : w1.cell? ⟨w.heap.size + 1, 1, none⟩ = some (.int .i64 grp) := hR.hx.cell 1
  have y2 : w1.cell? ⟨w.heap.size + 1, 2, none⟩ = some (.int .i64 sh) := hR.hx.cell 2
  obtain ⟨z0, z1, z2, z3, z4, z5⟩ := keep6 hR.hz (Below.refl _ _)
  have f0 := hR.hz.frozen 0
  have f1 := hR.hz.frozen 1
  have f2 := hR.hz.frozen 2
  have f3 := hR.hz.frozen 3
  have f4 := hR.hz.frozen 4
  have f5 := hR.hz.frozen 5
  have HR1 := Lib.hid hR
  clear hR hb
  simp only [errC]
  go_wp2_with fail
  refine bodyPost_ret (v := .tuple #[cfg0.val (.slice none 0 0), .int .i64 1]) (by simp [results, Tryz.results33, go_sem, z0, z1, z2, z3, z4, z5, Cfg.val, cfg0]) rfl ?_
  rw [he.out]
  exact ⟨.slice none 0 0, rfl, rend (HR1.out.hb) _ (((((((Chg.refl (fun i => i = w.heap.size + 2) _).setCell (fun _ => rfl) _).setCell (fun _ => rfl) _).setCell (fun _ => rfl) _).setCell (fun _ => rfl) _).setCell (fun _ => rfl) _).setCell (fun _ => rfl) _)⟩

set_option maxHeartbeats 1000000 in
set_option maxRecDepth 100000 in
theorem rnext_g1 (c : Cfg) (kind grp sh : Int) (A : Option Addr) (cc : Nat) (w : World) (hr : Rd w w.heap.size 1 (.slice A c.gs.length cc) c.gs.length (ints c.gs)) (hm : c.gs.length ≤ 1000) (hck : checkB c = true) (he : Hid (nextS c ⟨kind, grp, sh⟩ = (cfg0, 1)))
    (h1 : 1 ≤ kind) (h2 : kind ≤ 3) (h3 : grp < 1) : RNext c ⟨kind, grp, sh⟩ (.slice A c.gs.length cc) w := by
  have HRa : Hid (∀ o o' o2, Rd (((w.alloc o).alloc o').alloc o2) w.heap.size 1 (.slice A c.gs.length cc) c.gs.length (ints c.gs)) := fun o o' o2 => hr.below ((((Below.refl _ w).alloc (Nat.le_refl _) o).alloc (by simp) o').alloc (by simp; omega) o2)
  have HR := Lib.hid hr
  clear hr
  have HCK := Lib.hid hck
  clear hck
  unfold RNext
  go_enter Tryz.func33, Tryz.ntmps33
  go_wp2_with fail
  refine (rcheck_any c _ _ w.heap.size (by simp; omega) (HRa.out _ _ _) (by omega)).mono ?_
  rintro e w1 ⟨rfl, hb⟩
  rw [HCK.out]
  have hR : RAt c ⟨kind, grp, sh⟩ (.slice A c.gs.length cc) w w1 := rat_of hb
  obtain ⟨q0, q1, q2, q3, q4, q5⟩ := keep6 hR.hc (Below.refl _ _)
  have y0 : w1.cell? ⟨w.heap.size + 1, 0, none⟩ = some (.int .i64 kind) := hR.hx.cell 0
  have y1 : w1.cell? ⟨w.heap.size + 1, 1, none⟩ = some (.int .i64 grp) := hR.hx.cell 1
  have y2 : w1.cell? ⟨w.heap.size + 1, 2, none⟩ = some (.int .i64 sh) := hR.hx.cell 2
  obtain ⟨z0, z1, z2, z3, z4, z5⟩ := keep6 hR.hz (Below.refl _ _)
  have f0 := hR.hz.frozen 0
  have f1 := hR.hz.frozen 1
  have f2 := hR.hz.frozen 2
  have f3 := hR.hz.frozen 3
  have f4 := hR.hz.frozen 4
  have f5 := hR.hz.frozen 5
  have HR1 := Lib.hid hR
  clear hR hb
  simp only [errC]
  go_wp2_with fail
  refine bodyPost_ret (v := .tuple #[cfg0.val (.slice none 0 0), .int .i64 1]) (by simp [results, Tryz.results33, go_sem, z0, z1, z2, z3, z4, z5, Cfg.val, cfg0]) rfl ?_
  rw [he.out]
  exact ⟨.slice none 0 0, rfl, rend (HR1.out.hb) _ (((((((Chg.refl (fun i => i = w.heap.size + 2) _).setCell (fun _ => rfl) _).setCell (fun _ => rfl) _).setCell (fun _ => rfl) _).setCell (fun _ => rfl) _).setCell (fun _ => rfl) _).setCell (fun _ => rfl) _)⟩

set_option maxHeartbeats 1000000 in
set_option maxRecDepth 100000 in
theorem rnext_g4 (c : Cfg) (kind grp sh : Int) (A : Option Addr) (cc : Nat) (w : World) (hr : Rd w w.heap.size 1 (.slice A c.gs.length cc) c.gs.length (ints c.gs)) (hm : c.gs.length ≤ 1000) (hck : checkB c = true) (he : Hid (nextS c ⟨kind, grp, sh⟩ = (cfg0, 1)))
    (h1 : 1 ≤ kind) (h2 : kind ≤ 3) (h3 : 4 < grp) : RNext c ⟨kind, grp, sh⟩ (.slice A c.gs.length cc) w := by
  have HRa : Hid (∀ o o' o2, Rd (((w.alloc o).alloc o').alloc o2) w.heap.size 1 (.slice A c.gs.length cc) c.gs.length (ints c.gs)) := fun o o' o2 => hr.below ((((Below.refl _ w).alloc (Nat.le_refl _) o).alloc (by simp) o').alloc (by simp; omega) o2)
  have HR := Lib.hid hr
  clear hr
  have HCK := Lib.hid hck
  clear hck
  unfold RNext
  go_enter Tryz.func33, Tryz.ntmps33
  go_wp2_with fail
  refine (rcheck_any c _ _ w.heap.size (by simp; omega) (HRa.out _ _ _) (by omega)).mono ?_
  rintro e w1 ⟨rfl, hb⟩
  rw [HCK.out]
  have hR : RAt c ⟨kind, grp, sh⟩ (.slice A c.gs.length cc) w w1 := rat_of hb
  obtain ⟨q0, q1, q2, q3, q4, q5⟩ := keep6 hR.hc (Below.refl _ _)
  have y0 : w1.cell? ⟨w.heap.size + 1, 0, none⟩ = some (.int .i64 kind) := hR.hx.cell 0
  have y1 : w1.cell? ⟨w.heap.size + 1, 1, none⟩ = some (.int .i64 grp) := hR.hx.cell 1
  have y2 : w1.cell? ⟨w.heap.size + 1, 2, none⟩ = some (.int .i64 sh) := hR.hx.cell 2
  obtain ⟨z0, z1, z2, z3, z4, z5⟩ := keep6 hR.hz (Below.refl _ _)
  have f0 := hR.hz.frozen 0
  have f1 := hR.hz.frozen 1
  have f2 := hR.hz.frozen 2
  have f3 := hR.hz.frozen 3
  have f4 := hR.hz.frozen 4
  have f5 := hR.hz.frozen 5
  have HR1 := Lib.hid hR
  clear hR hb
  simp only [errC]
  go_wp2_with fail
  refine bodyPost_ret (v := .tuple #[cfg0.val (.slice none 0 0), .int .i64 1]) (by simp [results, Tryz.results33, go_sem, z0, z1, z2, z3, z4, z5, Cfg.val, cfg0]) rfl ?_
  rw [he.out]
  exact ⟨.slice none 0 0, rfl, rend (HR1.out.hb) _ (((((((Chg.refl (fun i => i = w.heap.size + 2) _).setCell (fun _ => rfl) _).setCell (fun _ => rfl) _).setCell (fun _ => rfl) _).setCell (fun _ => rfl) _).setCell (fun _ => rfl) _).setCell (fun _ => rfl) _)⟩

set_option maxHeartbeats 1000000 in
set_option maxRecDepth 100000 in
theorem rnext_s0 (c : Cfg) (grp sh : Int) (A : Option Addr) (cc : Nat) (w : World) (hr : Rd w w.heap.size 1 (.slice A c.gs.length cc) c.gs.length (ints c.gs)) (hm : c.gs.length ≤ 1000) (hck : checkB c = true) (he : Hid (nextS c ⟨3, grp, sh⟩ = (cfg0, 1)))
    (g1 : decide (grp < 1) = false) (g2 : decide (4 < grp) = false) (h3 : sh < 0) : RNext c ⟨3, grp, sh⟩ (.slice A c.gs.length cc) w := by
  have HRa : Hid (∀ o o' o2, Rd (((w.alloc o).alloc o').alloc o2) w.heap.size 1 (.slice A c.gs.length cc) c.gs.length (ints c.gs)) := fun o o' o2 => hr.below ((((Below.refl _ w).alloc (Nat.le_refl _) o).alloc (by simp) o').alloc (by simp; omega) o2)
  have HR := Lib.hid hr
  clear hr
  have HCK := Lib.hid hck
  clear hck
  unfold RNext
  go_enter Tryz.func33, Tryz.ntmps33
  go_wp2_with fail
  refine (rcheck_any c _ _ w.heap.size (by simp; omega) (HRa.out _ _ _) (by omega)).mono ?_
  rintro e w1 ⟨rfl, hb⟩
  rw [HCK.out]
  have hR : RAt c ⟨3, grp, sh⟩ (.slice A c.gs.length cc) w w1 := rat_of hb
  obtain ⟨q0, q1, q2, q3, q4, q5⟩ := keep6 hR.hc (Below.refl _ _)
  have y0 : w1.cell? ⟨w.heap.size + 1, 0, none⟩ = some (.int .i64 (3)) := hR.hx.cell 0
  have y1 : w1.cell? ⟨w.heap.size + 1, 1, none⟩ = some (.int .i64 grp) := hR.hx.cell 1
  have y2 : w1.cell? ⟨w.heap.size + 1, 2, none⟩ = some (.int .i64 sh) := hR.hx.cell 2
  obtain ⟨z0, z1, z2, z3, z4, z5⟩ := keep6 hR.hz (Below.refl _ _)
  have f0 := hR.hz.frozen 0
  have f1 := hR.hz.frozen 1
  have f2 := hR.hz.frozen 2
  have f3 := hR.hz.frozen 3
  have f4 := hR.hz.frozen 4
  have f5 := hR.hz.frozen 5
  have HR1 := Lib.hid hR
  clear hR hb
  simp only [errC]
  go_wp2_with fail
  refine bodyPost_ret (v := .tuple #[cfg0.val (.slice none 0 0), .int .i64 1]) (by simp [results, Tryz.results33, go_sem, z0, z1, z2, z3, z4, z5, Cfg.val, cfg0]) rfl ?_
  rw [he.out]
  exact ⟨.slice none 0 0, rfl, rend (HR1.out.hb) _ (((((((Chg.refl (fun i => i = w.heap.size + 2) _).setCell (fun _ => rfl) _).setCell (fun _ => rfl) _).setCell (fun _ => rfl) _).setCell (fun _ => rfl) _).setCell (fun _ => rfl) _).setCell (fun _ => rfl) _)⟩

set_option maxHeartbeats 1000000 in
set_option maxRecDepth 100000 in
theorem rnext_s4 (c : Cfg) (grp sh : Int) (A : Option Addr) (cc : Nat) (w : World) (hr : Rd w w.heap.size 1 (.slice A c.gs.length cc) c.gs.length (ints c.gs)) (hm : c.gs.length ≤ 1000) (hck : checkB c = true) (he : Hid (nextS c ⟨3, grp, sh⟩ = (cfg0, 1)))
    (g1 : decide (grp < 1) = false) (g2 : decide (4 < grp) = false) (h3 : 4 ≤ sh) : RNext c ⟨3, grp, sh⟩ (.slice A c.gs.length cc) w := by
  have HRa : Hid (∀ o o' o2, Rd (((w.alloc o).alloc o').alloc o2) w.heap.size 1 (.slice A c.gs.length cc) c.gs.length (ints c.gs)) := fun o o' o2 => hr.below ((((Below.refl _ w).alloc (Nat.le_refl _) o).alloc (by simp) o').alloc (by simp; omega) o2)
  have HR := Lib.hid hr
  clear hr
  have HCK := Lib.hid hck
  clear hck
  unfold RNext
  go_enter Tryz.func33, Tryz.ntmps33
  go_wp2_with fail
  refine (rcheck_any c _ _ w.heap.size (by simp; omega) (HRa.out _ _ _) (by omega)).mono ?_
  rintro e w1 ⟨rfl, hb⟩
  rw [HCK.out]
  have hR : RAt c ⟨3, grp, sh⟩ (.slice A c.gs.length cc) w w1 := rat_of hb
  obtain ⟨q0, q1, q2, q3, q4, q5⟩ := keep6 hR.hc (Below.refl _ _)
  have y0 : w1.cell? ⟨w.heap.size + 1, 0, none⟩ = some (.int .i64 (3)) := hR.hx.cell 0
  have y1 : w1.cell? ⟨w.heap.size + 1, 1, none⟩ = some (.int .i64 grp) := hR.hx.cell 1
  have y2 : w1.cell? ⟨w.heap.size + 1, 2, none⟩ = some (.int .i64 sh) := hR.hx.cell 2
  obtain ⟨z0, z1, z2, z3, z4, z5⟩ := keep6 hR.hz (Below.refl _ _)
  have f0 := hR.hz.frozen 0
  have f1 := hR.hz.frozen 1
  have f2 := hR.hz.frozen 2
  have f3 := hR.hz.frozen 3
  have f4 := hR.hz.frozen 4
  have f5 := hR.hz.frozen 5
  have HR1 := Lib.hid hR
  clear hR hb
  simp only [errC]
  go_wp2_with fail
  refine bodyPost_ret (v := .tuple #[cfg0.val (.slice none 0 0), .int .i64 1]) (by simp [results, Tryz.results33, go_sem, z0, z1, z2, z3, z4, z5, Cfg.val, cfg0]) rfl ?_
  rw [he.out]
  exact ⟨.slice none 0 0, rfl, rend (HR1.out.hb) _ (((((((Chg.refl (fun i => i = w.heap.size + 2) _).setCell (fun _ => rfl) _).setCell (fun _ => rfl) _).setCell (fun _ => rfl) _).setCell (fun _ => rfl) _).setCell (fun _ => rfl) _).setCell (fun _ => rfl) _)⟩

set_option maxHeartbeats 1000000 in
set_option maxRecDepth 100000 in
theorem rnext_sj (c : Cfg) (grp sh : Int) (A : Option Addr) (cc : Nat) (w : World) (hr : Rd w w.heap.size 1 (.slice A c.gs.length cc) c.gs.length (ints c.gs)) (hm : c.gs.length ≤ 1000) (hck : checkB c = true) (he : Hid (nextS c ⟨1, grp, sh⟩ = (cfg0, 1)))
    (g1 : decide (grp < 1) = false) (g2 : decide (4 < grp) = false) (h3 : (sh == 0) = false) : RNext c ⟨1, grp, sh⟩ (.slice A c.gs.length cc) w := by
  have HRa : Hid (∀ o o' o2, Rd (((w.alloc o).alloc o').alloc o2) w.heap.size 1 (.slice A c.gs.length cc) c.gs.length (ints c.gs)) := fun o o' o2 => hr.below ((((Below.refl _ w).alloc (Nat.le_refl _) o).alloc (by simp) o').alloc (by simp; omega) o2)
  have HR := Lib.hid hr
  clear hr
  have HCK := Lib.hid hck
  clear hck
  unfold RNext
  go_enter Tryz.func33, Tryz.ntmps33
  go_wp2_with fail
  refine (rcheck_any c _ _ w.heap.size (by simp; omega) (HRa.out _ _ _) (by omega)).mono ?_
  rintro e w1 ⟨rfl, hb⟩
  rw [HCK.out]
  have hR : RAt c ⟨1, grp, sh⟩ (.slice A c.gs.length cc) w w1 := rat_of hb
  obtain ⟨q0, q1, q2, q3, q4, q5⟩ := keep6 hR.hc (Below.refl _ _)
  have y0 : w1.cell? ⟨w.heap.size + 1, 0, none⟩ = some (.int .i64 (1)) := hR.hx.cell 0
  have y1 : w1.cell? ⟨w.heap.size + 1, 1, none⟩ = some (.int .i64 grp) := hR.hx.cell 1
  have y2 : w1.cell? ⟨w.heap.size + 1, 2, none⟩ = some (.int .i64 sh) := hR.hx.cell 2
  have h3' : (sh != 0) = true := by simpa using h3
  obtain ⟨z0, z1, z2, z3, z4, z5⟩ := keep6 hR.hz (Below.refl _ _)
  have f0 := hR.hz.frozen 0
  have f1 := hR.hz.frozen 1
  have f2 := hR.hz.frozen 2
  have f3 := hR.hz.frozen 3
  have f4 := hR.hz.frozen 4
  have f5 := hR.hz.frozen 5
  have HR1 := Lib.hid hR
  clear hR hb
  simp only [errC]
  go_wp2_with fail
  refine bodyPost_ret (v := .tuple #[cfg0.val (.slice none 0 0), .int .i64 1]) (by simp [results, Tryz.results33, go_sem, z0, z1, z2, z3, z4, z5, Cfg.val, cfg0]) rfl ?_
  rw [he.out]
  exact ⟨.slice none 0 0, rfl, rend (HR1.out.hb) _ (((((((Chg.refl (fun i => i = w.heap.size + 2) _).setCell (fun _ => rfl) _).setCell (fun _ => rfl) _).setCell (fun _ => rfl) _).setCell (fun _ => rfl) _).setCell (fun _ => rfl) _).setCell (fun _ => rfl) _)⟩

set_option maxHeartbeats 1000000 in
set_option maxRecDepth 100000 in
theorem rnext_sl (c : Cfg) (grp sh : Int) (A : Option Addr) (cc : Nat) (w : World) (hr : Rd w w.heap.size 1 (.slice A c.gs.length cc) c.gs.length (ints c.gs)) (hm : c.gs.length ≤ 1000) (hck : checkB c = true) (he : Hid (nextS c ⟨2, grp, sh⟩ = (cfg0, 1)))
    (g1 : decide (grp < 1) = false) (g2 : decide (4 < grp) = false) (h3 : (sh == 0) = false) : RNext c ⟨2, grp, sh⟩ (.slice A c.gs.length cc) w := by
  have HRa : Hid (∀ o o' o2, Rd (((w.alloc o).alloc o').alloc o2) w.heap.size 1 (.slice A c.gs.length cc) c.gs.length (ints c.gs)) := fun o o' o2 => hr.below ((((Below.refl _ w).alloc (Nat.le_refl _) o).alloc (by simp) o').alloc (by simp; omega) o2)
  have HR := Lib.hid hr
  clear hr
  have HCK := Lib.hid hck
  clear hck
  unfold RNext
  go_enter Tryz.func33, Tryz.ntmps33
  go_wp2_with fail
  refine (rcheck_any c _ _ w.heap.size (by simp; omega) (HRa.out _ _ _) (by omega)).mono ?_
  rintro e w1 ⟨rfl, hb⟩
  rw [HCK.out]
  have hR : RAt c ⟨2, grp, sh⟩ (.slice A c.gs.length cc) w w1 := rat_of hb
  obtain ⟨q0, q1, q2, q3, q4, q5⟩ := keep6 hR.hc (Below.refl _ _)
  have y0 : w1.cell? ⟨w.heap.size + 1, 0, none⟩ = some (.int .i64 (2)) := hR.hx.cell 0
  have y1 : w1.cell? ⟨w.heap.size + 1, 1, none⟩ = some (.int .i64 grp) := hR.hx.cell 1
  have y2 : w1.cell? ⟨w.heap.size + 1, 2, none⟩ = some (.int .i64 sh) := hR.hx.cell 2
  have h3' : (sh != 0) = true := by simpa using h3
  obtain ⟨z0, z1, z2, z3, z4, z5⟩ := keep6 hR.hz (Below.refl _ _)
  have f0 := hR.hz.frozen 0
  have f1 := hR.hz.frozen 1
  have f2 := hR.hz.frozen 2
  have f3 := hR.hz.frozen 3
  have f4 := hR.hz.frozen 4
  have f5 := hR.hz.frozen 5
  have HR1 := Lib.hid hR
  clear hR hb
  simp only [errC]
  go_wp2_with fail
  refine bodyPost_ret (v := .tuple #[cfg0.val (.slice none 0 0), .int .i64 1]) (by simp [results, Tryz.results33, go_sem, z0, z1, z2, z3, z4, z5, Cfg.val, cfg0]) rfl ?_
  rw [he.out]
  exact ⟨.slice none 0 0, rfl, rend (HR1.out.hb) _ (((((((Chg.refl (fun i => i = w.heap.size + 2) _).setCell (fun _ => rfl) _).setCell (fun _ => rfl) _).setCell (fun _ => rfl) _).setCell (fun _ => rfl) _).setCell (fun _ => rfl) _).setCell (fun _ => rfl) _)⟩

set_option maxHeartbeats 1000000 in
set_option maxRecDepth 100000 in
theorem rnext_ji (c : Cfg) (grp : Int) (A : Option Addr) (cc : Nat) (w : World) (hr : Rd w w.heap.size 1 (.slice A c.gs.length cc) c.gs.length (ints c.gs)) (hm : c.gs.length ≤ 1000) (hck : checkB c = true) (he : Hid (nextS c ⟨1, grp, 0⟩ = (cfg0, 150)))
    (g1 : decide (grp < 1) = false) (g2 : decide (4 < grp) = false) (hin : inS grp c.gs = true) : RNext c ⟨1, grp, 0⟩ (.slice A c.gs.length cc) w := by
  have HRa : Hid (∀ o o' o2, Rd (((w.alloc o).alloc o').alloc o2) w.heap.size 1 (.slice A c.gs.length cc) c.gs.length (ints c.gs)) := fun o o' o2 => hr.below ((((Below.refl _ w).alloc (Nat.le_refl _) o).alloc (by simp) o').alloc (by simp; omega) o2)
  have HR := Lib.hid hr
  clear hr
  have HCK := Lib.hid hck
  clear hck
  unfold RNext
  go_enter Tryz.func33, Tryz.ntmps33
  go_wp2_with fail
  refine (rcheck_any c _ _ w.heap.size (by simp; omega) (HRa.out _ _ _) (by omega)).mono ?_
  rintro e w1 ⟨rfl, hb⟩
  rw [HCK.out]
  have hR : RAt c ⟨1, grp, 0⟩ (.slice A c.gs.length cc) w w1 := rat_of hb
  obtain ⟨q0, q1, q2, q3, q4, q5⟩ := keep6 hR.hc (Below.refl _ _)
  have y0 : w1.cell? ⟨w.heap.size + 1, 0, none⟩ = some (.int .i64 (1)) := hR.hx.cell 0
  have y1 : w1.cell? ⟨w.heap.size + 1, 1, none⟩ = some (.int .i64 grp) := hR.hx.cell 1
  have y2 : w1.cell? ⟨w.heap.size + 1, 2, none⟩ = some (.int .i64 0) := hR.hx.cell 2
  obtain ⟨z0, z1, z2, z3, z4, z5⟩ := keep6 hR.hz (Below.refl _ _)
  have f0 := hR.hz.frozen 0
  have f1 := hR.hz.frozen 1
  have f2 := hR.hz.frozen 2
  have f3 := hR.hz.frozen 3
  have f4 := hR.hz.frozen 4
  have f5 := hR.hz.frozen 5
  have HR1 := Lib.hid hR
  clear hR hb
  simp only [errC]
  go_wp2_with fail
  refine (rin_any _ c.gs grp w1 w.heap.size (HR.out.below HR1.out.hb) (by omega)).mono ?_
  rintro e w2 ⟨rfl, rfl⟩
  rw [hin]
  go_wp2_with fail
  go_quiet (fail)
  go_wp2_with fail
  refine bodyPost_ret (v := .tuple #[cfg0.val (.slice none 0 0), .int .i64 150]) (by simp [results, Tryz.results33, go_sem, z0, z1, z2, z3, z4, z5, Cfg.val, cfg0]) rfl ?_
  rw [he.out]
  exact ⟨.slice none 0 0, rfl, rend (below_drewN HR1.out.hb _) _ (((((((Chg.refl (fun i => i = w.heap.size + 2) _).setCell (fun _ => rfl) _).setCell (fun _ => rfl) _).setCell (fun _ => rfl) _).setCell (fun _ => rfl) _).setCell (fun _ => rfl) _).setCell (fun _ => rfl) _)⟩

set_option maxHeartbeats 1000000 in
set_option maxRecDepth 100000 in
theorem rnext_li (c : Cfg) (grp : Int) (A : Option Addr) (cc : Nat) (w : World) (hr : Rd w w.heap.size 1 (.slice A c.gs.length cc) c.gs.length (ints c.gs)) (hm : c.gs.length ≤ 1000) (hck : checkB c = true) (he : Hid (nextS c ⟨2, grp, 0⟩ = (cfg0, 150)))
    (g1 : decide (grp < 1) = false) (g2 : decide (4 < grp) = false) (hin : inS grp c.gs = false) : RNext c ⟨2, grp, 0⟩ (.slice A c.gs.length cc) w := by
  have HRa : Hid (∀ o o' o2, Rd (((w.alloc o).alloc o').alloc o2) w.heap.size 1 (.slice A c.gs.length cc) c.gs.length (ints c.gs)) := fun o o' o2 => hr.below ((((Below.refl _ w).alloc (Nat.le_refl _) o).alloc (by simp) o').alloc (by simp; omega) o2)
  have HR := Lib.hid hr
  clear hr
  have HCK := Lib.hid hck
  clear hck
  unfold RNext
  go_enter Tryz.func33, Tryz.ntmps33
  go_wp2_with fail
  refine (rcheck_any c _ _ w.heap.size (by simp; omega) (HRa.out _ _ _) (by omega)).mono ?_
  rintro e w1 ⟨rfl, hb⟩
  rw [HCK.out]
  have hR : RAt c ⟨2, grp, 0⟩ (.slice A c.gs.length cc) w w1 := rat_of hb
  obtain ⟨q0, q1, q2, q3, q4, q5⟩ := keep6 hR.hc (Below.refl _ _)
  have y0 : w1.cell? ⟨w.heap.size + 1, 0, none⟩ = some (.int .i64 (2)) := hR.hx.cell 0
  have y1 : w1.cell? ⟨w.heap.size + 1, 1, none⟩ = some (.int .i64 grp) := hR.hx.cell 1
  have y2 : w1.cell? ⟨w.heap.size + 1, 2, none⟩ = some (.int .i64 0) := hR.hx.cell 2
  obtain ⟨z0, z1, z2, z3, z4, z5⟩ := keep6 hR.hz (Below.refl _ _)
  have f0 := hR.hz.frozen 0
  have f1 := hR.hz.frozen 1
  have f2 := hR.hz.frozen 2
  have f3 := hR.hz.frozen 3
  have f4 := hR.hz.frozen 4
  have f5 := hR.hz.frozen 5
  have HR1 := Lib.hid hR
  clear hR hb
  simp only [errC]
  go_wp2_with fail
  refine (rin_any _ c.gs grp w1 w.heap.size (HR.out.below HR1.out.hb) (by omega)).mono ?_
  rintro e w2 ⟨rfl, rfl⟩
  rw [hin]
  go_wp2_with fail
  go_quiet (fail)
  go_wp2_with fail
  refine bodyPost_ret (v := .tuple #[cfg0.val (.slice none 0 0), .int .i64 150]) (by simp [results, Tryz.results33, go_sem, z0, z1, z2, z3, z4, z5, Cfg.val, cfg0]) rfl ?_
  rw [he.out]
  exact ⟨.slice none 0 0, rfl, rend (below_drewN HR1.out.hb _) _ (((((((Chg.refl (fun i => i = w.heap.size + 2) _).setCell (fun _ => rfl) _).setCell (fun _ => rfl) _).setCell (fun _ => rfl) _).setCell (fun _ => rfl) _).setCell (fun _ => rfl) _).setCell (fun _ => rfl) _)⟩

set_option maxHeartbeats 1000000 in
set_option maxRecDepth 100000 in
theorem rnext_l1 (c : Cfg) (grp : Int) (A : Option Addr) (cc : Nat) (w : World) (hr : Rd w w.heap.size 1 (.slice A c.gs.length cc) c.gs.length (ints c.gs)) (hm : c.gs.length ≤ 1000) (hck : checkB c = true) (he : Hid (nextS c ⟨2, grp, 0⟩ = (cfg0, 150)))
    (g1 : decide (grp < 1) = false) (g2 : decide (4 < grp) = false) (hin : inS grp c.gs = true) (hl : ((c.gs.length : Int) == 1) = true) : RNext c ⟨2, grp, 0⟩ (.slice A c.gs.length cc) w := by
  have HRa : Hid (∀ o o' o2, Rd (((w.alloc o).alloc o').alloc o2) w.heap.size 1 (.slice A c.gs.length cc) c.gs.length (ints c.gs)) := fun o o' o2 => hr.below ((((Below.refl _ w).alloc (Nat.le_refl _) o).alloc (by simp) o').alloc (by simp; omega) o2)
  have HR := Lib.hid hr
  clear hr
  have HCK := Lib.hid hck
  clear hck
  unfold RNext
  go_enter Tryz.func33, Tryz.ntmps33
  go_wp2_with fail
  refine (rcheck_any c _ _ w.heap.size (by simp; omega) (HRa.out _ _ _) (by omega)).mono ?_
  rintro e w1 ⟨rfl, hb⟩
  rw [HCK.out]
  have hR : RAt c ⟨2, grp, 0⟩ (.slice A c.gs.length cc) w w1 := rat_of hb
  obtain ⟨q0, q1, q2, q3, q4, q5⟩ := keep6 hR.hc (Below.refl _ _)
  have y0 : w1.cell? ⟨w.heap.size + 1, 0, none⟩ = some (.int .i64 (2)) := hR.hx.cell 0
  have y1 : w1.cell? ⟨w.heap.size + 1, 1, none⟩ = some (.int .i64 grp) := hR.hx.cell 1
  have y2 : w1.cell? ⟨w.heap.size + 1, 2, none⟩ = some (.int .i64 0) := hR.hx.cell 2
  obtain ⟨z0, z1, z2, z3, z4, z5⟩ := keep6 hR.hz (Below.refl _ _)
  have f0 := hR.hz.frozen 0
  have f1 := hR.hz.frozen 1
  have f2 := hR.hz.frozen 2
  have f3 := hR.hz.frozen 3
  have f4 := hR.hz.frozen 4
  have f5 := hR.hz.frozen 5
  have HR1 := Lib.hid hR
  clear hR hb
  simp only [errC]
  go_wp2_with fail
  refine (rin_any _ c.gs grp w1 w.heap.size (HR.out.below HR1.out.hb) (by omega)).mono ?_
  rintro e w2 ⟨rfl, rfl⟩
  rw [hin]
  go_wp2_with fail
  go_quiet (fail)
  go_wp2_with fail
  refine bodyPost_ret (v := .tuple #[cfg0.val (.slice none 0 0), .int .i64 150]) (by simp [results, Tryz.results33, go_sem, z0, z1, z2, z3, z4, z5, Cfg.val, cfg0]) rfl ?_
  rw [he.out]
  exact ⟨.slice none 0 0, rfl, rend (below_drewN HR1.out.hb _) _ (((((((Chg.refl (fun i => i = w.heap.size + 2) _).setCell (fun _ => rfl) _).setCell (fun _ => rfl) _).setCell (fun _ => rfl) _).setCell (fun _ => rfl) _).setCell (fun _ => rfl) _).setCell (fun _ => rfl) _)⟩

set_option maxHeartbeats 1000000 in
set_option maxRecDepth 100000 in
theorem rnext_mi (c : Cfg) (grp sh : Int) (A : Option Addr) (cc : Nat) (w : World) (hr : Rd w w.heap.size 1 (.slice A c.gs.length cc) c.gs.length (ints c.gs)) (hm : c.gs.length ≤ 1000) (hck : checkB c = true) (he : Hid (nextS c ⟨3, grp, sh⟩ = (cfg0, 150)))
    (g1 : decide (grp < 1) = false) (g2 : decide (4 < grp) = false) (s0 : 0 ≤ sh) (s4 : sh < 4) (s0b : decide (sh < 0) = false) (s4b : decide (4 ≤ sh) = false) (hin : inS grp c.gs = false) : RNext c ⟨3, grp, sh⟩ (.slice A c.gs.length cc) w := by
  have HRa : Hid (∀ o o' o2, Rd (((w.alloc o).alloc o').alloc o2) w.heap.size 1 (.slice A c.gs.length cc) c.gs.length (ints c.gs)) := fun o o' o2 => hr.below ((((Below.refl _ w).alloc (Nat.le_refl _) o).alloc (by simp) o').alloc (by simp; omega) o2)
  have HR := Lib.hid hr
  clear hr
  have HCK := Lib.hid hck
  clear hck
  unfold RNext
  go_enter Tryz.func33, Tryz.ntmps33
  go_wp2_with fail
  refine (rcheck_any c _ _ w.heap.size (by simp; omega) (HRa.out _ _ _) (by omega)).mono ?_
  rintro e w1 ⟨rfl, hb⟩
  rw [HCK.out]
  have hR : RAt c ⟨3, grp, sh⟩ (.slice A c.gs.length cc) w w1 := rat_of hb
  obtain ⟨q0, q1, q2, q3, q4, q5⟩ := keep6 hR.hc (Below.refl _ _)
  have y0 : w1.cell? ⟨w.heap.size + 1, 0, none⟩ = some (.int .i64 (3)) := hR.hx.cell 0
  have y1 : w1.cell? ⟨w.heap.size + 1, 1, none⟩ = some (.int .i64 grp) := hR.hx.cell 1
  have y2 : w1.cell? ⟨w.heap.size + 1, 2, none⟩ = some (.int .i64 sh) := hR.hx.cell 2
  obtain ⟨z0, z1, z2, z3, z4, z5⟩ := keep6 hR.hz (Below.refl _ _)
  have f0 := hR.hz.frozen 0
  have f1 := hR.hz.frozen 1
  have f2 := hR.hz.frozen 2
  have f3 := hR.hz.frozen 3
  have f4 := hR.hz.frozen 4
  have f5 := hR.hz.frozen 5
  have HR1 := Lib.hid hR
  clear hR hb
  simp only [errC]
  go_wp2_with fail
  refine (rin_any _ c.gs grp w1 w.heap.size (HR.out.below HR1.out.hb) (by omega)).mono ?_
  rintro e w2 ⟨rfl, rfl⟩
  rw [hin]
  go_wp2_with fail
  go_quiet (fail)
  go_wp2_with fail
  refine bodyPost_ret (v := .tuple #[cfg0.val (.slice none 0 0), .int .i64 150]) (by simp [results, Tryz.results33, go_sem, z0, z1, z2, z3, z4, z5, Cfg.val, cfg0]) rfl ?_
  rw [he.out]
  exact ⟨.slice none 0 0, rfl, rend (below_drewN HR1.out.hb _) _ (((((((Chg.refl (fun i => i = w.heap.size + 2) _).setCell (fun _ => rfl) _).setCell (fun _ => rfl) _).setCell (fun _ => rfl) _).setCell (fun _ => rfl) _).setCell (fun _ => rfl) _).setCell (fun _ => rfl) _)⟩

set_option maxHeartbeats 1000000 in
set_option maxRecDepth 100000 in
theorem rnext_mo (c : Cfg) (grp sh : Int) (A : Option Addr) (cc : Nat) (w : World) (hr : Rd w w.heap.size 1 (.slice A c.gs.length cc) c.gs.length (ints c.gs)) (hm : c.gs.length ≤ 1000) (hck : checkB c = true) (he : Hid (nextS c ⟨3, grp, sh⟩ = (cfg0, 150)))
    (g1 : decide (grp < 1) = false) (g2 : decide (4 < grp) = false) (s0 : 0 ≤ sh) (s4 : sh < 4) (s0b : decide (sh < 0) = false) (s4b : decide (4 ≤ sh) = false) (hin : inS grp c.gs = true) (ho : (c.o.get sh.toNat == grp) = true) : RNext c ⟨3, grp, sh⟩ (.slice A c.gs.length cc) w := by
  have HRa : Hid (∀ o o' o2, Rd (((w.alloc o).alloc o').alloc o2) w.heap.size 1 (.slice A c.gs.length cc) c.gs.length (ints c.gs)) := fun o o' o2 => hr.below ((((Below.refl _ w).alloc (Nat.le_refl _) o).alloc (by simp) o').alloc (by simp; omega) o2)
  have HR := Lib.hid hr
  clear hr
  have HCK := Lib.hid hck
  clear hck
  unfold RNext
  go_enter Tryz.func33, Tryz.ntmps33
  go_wp2_with fail
  refine (rcheck_any c _ _ w.heap.size (by simp; omega) (HRa.out _ _ _) (by omega)).mono ?_
  rintro e w1 ⟨rfl, hb⟩
  rw [HCK.out]
  have hR : RAt c ⟨3, grp, sh⟩ (.slice A c.gs.length cc) w w1 := rat_of hb
  obtain ⟨q0, q1, q2, q3, q4, q5⟩ := keep6 hR.hc (Below.refl _ _)
  have y0 : w1.cell? ⟨w.heap.size + 1, 0, none⟩ = some (.int .i64 (3)) := hR.hx.cell 0
  have y1 : w1.cell? ⟨w.heap.size + 1, 1, none⟩ = some (.int .i64 grp) := hR.hx.cell 1
  have y2 : w1.cell? ⟨w.heap.size + 1, 2, none⟩ = some (.int .i64 sh) := hR.hx.cell 2
  have ck : w1.cell? ⟨w.heap.size, 2 + sh.toNat, none⟩ = some (.int .i64 (c.o.get sh.toNat)) := by rw [hR.hc.cell]; exact cfgCells_get _ _ _ _ (by omega)
  obtain ⟨z0, z1, z2, z3, z4, z5⟩ := keep6 hR.hz (Below.refl _ _)
  have f0 := hR.hz.frozen 0
  have f1 := hR.hz.frozen 1
  have f2 := hR.hz.frozen 2
  have f3 := hR.hz.frozen 3
  have f4 := hR.hz.frozen 4
  have f5 := hR.hz.frozen 5
  have HR1 := Lib.hid hR
  clear hR hb
  simp only [errC]
  go_wp2_with fail
  refine (rin_any _ c.gs grp w1 w.heap.size (HR.out.below HR1.out.hb) (by omega)).mono ?_
  rintro e w2 ⟨rfl, rfl⟩
  rw [hin]
  go_wp2_with fail
  go_quiet (fail)
  go_wp2_with fail
  refine bodyPost_ret (v := .tuple #[cfg0.val (.slice none 0 0), .int .i64 150]) (by simp [results, Tryz.results33, go_sem, z0, z1, z2, z3, z4, z5, Cfg.val, cfg0]) rfl ?_
  rw [he.out]
  exact ⟨.slice none 0 0, rfl, rend (below_drewN HR1.out.hb _) _ (((((((Chg.refl (fun i => i = w.heap.size + 2) _).setCell (fun _ => rfl) _).setCell (fun _ => rfl) _).setCell (fun _ => rfl) _).setCell (fun _ => rfl) _).setCell (fun _ => rfl) _).setCell (fun _ => rfl) _)⟩

set_option maxHeartbeats 1000000 in
set_option maxRecDepth 100000 in
theorem rnext_jn (c : Cfg) (grp : Int) (A : Option Addr) (cc : Nat) (w : World) (hr : Rd w w.heap.size 1 (.slice A c.gs.length cc) c.gs.length (ints c.gs)) (hm : c.gs.length ≤ 1000) (hck : checkB c = true) (he : Hid (nextS c ⟨1, grp, 0⟩ = (cfg0, 151)))
    (g1 : decide (grp < 1) = false) (g2 : decide (4 < grp) = false) (hin : inS grp c.gs = false) (hn : (c.num == 1099511627776) = true) : RNext c ⟨1, grp, 0⟩ (.slice A c.gs.length cc) w := by
  have HRa : Hid (∀ o o' o2, Rd (((w.alloc o).alloc o').alloc o2) w.heap.size 1 (.slice A c.gs.length cc) c.gs.length (ints c.gs)) := fun o o' o2 => hr.below ((((Below.refl _ w).alloc (Nat.le_refl _) o).alloc (by simp) o').alloc (by simp; omega) o2)
  have HR := Lib.hid hr
  clear hr
  have HCK := Lib.hid hck
  clear hck
  unfold RNext
  go_enter Tryz.func33, Tryz.ntmps33
  go_wp2_with fail
  refine (rcheck_any c _ _ w.heap.size (by simp; omega) (HRa.out _ _ _) (by omega)).mono ?_
  rintro e w1 ⟨rfl, hb⟩
  rw [HCK.out]
  have hR : RAt c ⟨1, grp, 0⟩ (.slice A c.gs.length cc) w w1 := rat_of hb
  obtain ⟨q0, q1, q2, q3, q4, q5⟩ := keep6 hR.hc (Below.refl _ _)
  have y0 : w1.cell? ⟨w.heap.size + 1, 0, none⟩ = some (.int .i64 (1)) := hR.hx.cell 0
  have y1 : w1.cell? ⟨w.heap.size + 1, 1, none⟩ = some (.int .i64 grp) := hR.hx.cell 1
  have y2 : w1.cell? ⟨w.heap.size + 1, 2, none⟩ = some (.int .i64 0) := hR.hx.cell 2
  obtain ⟨z0, z1, z2, z3, z4, z5⟩ := keep6 hR.hz (Below.refl _ _)
  have f0 := hR.hz.frozen 0
  have f1 := hR.hz.frozen 1
  have f2 := hR.hz.frozen 2
  have f3 := hR.hz.frozen 3
  have f4 := hR.hz.frozen 4
  have f5 := hR.hz.frozen 5
  have HR1 := Lib.hid hR
  clear hR hb
  simp only [errC]
  go_wp2_with fail
  refine (rin_any _ c.gs grp w1 w.heap.size (HR.out.below HR1.out.hb) (by omega)).mono ?_
  rintro e w2 ⟨rfl, rfl⟩
  rw [hin]
  go_wp2_with fail
  go_quiet (fail)
  go_wp2_with fail
  refine bodyPost_ret (v := .tuple #[cfg0.val (.slice none 0 0), .int .i64 151]) (by simp [results, Tryz.results33, go_sem, z0, z1, z2, z3, z4, z5, Cfg.val, cfg0]) rfl ?_
  rw [he.out]
  exact ⟨.slice none 0 0, rfl, rend (below_drewN HR1.out.hb _) _ (((((((Chg.refl (fun i => i = w.heap.size + 2) _).setCell (fun _ => rfl) _).setCell (fun _ => rfl) _).setCell (fun _ => rfl) _).setCell (fun _ => rfl) _).setCell (fun _ => rfl) _).setCell (fun _ => rfl) _)⟩

set_option maxHeartbeats 1000000 in
set_option maxRecDepth 100000 in
theorem rnext_ln (c : Cfg) (grp : Int) (A : Option Addr) (cc : Nat) (w : World) (hr : Rd w w.heap.size 1 (.slice A c.gs.length cc) c.gs.length (ints c.gs)) (hm : c.gs.length ≤ 1000) (hck : checkB c = true) (he : Hid (nextS c ⟨2, grp, 0⟩ = (cfg0, 151)))
    (g1 : decide (grp < 1) = false) (g2 : decide (4 < grp) = false) (hin : inS grp c.gs = true) (hl : ((c.gs.length : Int) == 1) = false) (hn : (c.num == 1099511627776) = true) : RNext c ⟨2, grp, 0⟩ (.slice A c.gs.length cc) w := by
  have HRa : Hid (∀ o o' o2, Rd (((w.alloc o).alloc o').alloc o2) w.heap.size 1 (.slice A c.gs.length cc) c.gs.length (ints c.gs)) := fun o o' o2 => hr.below ((((Below.refl _ w).alloc (Nat.le_refl _) o).alloc (by simp) o').alloc (by simp; omega) o2)
  have HR := Lib.hid hr
  clear hr
  have HCK := Lib.hid hck
  clear hck
  unfold RNext
  go_enter Tryz.func33, Tryz.ntmps33
  go_wp2_with fail
  refine (rcheck_any c _ _ w.heap.size (by simp; omega) (HRa.out _ _ _) (by omega)).mono ?_
  rintro e w1 ⟨rfl, hb⟩
  rw [HCK.out]
  have hR : RAt c ⟨2, grp, 0⟩ (.slice A c.gs.length cc) w w1 := rat_of hb
  obtain ⟨q0, q1, q2, q3, q4, q5⟩ := keep6 hR.hc (Below.refl _ _)
  have y0 : w1.cell? ⟨w.heap.size + 1, 0, none⟩ = some (.int .i64 (2)) := hR.hx.cell 0
  have y1 : w1.cell? ⟨w.heap.size + 1, 1, none⟩ = some (.int .i64 grp) := hR.hx.cell 1
  have y2 : w1.cell? ⟨w.heap.size + 1, 2, none⟩ = some (.int .i64 0) := hR.hx.cell 2
  obtain ⟨z0, z1, z2, z3, z4, z5⟩ := keep6 hR.hz (Below.refl _ _)
  have f0 := hR.hz.frozen 0
  have f1 := hR.hz.frozen 1
  have f2 := hR.hz.frozen 2
  have f3 := hR.hz.frozen 3
  have f4 := hR.hz.frozen 4
  have f5 := hR.hz.frozen 5
  have HR1 := Lib.hid hR
  clear hR hb
  simp only [errC]
  go_wp2_with fail
  refine (rin_any _ c.gs grp w1 w.heap.size (HR.out.below HR1.out.hb) (by omega)).mono ?_
  rintro e w2 ⟨rfl, rfl⟩
  rw [hin]
  go_wp2_with fail
  go_quiet (fail)
  go_wp2_with fail
  refine bodyPost_ret (v := .tuple #[cfg0.val (.slice none 0 0), .int .i64 151]) (by simp [results, Tryz.results33, go_sem, z0, z1, z2, z3, z4, z5, Cfg.val, cfg0]) rfl ?_
  rw [he.out]
  exact ⟨.slice none 0 0, rfl, rend (below_drewN HR1.out.hb _) _ (((((((Chg.refl (fun i => i = w.heap.size + 2) _).setCell (fun _ => rfl) _).setCell (fun _ => rfl) _).setCell (fun _ => rfl) _).setCell (fun _ => rfl) _).setCell (fun _ => rfl) _).setCell (fun _ => rfl) _)⟩

set_option maxHeartbeats 1000000 in
set_option maxRecDepth 100000 in
theorem rnext_mn (c : Cfg) (grp sh : Int) (A : Option Addr) (cc : Nat) (w : World) (hr : Rd w w.heap.size 1 (.slice A c.gs.length cc) c.gs.length (ints c.gs)) (hm : c.gs.length ≤ 1000) (hck : checkB c = true) (he : Hid (nextS c ⟨3, grp, sh⟩ = (cfg0, 151)))
    (g1 : decide (grp < 1) = false) (g2 : decide (4 < grp) = false) (s0 : 0 ≤ sh) (s4 : sh < 4) (s0b : decide (sh < 0) = false) (s4b : decide (4 ≤ sh) = false) (hin : inS grp c.gs = true) (ho : (c.o.get sh.toNat == grp) = false) (hn : (c.num == 1099511627776) = true) : RNext c ⟨3, grp, sh⟩ (.slice A c.gs.length cc) w := by
  have HRa : Hid (∀ o o' o2, Rd (((w.alloc o).alloc o').alloc o2) w.heap.size 1 (.slice A c.gs.length cc) c.gs.length (ints c.gs)) := fun o o' o2 => hr.below ((((Below.refl _ w).alloc (Nat.le_refl _) o).alloc (by simp) o').alloc (by simp; omega) o2)
  have HR := Lib.hid hr
  clear hr
  have HCK := Lib.hid hck
  clear hck
  unfold RNext
  go_enter Tryz.func33, Tryz.ntmps33
  go_wp2_with fail
  refine (rcheck_any c _ _ w.heap.size (by simp; omega) (HRa.out _ _ _) (by omega)).mono ?_
  rintro e w1 ⟨rfl, hb⟩
  rw [HCK.out]
  have hR : RAt c ⟨3, grp, sh⟩ (.slice A c.gs.length cc) w w1 := rat_of hb
  obtain ⟨q0, q1, q2, q3, q4, q5⟩ := keep6 hR.hc (Below.refl _ _)
  have y0 : w1.cell? ⟨w.heap.size + 1, 0, none⟩ = some (.int .i64 (3)) := hR.hx.cell 0
  have y1 : w1.cell? ⟨w.heap.size + 1, 1, none⟩ = some (.int .i64 grp) := hR.hx.cell 1
  have y2 : w1.cell? ⟨w.heap.size + 1, 2, none⟩ = some (.int .i64 sh) := hR.hx.cell 2
  have ck : w1.cell? ⟨w.heap.size, 2 + sh.toNat, none⟩ = some (.int .i64 (c.o.get sh.toNat)) := by rw [hR.hc.cell]; exact cfgCells_get _ _ _ _ (by omega)
  obtain ⟨z0, z1, z2, z3, z4, z5⟩ := keep6 hR.hz (Below.refl _ _)
  have f0 := hR.hz.frozen 0
  have f1 := hR.hz.frozen 1
  have f2 := hR.hz.frozen 2
  have f3 := hR.hz.frozen 3
  have f4 := hR.hz.frozen 4
  have f5 := hR.hz.frozen 5
  have HR1 := Lib.hid hR
  clear hR hb
  simp only [errC]
  go_wp2_with fail
  refine (rin_any _ c.gs grp w1 w.heap.size (HR.out.below HR1.out.hb) (by omega)).mono ?_
  rintro e w2 ⟨rfl, rfl⟩
  rw [hin]
  go_wp2_with fail
  go_quiet (fail)
  go_wp2_with fail
  refine bodyPost_ret (v := .tuple #[cfg0.val (.slice none 0 0), .int .i64 151]) (by simp [results, Tryz.results33, go_sem, z0, z1, z2, z3, z4, z5, Cfg.val, cfg0]) rfl ?_
  rw [he.out]
  exact ⟨.slice none 0 0, rfl, rend (below_drewN HR1.out.hb _) _ (((((((Chg.refl (fun i => i = w.heap.size + 2) _).setCell (fun _ => rfl) _).setCell (fun _ => rfl) _).setCell (fun _ => rfl) _).setCell (fun _ => rfl) _).setCell (fun _ => rfl) _).setCell (fun _ => rfl) _)⟩

end Go.Proofs.YtijacbnoemjgcaaGreatDoor
