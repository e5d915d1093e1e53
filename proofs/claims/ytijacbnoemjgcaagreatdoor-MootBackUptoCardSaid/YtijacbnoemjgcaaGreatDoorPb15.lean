/- Configurations: the next one. -/
import Derived.Test.YtijacbnoemjgcaaGreatDoorPb12
import Derived.Test.YtijacbnoemjgcaaGreatDoorPb13
import Derived.Test.YtijacbnoemjgcaaGreatDoorPb14
set_option linter.unusedVariables false
set_option linter.unusedSimpArgs false
set_option linter.unnecessarySimpa false
namespace Go.Proofs.YtijacbnoemjgcaaGreatDoor
open Go.RowKit Go.Shelf

def cfg0 : Cfg := ⟨0, [], ⟨0, 0, 0, 0⟩⟩
def nextGs (gs : List Int) (x : Cmd) : List Int := if x.kind = 1 then isort (gs ++ [x.group]) else if x.kind = 2 then offS x.group gs else gs
def nextOwn (c : Cfg) (x : Cmd) : Own := if x.kind = 3 then c.o.put x.shard.toNat x.group else (giveS (nextGs c.gs x) c.o).getD c.o
/-- What comes of a command. -/
def nextS (c : Cfg) (x : Cmd) : Cfg × Int :=
  if checkB c = false then (cfg0, 4) else if refusedS c x ≠ 0 then (cfg0, refusedS c x) else (⟨c.num + 1, nextGs c.gs x, nextOwn c x⟩, 0)

theorem check_bounds {c : Cfg} (h : checkB c = true) : 0 ≤ c.num ∧ c.num ≤ 1099511627776 ∧ c.gs.length ≤ 4 ∧ (∀ g ∈ c.gs, 1 ≤ g ∧ g ≤ 4) ∧ Five c.o := by
  have h1 := h
  simp only [checkB, Bool.and_eq_true, Bool.not_eq_true', decide_eq_false_iff_not] at h1
  obtain ⟨⟨⟨h2, h3⟩, hasc⟩, hown⟩ := h1
  have hm : c.gs ∈ allFrom [1, 2, 3, 4] := asc_mem c.gs 0 (by omega) (by omega) hasc
  have hall : ∀ gs ∈ allFrom [1, 2, 3, 4], gs.length ≤ 4 ∧ ∀ g ∈ gs, 1 ≤ g ∧ g ≤ 4 := by decide
  obtain ⟨hl, hg⟩ := hall c.gs hm
  have ho : ∀ o ∈ c.own, 0 ≤ o ∧ o < 5 := by
    intro o ho
    have := List.all_eq_true.1 hown o ho
    unfold ownB at this
    by_cases h0 : c.gs.length = 0
    · rw [if_pos h0] at this
      have : o = 0 := by simpa using this
      omega
    · rw [if_neg h0] at this
      have := hg o (by simpa [inS] using this)
      omega
  refine ⟨by omega, by omega, hl, hg, fun k hk => ?_⟩
  have e : k = 0 ∨ k = 1 ∨ k = 2 ∨ k = 3 := by omega
  rcases e with rfl | rfl | rfl | rfl <;> exact ho _ (by simp [Cfg.own, Own.list, Own.get])

set_option maxHeartbeats 4000000 in
set_option maxRecDepth 100000 in
theorem next_bad (c : Cfg) (x : Cmd) (s : Value) (w : World) (hr : Rd w w.heap.size 1 s c.gs.length (ints c.gs)) (hm : c.gs.length ≤ 1000) (hbad : checkB c = true → refusedS c x ≠ 0) :
    Calls Tryz.prog 43 #[.agg #[.int .i64 c.num, s, .int .i64 c.o.a, .int .i64 c.o.b, .int .i64 c.o.c, .int .i64 c.o.d], .agg #[.int .i64 x.kind, .int .i64 x.group, .int .i64 x.shard]] w fun e w' =>
      ∃ s', e = .returned (.tuple #[(nextS c x).1.val s', .int .i64 (nextS c x).2]) ∧ w'.ownsRow w.heap.size 3 1 s' (nextS c x).1.gs.length (ints (nextS c x).1.gs) ∧ Below w.heap.size w w' := by
  cases hck : checkB c with
  | false =>
    clear hbad
    have he : Hid (nextS c x = (cfg0, 4)) := by unfold Hid nextS; rw [if_pos hck]
    go_enter Tryz.func43, Tryz.ntmps43
    have HRa : Hid (∀ o o' o2, Rd (((w.alloc o).alloc o').alloc o2) w.heap.size 1 s c.gs.length (ints c.gs)) := fun o o' o2 => hr.below ((((Below.refl _ w).alloc (Nat.le_refl _) o).alloc (by simp) o').alloc (by simp; omega) o2)
    clear hr
    go_wp2_with fail
    refine (check_any c s _ w.heap.size (by simp; omega) (HRa.out _ _ _) (by omega)).mono ?_
    rintro e w1 ⟨rfl, hb⟩
    rw [hck]
    have hz : Blk w1 (w.heap.size + 2) 46 (cfgCells 0 (.slice none 0 0) ⟨0, 0, 0, 0⟩) := Blk.below ((Blk.new ((w.alloc _).alloc _) _ _).cast_ (by simp)) hb (by simp)
    have z0 : w1.cell? ⟨w.heap.size + 2, 0, none⟩ = some (.int .i64 0) := hz.cell 0
    have f0 := hz.frozen 0
    have z1 : w1.cell? ⟨w.heap.size + 2, 1, none⟩ = some (.slice none 0 0) := hz.cell 1
    have f1 := hz.frozen 1
    have z2 : w1.cell? ⟨w.heap.size + 2, 2, none⟩ = some (.int .i64 0) := hz.cell 2
    have f2 := hz.frozen 2
    have z3 : w1.cell? ⟨w.heap.size + 2, 3, none⟩ = some (.int .i64 0) := hz.cell 3
    have f3 := hz.frozen 3
    have z4 : w1.cell? ⟨w.heap.size + 2, 4, none⟩ = some (.int .i64 0) := hz.cell 4
    have f4 := hz.frozen 4
    have z5 : w1.cell? ⟨w.heap.size + 2, 5, none⟩ = some (.int .i64 0) := hz.cell 5
    have f5 := hz.frozen 5
    clear hz
    have HBW : Hid (Below w.heap.size w w1) := ((((Below.refl _ w).alloc (Nat.le_refl _) _).alloc (by simp) _).alloc (by simp; omega) _).trans (hb.mono (by simp; omega))
    clear hb
    simp only [errC]
    go_wp2_with fail
    refine bodyPost_ret (v := .tuple #[cfg0.val (.slice none 0 0), .int .i64 4]) (by simp [results, Tryz.results43, go_sem, z0, z1, z2, z3, z4, z5, Cfg.val, cfg0]) rfl ?_
    rw [he.out]
    refine ⟨.slice none 0 0, rfl, ?_, ?_⟩
    · exact World.ownsRow_nil _ _ _ _
    · exact (((((((Chg.of_below HBW.out).setCell (F := fun i => i = w.heap.size + 2) (fun _ => rfl) _).setCell (fun _ => rfl) _).setCell (fun _ => rfl) _).setCell (fun _ => rfl) _).setCell (fun _ => rfl) _).setCell (fun _ => rfl) _).to_below (by intro i hi; omega) (Nat.le_refl _)
  | true =>
    have HRa : Hid (∀ o o' o2, Rd (((w.alloc o).alloc o').alloc o2) w.heap.size 1 s c.gs.length (ints c.gs)) := fun o o' o2 => hr.below ((((Below.refl _ w).alloc (Nat.le_refl _) o).alloc (by simp) o').alloc (by simp; omega) o2)
    have HR := Lib.hid hr
    clear hr
    have hrf := hbad hck
    clear hbad
    have he : Hid (nextS c x = (cfg0, refusedS c x)) := by unfold Hid nextS; rw [if_neg (by rw [hck]; simp), if_pos hrf]
    have hrb : (refusedS c x != 0) = true := by simpa using hrf
    clear hrf
    go_enter Tryz.func43, Tryz.ntmps43
    go_wp2_with fail
    refine (check_any c s _ w.heap.size (by simp; omega) (HRa.out _ _ _) (by omega)).mono ?_
    rintro e w1 ⟨rfl, hb⟩
    rw [hck]
    have hz : Blk w1 (w.heap.size + 2) 46 (cfgCells 0 (.slice none 0 0) ⟨0, 0, 0, 0⟩) := Blk.below ((Blk.new ((w.alloc _).alloc _) _ _).cast_ (by simp)) hb (by simp)
    have hx : Blk w1 (w.heap.size + 1) 38 #[.int .i64 x.kind, .int .i64 x.group, .int .i64 x.shard] := Blk.below (((Blk.new (w.alloc _) _ _).alloc _).cast_ (by simp)) hb (by simp)
    have hc : Blk w1 w.heap.size 46 (cfgCells c.num s c.o) := Blk.below (((Blk.new w _ _).alloc _).alloc _) hb (by simp; omega)
    have HBW : Hid (Below w.heap.size w w1) := ((((Below.refl _ w).alloc (Nat.le_refl _) _).alloc (by simp) _).alloc (by simp; omega) _).trans (hb.mono (by simp; omega))
    obtain ⟨q0, q1, q2, q3, q4, q5⟩ := keep6 hc (Below.refl _ _)
    have y0 : w1.cell? ⟨w.heap.size + 1, 0, none⟩ = some (.int .i64 x.kind) := hx.cell 0
    have y1 : w1.cell? ⟨w.heap.size + 1, 1, none⟩ = some (.int .i64 x.group) := hx.cell 1
    have y2 : w1.cell? ⟨w.heap.size + 1, 2, none⟩ = some (.int .i64 x.shard) := hx.cell 2
    have HZ := Lib.hid hz
    clear hb hz hx hc
    simp only [errC]
    go_wp2_with fail
    refine (refused_any c x s w1 w.heap.size HBW.out.size (HR.out.below HBW.out) hm).mono ?_
    rintro e w2 ⟨rfl, hb2⟩
    have hz2 := HZ.out.below hb2 HZ.out.lt
    have z0 : w2.cell? ⟨w.heap.size + 2, 0, none⟩ = some (.int .i64 0) := hz2.cell 0
    have f0 := hz2.frozen 0
    have z1 : w2.cell? ⟨w.heap.size + 2, 1, none⟩ = some (.slice none 0 0) := hz2.cell 1
    have f1 := hz2.frozen 1
    have z2 : w2.cell? ⟨w.heap.size + 2, 2, none⟩ = some (.int .i64 0) := hz2.cell 2
    have f2 := hz2.frozen 2
    have z3 : w2.cell? ⟨w.heap.size + 2, 3, none⟩ = some (.int .i64 0) := hz2.cell 3
    have f3 := hz2.frozen 3
    have z4 : w2.cell? ⟨w.heap.size + 2, 4, none⟩ = some (.int .i64 0) := hz2.cell 4
    have f4 := hz2.frozen 4
    have z5 : w2.cell? ⟨w.heap.size + 2, 5, none⟩ = some (.int .i64 0) := hz2.cell 5
    have f5 := hz2.frozen 5
    have HBW2 := Lib.hid (HBW.out.trans (hb2.mono HBW.out.size))
    clear hz2 hb2 q0 q1 q2 q3 q4 q5 y0 y1 y2
    generalize refusedS c x = r at *
    go_wp2_with fail
    refine bodyPost_ret (v := .tuple #[cfg0.val (.slice none 0 0), .int .i64 r]) (by simp [results, Tryz.results43, go_sem, z0, z1, z2, z3, z4, z5, Cfg.val, cfg0]) rfl ?_
    rw [he.out]
    refine ⟨.slice none 0 0, rfl, ?_, ?_⟩
    · exact World.ownsRow_nil _ _ _ _
    · exact (((((((Chg.of_below HBW2.out).setCell (F := fun i => i = w.heap.size + 2) (fun _ => rfl) _).setCell (fun _ => rfl) _).setCell (fun _ => rfl) _).setCell (fun _ => rfl) _).setCell (fun _ => rfl) _).setCell (fun _ => rfl) _).to_below (by intro i hi; omega) (Nat.le_refl _)

end Go.Proofs.YtijacbnoemjgcaaGreatDoor
