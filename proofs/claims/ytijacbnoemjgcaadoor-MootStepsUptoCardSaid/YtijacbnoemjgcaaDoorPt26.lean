/- The chain: a configuration of one's own; Last, Get. -/
import Derived.Test.YtijacbnoemjgcaaDoorPt25
set_option linter.unusedVariables false
set_option linter.unusedSimpArgs false
set_option linter.unnecessarySimpa false
namespace Go.Proofs.YtijacbnoemjgcaaDoor
open Go.RowKit Go.Shelf

/-- What hands back a configuration: its groups lie in new memory. -/
def GivesC (f : Nat) (args : Array Value) (w : World) (c : Cfg) : Prop :=
  Calls Tryd.prog f args w fun e w' => ∃ s', e = .returned (c.val s') ∧ w'.ownsRow w.heap.size 3 1 s' c.gs.length (ints c.gs) ∧ Below w.heap.size w w'

set_option maxHeartbeats 1000000 in
set_option maxRecDepth 100000 in
theorem own_any (c : Cfg) (s : Value) (w : World) (B : Nat) (hB : B ≤ w.heap.size) (hr : Rd w B 1 s c.gs.length (ints c.gs)) (hm : c.gs.length ≤ 1000) : GivesC 33 #[.agg #[.int .i64 c.num, s, .int .i64 c.o.a, .int .i64 c.o.b, .int .i64 c.o.c, .int .i64 c.o.d]] w c := by
  obtain ⟨_, A, cc, rfl, _, _⟩ := id hr
  have HRa : Hid (∀ o o', Rd ((w.alloc o).alloc o') B 1 (.slice A c.gs.length cc) c.gs.length (ints c.gs)) := fun o o' => hr.below (((Below.refl _ w).alloc hB o).alloc (by simp; omega) o')
  clear hr
  unfold GivesC
  go_enter Tryd.func33, Tryd.ntmps33
  go_wp2_with fail
  refine (clone_any _ c.gs _ B (by simp; omega) (HRa.out _ _) hm).mono ?_
  rintro e w1 ⟨s', rfl, hown, hb⟩
  have hc : Blk w1 w.heap.size 49 (cfgCells c.num (.slice A c.gs.length cc) c.o) := Blk.below ((Blk.new w _ _).alloc _) hb (by simp; omega)
  have hz : Blk w1 (w.heap.size + 1) 49 (cfgCells 0 (.slice none 0 0) ⟨0, 0, 0, 0⟩) := Blk.below ((Blk.new (w.alloc _) _ _).cast_ (by simp)) hb (by simp)
  have HBW : Hid (Below w.heap.size w w1) := (((Below.refl _ w).alloc (Nat.le_refl _) _).alloc (by simp) _).trans (hb.mono (by simp; omega))
  obtain ⟨As, cs, rfl⟩ := own_shape hown
  have HO := Lib.hid (own_weaken (base' := w.heap.size) hown (by simp; omega))
  obtain ⟨q0, q1, q2, q3, q4, q5⟩ := keep6 hc (Below.refl _ _)
  have fr1 := hc.frozen 1
  obtain ⟨z0, z1, z2, z3, z4, z5⟩ := keep6 hz (Below.refl _ _)
  have f0 := hz.frozen 0
  have f1 := hz.frozen 1
  have f2 := hz.frozen 2
  have f3 := hz.frozen 3
  have f4 := hz.frozen 4
  have f5 := hz.frozen 5
  have HC := Lib.hid hc
  have HZ := Lib.hid hz
  clear hown hb hc hz HRa
  go_wp2_with fail
  refine bodyPost_ret (v := c.val (.slice As c.gs.length cs)) (by simp [results, Tryd.results33, go_sem, z0, z1, z2, z3, z4, z5, Cfg.val]) rfl ?_
  refine ⟨_, rfl, ?_, (((((((((Chg.of_below HBW.out).setCell (F := fun i => i = w.heap.size ∨ i = w.heap.size + 1) (fun _ => .inl rfl) _).setCell (fun _ => .inr rfl) _).setCell (fun _ => .inr rfl) _).setCell (fun _ => .inr rfl) _).setCell (fun _ => .inr rfl) _).setCell (fun _ => .inr rfl) _).setCell (fun _ => .inr rfl) _)).to_below (by intro i hi; omega) (Nat.le_refl _)⟩
  refine ((((((((Chg.refl (fun i => i = w.heap.size ∨ i = w.heap.size + 1) w1).setCell (fun _ => .inl rfl) _).setCell (fun _ => .inr rfl) _).setCell (fun _ => .inr rfl) _).setCell (fun _ => .inr rfl) _).setCell (fun _ => .inr rfl) _).setCell (fun _ => .inr rfl) _).setCell (fun _ => .inr rfl) _).owns HO.out (fun g hg hF => ?_)
  rcases hF with rfl | rfl
  · exact own_blk_ne HO.out HC.out (by decide) hg
  · exact own_blk_ne HO.out HZ.out (by decide) hg

def getS (cs : List Cfg) (num : Int) : Cfg × Int := if 0 ≤ num ∧ num < cs.length then (cs.getD num.toNat cfg0, 0) else (cfg0, 6)

/-- What is handed back in a place of its own, the place's six cells written. -/
theorem put6 {w W : World} {s' : Value} {c : Cfg} {base b : Nat} (hb : Below w.heap.size w W) (hg : W.ownsRow base 3 1 s' c.gs.length (ints c.gs)) (hbase : w.heap.size ≤ base) (cs : Array Value) (hz : Blk W b 49 cs) (hbb : w.heap.size ≤ b) (W' : World) (hc : Chg (fun i => i = b) W W') :
    W'.ownsRow w.heap.size 3 1 s' c.gs.length (ints c.gs) ∧ Below w.heap.size w W' := by
  refine ⟨own_weaken (hc.owns hg (fun k hk e => ?_)) hbase, (((Chg.of_below hb).trans (F := fun i => i = b) hc (fun i _ h => h))).to_below (by intro i hi; omega) (Nat.le_refl _)⟩
  exact own_blk_ne hg hz (by decide) (by rw [hk, e])

set_option maxHeartbeats 1000000 in
set_option maxRecDepth 100000 in
theorem get_nil (num : Int) (w : World) : Calls Tryd.prog 25 #[.pointer none, .int .i64 num] w fun e w' => ∃ s', e = .returned (.tuple #[cfg0.val s', .int .i64 6]) ∧ w'.ownsRow w.heap.size 3 1 s' cfg0.gs.length (ints cfg0.gs) ∧ Below w.heap.size w w' := by
  go_enter Tryd.func25, Tryd.ntmps25
  go_wp2_with fail
  refine bodyPost_ret (v := .tuple #[cfg0.val (.slice none 0 0), .int .i64 6]) (by simp [results, Tryd.results25, go_sem, Cfg.val, cfg0]) rfl ?_
  exact ⟨_, rfl, World.ownsRow_nil _ _ _ _, (Below.refl _ _).alloc (Nat.le_refl _) _⟩

/-- Behind the alloc of the result's place. -/
theorem place {w : World} {base h : Nat} {v : Value} {ps : List CfgV} (hp : ChnP base w h v ps) :
    ChnP base (w.alloc (.cells #[.int .i64 0, .slice none 0 0, .int .i64 0, .int .i64 0, .int .i64 0, .int .i64 0] 49)) h v ps ∧
    Blk (w.alloc (.cells #[.int .i64 0, .slice none 0 0, .int .i64 0, .int .i64 0, .int .i64 0, .int .i64 0] 49)) w.heap.size 49 (cfgCells 0 (.slice none 0 0) ⟨0, 0, 0, 0⟩) ∧
    Below w.heap.size w (w.alloc (.cells #[.int .i64 0, .slice none 0 0, .int .i64 0, .int .i64 0, .int .i64 0, .int .i64 0] 49)) :=
  ⟨hp.below ((Below.refl _ w).alloc (Nat.le_refl _) _), Blk.new w _ _, (Below.refl _ w).alloc (Nat.le_refl _) _⟩


end Go.Proofs.YtijacbnoemjgcaaDoor
