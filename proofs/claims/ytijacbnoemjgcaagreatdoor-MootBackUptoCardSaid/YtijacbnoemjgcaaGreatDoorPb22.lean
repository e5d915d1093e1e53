/- The chain: a configuration of one's own; Last, Get. -/
import Derived.Test.YtijacbnoemjgcaaGreatDoorPb21
import Derived.Test.YtijacbnoemjgcaaGreatDoorPb20
set_option linter.unusedVariables false
set_option linter.unusedSimpArgs false
set_option linter.unnecessarySimpa false
namespace Go.Proofs.YtijacbnoemjgcaaGreatDoor
open Go.RowKit Go.Shelf

/-- What hands back a configuration: its groups lie in new memory. -/
def GivesC (f : Nat) (args : Array Value) (w : World) (c : Cfg) : Prop :=
  Calls Tryz.prog f args w fun e w' => ∃ s', e = .returned (c.val s') ∧ w'.ownsRow w.heap.size 3 1 s' c.gs.length (ints c.gs) ∧ Below w.heap.size w w'

set_option maxHeartbeats 1000000 in
set_option maxRecDepth 100000 in
theorem own_any (c : Cfg) (s : Value) (w : World) (B : Nat) (hB : B ≤ w.heap.size) (hr : Rd w B 1 s c.gs.length (ints c.gs)) (hm : c.gs.length ≤ 1000) : GivesC 37 #[.agg #[.int .i64 c.num, s, .int .i64 c.o.a, .int .i64 c.o.b, .int .i64 c.o.c, .int .i64 c.o.d]] w c := by
  obtain ⟨_, A, cc, rfl, _, _⟩ := id hr
  have HRa : Hid (∀ o o', Rd ((w.alloc o).alloc o') B 1 (.slice A c.gs.length cc) c.gs.length (ints c.gs)) := fun o o' => hr.below (((Below.refl _ w).alloc hB o).alloc (by simp; omega) o')
  clear hr
  unfold GivesC
  go_enter Tryz.func37, Tryz.ntmps37
  go_wp2_with fail
  refine (clone_any _ c.gs _ B (by simp; omega) (HRa.out _ _) hm).mono ?_
  rintro e w1 ⟨s', rfl, hown, hb⟩
  have hc : Blk w1 w.heap.size 46 (cfgCells c.num (.slice A c.gs.length cc) c.o) := Blk.below ((Blk.new w _ _).alloc _) hb (by simp; omega)
  have hz : Blk w1 (w.heap.size + 1) 46 (cfgCells 0 (.slice none 0 0) ⟨0, 0, 0, 0⟩) := Blk.below ((Blk.new (w.alloc _) _ _).cast_ (by simp)) hb (by simp)
  have HBW : Hid (Below w.heap.size w w1) := (((Below.refl _ w).alloc (Nat.le_refl _) _).alloc (by simp) _).trans (hb.mono (by simp; omega))
  obtain ⟨As, cs, rfl⟩ := own_shape hown
  have HO := Lib.hid (own_weaken (base' := w.heap.size) hown (by simp; omega))
  obtain ⟨q0, q1, q2, q3, q4, q5⟩ := keep6 hc (Below.refl _ _)
  have fr1 := hc.frozen 1
  obtain ⟨z0, z1, z2, z3, z4, z5⟩ := keep6 hz (Below.refl _ _)
  have f0 := hz.frozen 0
  have f1 := hz.frozen 1
  have f2 := hz.frozen 2
  have f3 := hz.frozen 3
  have f4 := hz.frozen 4
  have f5 := hz.frozen 5
  have HC := Lib.hid hc
  have HZ := Lib.hid hz
  clear hown hb hc hz HRa
  go_wp2_with fail
  refine bodyPost_ret (v := c.val (.slice As c.gs.length cs)) (by simp [results, Tryz.results37, go_sem, z0, z1, z2, z3, z4, z5, Cfg.val]) rfl ?_
  refine ⟨_, rfl, ?_, (((((((((Chg.of_below HBW.out).setCell (F := fun i => i = w.heap.size ∨ i = w.heap.size + 1) (fun _ => .inl rfl) _).setCell (fun _ => .inr rfl) _).setCell (fun _ => .inr rfl) _).setCell (fun _ => .inr rfl) _).setCell (fun _ => .inr rfl) _).setCell (fun _ => .inr rfl) _).setCell (fun _ => .inr rfl) _)).to_below (by intro i hi; omega) (Nat.le_refl _)⟩
  refine ((((((((Chg.refl (fun i => i = w.heap.size ∨ i = w.heap.size + 1) w1).setCell (fun _ => .inl rfl) _).setCell (fun _ => .inr rfl) _).setCell (fun _ => .inr rfl) _).setCell (fun _ => .inr rfl) _).setCell (fun _ => .inr rfl) _).setCell (fun _ => .inr rfl) _).setCell (fun _ => .inr rfl) _).owns HO.out (fun g hg hF => ?_)
  rcases hF with rfl | rfl
  · exact own_blk_ne HO.out HC.out (by decide) hg
  · exact own_blk_ne HO.out HZ.out (by decide) hg

def getS (cs : List Cfg) (num : Int) : Cfg × Int := if 0 ≤ num ∧ num < cs.length then (cs.getD num.toNat cfg0, 0) else (cfg0, 6)

/-- What is handed back in a place of its own, the place's six cells written. -/
theorem put6 {w W : World} {s' : Value} {c : Cfg} {base b : Nat} (hb : Below w.heap.size w W) (hg : W.ownsRow base 3 1 s' c.gs.length (ints c.gs)) (hbase : w.heap.size ≤ base) (cs : Array Value) (hz : Blk W b 46 cs) (hbb : w.heap.size ≤ b) (W' : World) (hc : Chg (fun i => i = b) W W') :
    W'.ownsRow w.heap.size 3 1 s' c.gs.length (ints c.gs) ∧ Below w.heap.size w W' := by
  refine ⟨own_weaken (hc.owns hg (fun k hk e => ?_)) hbase, (((Chg.of_below hb).trans (F := fun i => i = b) hc (fun i _ h => h))).to_below (by intro i hi; omega) (Nat.le_refl _)⟩
  exact own_blk_ne hg hz (by decide) (by rw [hk, e])

/-- Behind the alloc of the result's place. -/
theorem place {w : World} {base h : Nat} {v : Value} {ps : List CfgV} (hp : ChnP base w h v ps) :
    ChnP base (w.alloc (.cells #[.int .i64 0, .slice none 0 0, .int .i64 0, .int .i64 0, .int .i64 0, .int .i64 0] 46)) h v ps ∧
    Blk (w.alloc (.cells #[.int .i64 0, .slice none 0 0, .int .i64 0, .int .i64 0, .int .i64 0, .int .i64 0] 46)) w.heap.size 46 (cfgCells 0 (.slice none 0 0) ⟨0, 0, 0, 0⟩) ∧
    Below w.heap.size w (w.alloc (.cells #[.int .i64 0, .slice none 0 0, .int .i64 0, .int .i64 0, .int .i64 0, .int .i64 0] 46)) :=
  ⟨hp.below ((Below.refl _ w).alloc (Nat.le_refl _) _), Blk.new w _ _, (Below.refl _ w).alloc (Nat.le_refl _) _⟩


end Go.Proofs.YtijacbnoemjgcaaGreatDoor

namespace Go.Proofs.YtijacbnoemjgcaaGreatDoor
open Go.RowKit Go.Shelf

def GivesCE (f : Nat) (args : Array Value) (w : World) (r : Cfg × Int) : Prop :=
  Calls Tryz.prog f args w fun e w' => ∃ s', e = .returned (.tuple #[r.1.val s', .int .i64 r.2]) ∧ w'.ownsRow w.heap.size 3 1 s' r.1.gs.length (ints r.1.gs) ∧ Below w.heap.size w w'

end Go.Proofs.YtijacbnoemjgcaaGreatDoor

namespace Go.Proofs.YtijacbnoemjgcaaGreatDoor

def okB (gs : List Int) (o : Own) : Bool := ascB 0 gs && o.list.all (ownB gs)
theorem okNext : allCfg (fun gs o g => (inS g gs || okB (isort (gs ++ [g])) ((giveS (isort (gs ++ [g])) o).getD o)) && (!inS g gs || gs.length == 1 || okB (offS g gs) ((giveS (offS g gs) o).getD o)) && (!inS g gs || (okB gs (o.put 0 g) && okB gs (o.put 1 g) && okB gs (o.put 2 g) && okB gs (o.put 3 g)))) = true := by decide +kernel

theorem next_is {c : Cfg} {x : Cmd} (h : (nextS c x).2 = 0) : checkB c = true ∧ refusedS c x = 0 ∧ nextS c x = (⟨c.num + 1, nextGs c.gs x, nextOwn c x⟩, 0) := by
  unfold nextS at h ⊢
  by_cases h1 : checkB c = false
  · rw [if_pos h1] at h; simp at h
  · rw [if_neg h1] at h ⊢
    by_cases h2 : refusedS c x ≠ 0
    · rw [if_pos h2] at h; exact absurd h h2
    · rw [if_neg h2]
      exact ⟨by simpa using h1, by simpa using h2, rfl⟩
theorem next_check {c : Cfg} {x : Cmd} (h : (nextS c x).2 = 0) : checkB (nextS c x).1 = true := by
  obtain ⟨hck, hrf, he⟩ := next_is h
  rw [he]
  obtain ⟨hgb, hnum, hcase⟩ := refused_zero hrf
  obtain ⟨n0, n1, _⟩ := check_bounds hck
  have hL := allCfg_at okNext hck hgb
  simp only [Bool.and_eq_true, Bool.or_eq_true, Bool.not_eq_true'] at hL
  obtain ⟨⟨hA, hB⟩, hC⟩ := hL
  have key : okB (nextGs c.gs x) (nextOwn c x) = true := by
    rcases hcase with ⟨h1, hin⟩ | ⟨h1, hin, hl⟩ | ⟨h1, hin, s0, s4⟩
    · have hgs : nextGs c.gs x = isort (c.gs ++ [x.group]) := by unfold nextGs; rw [if_pos h1]
      have how : nextOwn c x = (giveS (nextGs c.gs x) c.o).getD c.o := by unfold nextOwn; rw [if_neg (by omega)]
      rw [how, hgs]
      rw [hin] at hA
      simpa using hA
    · have hgs : nextGs c.gs x = offS x.group c.gs := by unfold nextGs; rw [if_neg (by omega), if_pos h1]
      have how : nextOwn c x = (giveS (nextGs c.gs x) c.o).getD c.o := by unfold nextOwn; rw [if_neg (by omega)]
      rw [how, hgs]
      rw [hin] at hB
      simpa [hl] using hB
    · have hgs : nextGs c.gs x = c.gs := by unfold nextGs; rw [if_neg (by omega), if_neg (by omega)]
      have how : nextOwn c x = c.o.put x.shard.toNat x.group := by unfold nextOwn; rw [if_pos h1]
      rw [how, hgs]
      rw [hin] at hC
      have hC' : ((okB c.gs (c.o.put 0 x.group) = true ∧ okB c.gs (c.o.put 1 x.group) = true) ∧ okB c.gs (c.o.put 2 x.group) = true) ∧ okB c.gs (c.o.put 3 x.group) = true := by simpa using hC
      have h4 : x.shard.toNat = 0 ∨ x.shard.toNat = 1 ∨ x.shard.toNat = 2 ∨ x.shard.toNat = 3 := by omega
      rcases h4 with h | h | h | h <;> rw [h]
      · exact hC'.1.1.1
      · exact hC'.1.1.2
      · exact hC'.1.2
      · exact hC'.2
  unfold okB at key
  simp only [Bool.and_eq_true] at key
  simp only [checkB, Bool.and_eq_true, Bool.not_eq_true', decide_eq_false_iff_not]
  exact ⟨⟨⟨by omega, by omega⟩, key.1⟩, key.2⟩

end Go.Proofs.YtijacbnoemjgcaaGreatDoor
