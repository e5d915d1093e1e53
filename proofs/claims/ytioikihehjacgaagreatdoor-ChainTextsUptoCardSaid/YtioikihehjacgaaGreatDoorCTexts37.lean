/- The law's helpers: equal configurations; the reference's; the small case: three. -/
import Derived.Test.YtioikihehjacgaaGreatDoorCTexts35
import Derived.Test.YtioikihehjacgaaGreatDoorCTexts36
import Derived.Test.YtioikihehjacgaaGreatDoorCTexts33
set_option linter.unusedVariables false
set_option linter.unusedSimpArgs false
set_option linter.unnecessarySimpa false
namespace Go.Proofs.YtioikihehjacgaaGreatDoor
open Go.RowKit Go.Shelf

set_option maxHeartbeats 1000000 in
set_option maxRecDepth 100000 in
theorem ref_any (c : Cfg) (A : Option Addr) (n cc : Nat) (w : World) :
    Calls Tryz.prog 7 #[.agg #[.int .i64 c.num, .slice A n cc, .int .i64 c.o.a, .int .i64 c.o.b, .int .i64 c.o.c, .int .i64 c.o.d]] w fun e w' => e = .returned (c.val (.slice A n cc)) ∧ Below w.heap.size w w' := by
  go_enter Tryz.func7, Tryz.ntmps7
  go_wp2_with fail
  refine bodyPost_ret (v := c.val (.slice A n cc)) (by simp [results, Tryz.results7, go_sem, Cfg.val]) rfl ?_
  exact ⟨rfl, ((Below.refl _ _).alloc (Nat.le_refl _) _).alloc (by simp) _⟩

set_option maxHeartbeats 1000000 in
set_option maxRecDepth 100000 in
theorem same_true (c : Cfg) (A : Option Addr) (cc : Nat) (A2 : Option Addr) (cc2 : Nat) (w : World) (B : Nat) (hB : B ≤ w.heap.size) (hr : Rd w B 1 (.slice A c.gs.length cc) c.gs.length (ints c.gs)) (hq : Rd w B 1 (.slice A2 c.gs.length cc2) c.gs.length (ints c.gs)) (hm : c.gs.length ≤ 1000) :
    Calls Tryz.prog 10 #[.agg #[.int .i64 c.num, .slice A c.gs.length cc, .int .i64 c.o.a, .int .i64 c.o.b, .int .i64 c.o.c, .int .i64 c.o.d], .agg #[.int .i64 c.num, .slice A2 c.gs.length cc2, .int .i64 c.o.a, .int .i64 c.o.b, .int .i64 c.o.c, .int .i64 c.o.d]] w fun e w' => e = .returned (.bool true) ∧ Below w.heap.size w w' := by
  have HR : Hid (∀ o o', Rd ((w.alloc o).alloc o') B 1 (.slice A c.gs.length cc) c.gs.length (ints c.gs)) := fun o o' => hr.below (((Below.refl _ w).alloc hB o).alloc (by simp; omega) o')
  have HQ : Hid (∀ o o', Rd ((w.alloc o).alloc o') B 1 (.slice A2 c.gs.length cc2) c.gs.length (ints c.gs)) := fun o o' => hq.below (((Below.refl _ w).alloc hB o).alloc (by simp; omega) o')
  have heq := fun wx => eql_own c.o c.o wx
  rw [ownEq_refl] at heq
  have hgd : Tryz.prog.eqGuardType Tryz.prog.depth 23 = false := by kernel_rfl
  clear hr hq
  go_enter Tryz.func10, Tryz.ntmps10
  go_wp2_with fail
  refine (ints_any _ _ c.gs c.gs _ B (HR.out _ _) (HQ.out _ _) (by omega) (by omega)).mono ?_
  rw [intsEq_refl]
  rintro e w1 ⟨rfl, hb⟩
  go_wp2_with fail
  go_ret
  exact ⟨rfl, (((Below.refl _ _).alloc (Nat.le_refl _) _).alloc (by simp) _).trans (hb.mono (by simp; omega))⟩

def t1 : Cfg := ⟨1, [1], ⟨1, 1, 1, 1⟩⟩
def t2 : Cfg := ⟨2, [1, 2], ⟨2, 2, 1, 1⟩⟩
def t3 : Cfg := ⟨3, [1, 2, 3], ⟨2, 2, 3, 1⟩⟩
def t4 : Cfg := ⟨4, [2, 3], ⟨2, 2, 3, 3⟩⟩
theorem three1 : doS [cfg0] ⟨1, 1, 0⟩ = ([cfg0, t1], 0) := by rfl
theorem three2 : doS [cfg0, t1] ⟨1, 2, 0⟩ = ([cfg0, t1, t2], 0) := by rfl
theorem three3 : doS [cfg0, t1, t2] ⟨1, 3, 0⟩ = ([cfg0, t1, t2, t3], 0) := by rfl
theorem three4 : doS [cfg0, t1, t2, t3] ⟨2, 1, 0⟩ = ([cfg0, t1, t2, t3, t4], 0) := by rfl

theorem field_owner (n a b c d : Int) (A : Option Addr) (l m : Nat) (w : World) : (Instr.field 25 (.agg #[.int .i64 n, .slice A l m, .int .i64 a, .int .i64 b, .int .i64 c, .int .i64 d]) 2).run Tryz.prog w = .ok (.agg #[.int .i64 a, .int .i64 b, .int .i64 c, .int .i64 d]) w := by kernel_rfl

set_option maxHeartbeats 2000000 in
set_option maxRecDepth 100000 in
theorem three_any (w : World) : Calls Tryz.prog 4 #[] w fun e w' => e = .returned (.bool true) ∧ Below w.heap.size w w' := by
  have hgd : Tryz.prog.eqGuardType Tryz.prog.depth 23 = false := by kernel_rfl
  have q1 : ∀ w, (binOp .eql 23 (.agg #[.int .i64 2, .int .i64 2, .int .i64 1, .int .i64 1]) (.agg #[.int .i64 2, .int .i64 2, .int .i64 1, .int .i64 1])).run Tryz.prog w = .ok (.bool true) w := fun w => eql_own ⟨2, 2, 1, 1⟩ ⟨2, 2, 1, 1⟩ w
  have q2 : ∀ w, (binOp .eql 23 (.agg #[.int .i64 2, .int .i64 2, .int .i64 3, .int .i64 3]) (.agg #[.int .i64 2, .int .i64 2, .int .i64 3, .int .i64 3])).run Tryz.prog w = .ok (.bool true) w := fun w => eql_own ⟨2, 2, 3, 3⟩ ⟨2, 2, 3, 3⟩ w
  go_enter Tryz.func4, Tryz.ntmps4
  go_wp2_with fail
  refine (new_any w).mono ?_
  rintro e w1 ⟨rfl, hp1, hb1⟩
  have HP1 := Lib.hid hp1
  have HB1 := Lib.hid hb1
  clear hp1 hb1
  go_wp2_with fail
  refine (do_in _ _ _ ⟨1, 1, 0⟩ w1 HP1.out (by omega) (by simp)).mono ?_
  rw [three1]
  rintro e w2 ⟨rfl, hp2, hc2⟩
  have HP2 := Lib.hid hp2
  have HB2 := Lib.hid (HB1.out.trans (mine_below hc2 HP1.out.base_le))
  clear hp2 hc2 HP1 HB1
  go_wp2_with fail
  refine (do_in _ _ _ ⟨1, 2, 0⟩ w2 HP2.out (by omega) (by simp)).mono ?_
  rw [three2]
  rintro e w3 ⟨rfl, hp3, hc3⟩
  have HP3 := Lib.hid hp3
  have HB3 := Lib.hid (HB2.out.trans (mine_below hc3 HP2.out.base_le))
  clear hp3 hc3 HP2 HB2
  go_wp2_with fail
  refine (do_in _ _ _ ⟨1, 3, 0⟩ w3 HP3.out (by omega) (by simp)).mono ?_
  rw [three3]
  rintro e w4 ⟨rfl, hp4, hc4⟩
  have HP4 := Lib.hid hp4
  have HB4 := Lib.hid (HB3.out.trans (mine_below hc4 HP3.out.base_le))
  clear hp4 hc4 HP3 HB3
  go_wp2_with fail
  refine (do_in _ _ _ ⟨2, 1, 0⟩ w4 HP4.out (by omega) (by simp)).mono ?_
  rw [three4]
  rintro e w5 ⟨rfl, hp5, hc5⟩
  have HP5 := Lib.hid hp5
  have HB5 := Lib.hid (HB4.out.trans (mine_below hc5 HP4.out.base_le))
  clear hp5 hc5 HP4 HB4
  go_wp2_with fail
  refine (get_any _ _ _ 2 w5 HP5.out (by simp)).mono ?_
  rw [show getS [cfg0, t1, t2, t3, t4] 2 = (t2, 0) from rfl]
  rintro e w6 ⟨s6, rfl, ho6, hb6⟩
  obtain ⟨A6, c6, rfl⟩ := own_shape ho6
  have HP6 := Lib.hid (HP5.out.below hb6)
  have HB6 := Lib.hid (HB5.out.trans (hb6.mono HB5.out.size))
  clear HP5 HB5 hb6 ho6
  unfold Cfg.val
  have HP7 := Lib.hid (fun o => HP6.out.below ((Below.refl _ w6).alloc (Nat.le_refl _) o))
  have HB7 := Lib.hid (fun o => HB6.out.trans (((Below.refl _ w6).alloc (Nat.le_refl _) o).mono HB6.out.size))
  clear HP6 HB6
  simp only [t2]
  go_wp2_with fail
  refine (lastcfg_any _ _ _ _ (HP7.out _) (by simp)).mono ?_
  rw [show [cfg0, t1, t2, t3, t4].getLastD cfg0 = t4 from rfl]
  rintro e w8 ⟨s8, rfl, ho8, hb8⟩
  obtain ⟨A8, c8, rfl⟩ := own_shape ho8
  have hfld := fun (w : World) (n a b c d : Int) (A : Option Addr) (l m : Nat) => field_owner n a b c d A l m w
  have HB8 := Lib.hid ((HB7.out _).trans (hb8.mono (HB7.out _).size))
  clear hb8 ho8 HP7 HB7
  unfold Cfg.val
  simp only [t4]
  go_wp2_with fail
  go_ret
  exact ⟨rfl, HB8.out⟩

end Go.Proofs.YtioikihehjacgaaGreatDoor

namespace Go.Proofs.YtioikihehjacgaaGreatDoor

theorem next_small (c : Cfg) (x : Cmd) : (nextS c x).1.gs.length ≤ 4 := by
  by_cases h : (nextS c x).2 = 0
  · exact (check_bounds (next_check h)).2.2.1
  · unfold nextS at h ⊢
    by_cases h1 : checkB c = false
    · rw [if_pos h1]; simp [cfg0]
    · rw [if_neg h1] at h ⊢
      by_cases h2 : refusedS c x ≠ 0
      · rw [if_pos h2]; simp [cfg0]
      · rw [if_neg h2] at h; simp at h

def loadsS (c : Cfg) : List Int := if checkB c = true then c.gs.map (cnt c.own) else []
def sumS (l : List Int) : Int := l.foldl (· + ·) 0
theorem sumS_snoc (l : List Int) (a : Int) : sumS (l ++ [a]) = sumS l + a := by simp [sumS, List.foldl_append]
def balB (gs : List Int) (o : Own) : Bool := (gs.map (cnt o.list)).all (fun a => (gs.map (cnt o.list)).all fun b => decide (a - b ≤ 1)) && sumS (gs.map (cnt o.list)) == 4
theorem balAll : allCfg (fun gs o g => (inS g gs || balB (isort (gs ++ [g])) ((giveS (isort (gs ++ [g])) o).getD o)) && (!inS g gs || gs.length == 1 || balB (offS g gs) ((giveS (offS g gs) o).getD o))) = true := by decide +kernel
theorem next_bal {c : Cfg} {x : Cmd} (h : (nextS c x).2 = 0) (hk : x.kind ≠ 3) : balB (nextS c x).1.gs (nextS c x).1.o = true := by
  obtain ⟨hck, hrf, he⟩ := next_is h
  rw [he]
  obtain ⟨hgb, hnum, hcase⟩ := refused_zero hrf
  have hL := allCfg_at balAll hck hgb
  simp only [Bool.and_eq_true, Bool.or_eq_true, Bool.not_eq_true'] at hL
  obtain ⟨hA, hB⟩ := hL
  rcases hcase with ⟨h1, hin⟩ | ⟨h1, hin, hl⟩ | ⟨h1, hin, s0, s4⟩
  · have hgs : nextGs c.gs x = isort (c.gs ++ [x.group]) := by unfold nextGs; rw [if_pos h1]
    have how : nextOwn c x = (giveS (nextGs c.gs x) c.o).getD c.o := by unfold nextOwn; rw [if_neg (by omega)]
    rw [how, hgs]
    rw [hin] at hA
    simpa using hA
  · have hgs : nextGs c.gs x = offS x.group c.gs := by unfold nextGs; rw [if_neg (by omega), if_pos h1]
    have how : nextOwn c x = (giveS (nextGs c.gs x) c.o).getD c.o := by unfold nextOwn; rw [if_neg (by omega)]
    rw [how, hgs]
    rw [hin] at hB
    simpa [hl] using hB
  · exact absurd h1 hk
theorem next_loads {c : Cfg} {x : Cmd} (h : (nextS c x).2 = 0) (hk : x.kind ≠ 3) : (∀ i j (hi : i < (loadsS (nextS c x).1).length) (hj : j < (loadsS (nextS c x).1).length), (loadsS (nextS c x).1)[i] - (loadsS (nextS c x).1)[j] ≤ 1) ∧ sumS (loadsS (nextS c x).1) = 4 := by
  have hb := next_bal h hk
  have hl : loadsS (nextS c x).1 = (nextS c x).1.gs.map (cnt (nextS c x).1.o.list) := by unfold loadsS; rw [if_pos (next_check h)]; rfl
  rw [hl]
  unfold balB at hb
  simp only [Bool.and_eq_true, List.all_eq_true, decide_eq_true_eq, beq_iff_eq] at hb
  exact ⟨fun i j hi hj => hb.1 _ (List.getElem_mem hi) _ (List.getElem_mem hj), hb.2⟩
theorem loads_small (c : Cfg) : (∀ a ∈ loadsS c, 0 ≤ a ∧ a ≤ 4) ∧ (loadsS c).length ≤ 4 := by
  unfold loadsS
  split
  · rename_i h
    refine ⟨fun a ha => ?_, by rw [List.length_map]; exact (check_bounds h).2.2.1⟩
    obtain ⟨g, _, rfl⟩ := List.mem_map.1 ha
    exact cnt_le c.own g
  · simp

end Go.Proofs.YtioikihehjacgaaGreatDoor
