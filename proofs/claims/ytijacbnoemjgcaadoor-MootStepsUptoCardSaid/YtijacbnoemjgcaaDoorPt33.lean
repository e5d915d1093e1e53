/- The moot: Get, Last; the small case: one. -/
import Derived.Test.YtijacbnoemjgcaaDoorPt32
set_option linter.unusedVariables false
set_option linter.unusedSimpArgs false
set_option linter.unnecessarySimpa false
namespace Go.Proofs.YtijacbnoemjgcaaDoor
open Go.RowKit Go.Shelf

set_option maxHeartbeats 1000000 in
set_option maxRecDepth 100000 in
theorem mlast_any (base m : Nat) (cs : List Cfg) (tk : List Cmd) (cl : Cls) (w : World) (hp : Moot base w m cs tk cl) (h41 : cs.length ≤ 1000) :
    GivesC 15 #[.pointer (some ⟨m, 0, none⟩)] w (cs.getLastD cfg0) := by
  obtain ⟨h, tv, hm, hc⟩ := hp
  have hal : Below w.heap.size w (w.alloc (.cells #[.int .i64 0, .slice none 0 0, .int .i64 0, .int .i64 0, .int .i64 0, .int .i64 0] 49)) := (Below.refl _ w).alloc (Nat.le_refl _) _
  have b0 : (w.alloc (.cells #[.int .i64 0, .slice none 0 0, .int .i64 0, .int .i64 0, .int .i64 0, .int .i64 0] 49)).cell? ⟨m, 0, none⟩ = some (.pointer (some ⟨h, 0, none⟩)) := (hm.below hal).box.cell 0
  have HC := lastcfg_any base h cs _ (hc.below hal) h41
  have HZ : Hid (Blk (w.alloc (.cells #[.int .i64 0, .slice none 0 0, .int .i64 0, .int .i64 0, .int .i64 0, .int .i64 0] 49)) w.heap.size 49 (cfgCells 0 (.slice none 0 0) ⟨0, 0, 0, 0⟩)) := Blk.new w _ _
  have HB := Lib.hid hal
  have hsz : w.heap.size ≤ (w.alloc (.cells #[.int .i64 0, .slice none 0 0, .int .i64 0, .int .i64 0, .int .i64 0, .int .i64 0] 49)).heap.size := hal.size
  unfold GivesC at HC ⊢
  generalize cs.getLastD cfg0 = c at *
  have HCC := Lib.hid HC
  clear HC hal hm hc
  go_enter Tryd.func15, Tryd.ntmps15
  go_wp2_with fail
  generalize w.alloc (.cells #[.int .i64 0, .slice none 0 0, .int .i64 0, .int .i64 0, .int .i64 0, .int .i64 0] 49) = W at *
  refine HCC.out.mono ?_
  rintro e w2 ⟨s', rfl, hown, hb⟩
  obtain ⟨As, c2, rfl⟩ := own_shape hown
  have hz := HZ.out.below hb HZ.out.lt
  have HB2 := Lib.hid (HB.out.trans (hb.mono hsz))
  obtain ⟨z0, z1, z2, z3, z4, z5⟩ := keep6 hz (Below.refl _ _)
  have f0 := hz.frozen 0
  have f1 := hz.frozen 1
  have f2 := hz.frozen 2
  have f3 := hz.frozen 3
  have f4 := hz.frozen 4
  have f5 := hz.frozen 5
  have HZ2 := Lib.hid hz
  have HO := Lib.hid hown
  clear hz hown hb b0
  unfold Cfg.val
  go_wp2_with fail
  refine bodyPost_ret (v := c.val (.slice As c.gs.length c2)) (by simp [results, Tryd.results15, go_sem, z0, z1, z2, z3, z4, z5, Cfg.val]) rfl ?_
  exact ⟨_, rfl, put6 HB2.out HO.out hsz _ HZ2.out (Nat.le_refl _) _ (((((((Chg.refl (fun i => i = w.heap.size) w2).setCell (fun _ => rfl) _).setCell (fun _ => rfl) _).setCell (fun _ => rfl) _).setCell (fun _ => rfl) _).setCell (fun _ => rfl) _).setCell (fun _ => rfl) _)⟩

set_option maxHeartbeats 1000000 in
set_option maxRecDepth 100000 in
theorem mget_any (base m : Nat) (cs : List Cfg) (tk : List Cmd) (cl : Cls) (num : Int) (w : World) (hp : Moot base w m cs tk cl) (h41 : cs.length ≤ 1000) :
    GivesCE 13 #[.pointer (some ⟨m, 0, none⟩), .int .i64 num] w (getS cs num) := by
  obtain ⟨h, tv, hm, hc⟩ := hp
  have hal : Below w.heap.size w (w.alloc (.cells #[.int .i64 0, .slice none 0 0, .int .i64 0, .int .i64 0, .int .i64 0, .int .i64 0] 49)) := (Below.refl _ w).alloc (Nat.le_refl _) _
  have b0 : (w.alloc (.cells #[.int .i64 0, .slice none 0 0, .int .i64 0, .int .i64 0, .int .i64 0, .int .i64 0] 49)).cell? ⟨m, 0, none⟩ = some (.pointer (some ⟨h, 0, none⟩)) := (hm.below hal).box.cell 0
  have HC := get_any base h cs num _ (hc.below hal) h41
  have HZ : Hid (Blk (w.alloc (.cells #[.int .i64 0, .slice none 0 0, .int .i64 0, .int .i64 0, .int .i64 0, .int .i64 0] 49)) w.heap.size 49 (cfgCells 0 (.slice none 0 0) ⟨0, 0, 0, 0⟩)) := Blk.new w _ _
  have HB := Lib.hid hal
  have hsz : w.heap.size ≤ (w.alloc (.cells #[.int .i64 0, .slice none 0 0, .int .i64 0, .int .i64 0, .int .i64 0, .int .i64 0] 49)).heap.size := hal.size
  unfold GivesCE at HC ⊢
  generalize getS cs num = r at *
  obtain ⟨c, e'⟩ := r
  simp only at HC ⊢
  have HCC := Lib.hid HC
  clear HC hal hm hc
  go_enter Tryd.func13, Tryd.ntmps13
  go_wp2_with fail
  generalize w.alloc (.cells #[.int .i64 0, .slice none 0 0, .int .i64 0, .int .i64 0, .int .i64 0, .int .i64 0] 49) = W at *
  refine HCC.out.mono ?_
  rintro e w2 ⟨s', rfl, hown, hb⟩
  obtain ⟨As, c2, rfl⟩ := own_shape hown
  have hz := HZ.out.below hb HZ.out.lt
  have HB2 := Lib.hid (HB.out.trans (hb.mono hsz))
  obtain ⟨z0, z1, z2, z3, z4, z5⟩ := keep6 hz (Below.refl _ _)
  have f0 := hz.frozen 0
  have f1 := hz.frozen 1
  have f2 := hz.frozen 2
  have f3 := hz.frozen 3
  have f4 := hz.frozen 4
  have f5 := hz.frozen 5
  have HZ2 := Lib.hid hz
  have HO := Lib.hid hown
  clear hz hown hb b0
  unfold Cfg.val
  go_wp2_with fail
  refine bodyPost_ret (v := .tuple #[c.val (.slice As c.gs.length c2), .int .i64 e']) (by simp [results, Tryd.results13, go_sem, z0, z1, z2, z3, z4, z5, Cfg.val]) rfl ?_
  exact ⟨_, rfl, put6 HB2.out HO.out hsz _ HZ2.out (Nat.le_refl _) _ (((((((Chg.refl (fun i => i = w.heap.size) w2).setCell (fun _ => rfl) _).setCell (fun _ => rfl) _).setCell (fun _ => rfl) _).setCell (fun _ => rfl) _).setCell (fun _ => rfl) _).setCell (fun _ => rfl) _)⟩

theorem field_num (n a b c d : Int) (A : Option Addr) (l m : Nat) (w : World) : (Instr.field 49 (.agg #[.int .i64 n, .slice A l m, .int .i64 a, .int .i64 b, .int .i64 c, .int .i64 d]) 0).run Tryd.prog w = .ok (.int .i64 n) w := by kernel_rfl

def s1 : Mt := (mdS mt0 0 1 ⟨1, 1, 0⟩).2
theorem one1 : (mdS mt0 0 1 ⟨1, 1, 0⟩).1 = (0, true, 0) := by rfl
theorem one2 : (mdS s1 0 1 ⟨1, 2, 0⟩).1 = (0, false, 0) ∧ (mdS s1 0 1 ⟨1, 2, 0⟩).2 = s1 := by exact ⟨rfl, rfl⟩
theorem one3 : (mdS s1 0 2 ⟨1, 1, 0⟩).1 = (150, true, 0) := by rfl
def s2 : Mt := (mdS s1 0 2 ⟨1, 1, 0⟩).2
theorem one4 : s1.cs.length ≤ 41 ∧ s1.tk.length ≤ 1000 ∧ s2.cs.length ≤ 1000 := by decide
theorem one5 : (s2.cs.getLastD cfg0).num = 1 := by rfl

set_option maxHeartbeats 1000000 in
set_option maxRecDepth 100000 in
theorem one_any (w : World) : Calls Tryd.prog 6 #[] w fun e w' => e = .returned (.bool true) ∧ Below w.heap.size w w' := by
  have hfld := fun (w : World) (n a b c d : Int) (A : Option Addr) (l m : Nat) => field_num n a b c d A l m w
  have HF := Lib.hid hfld
  clear hfld
  go_enter Tryd.func6, Tryd.ntmps6
  go_wp2_with fail
  refine (mnew_any w).mono ?_
  rintro e w1 ⟨m, rfl, hp1, hb1⟩
  have HP1 := Lib.hid hp1
  have HB1 := Lib.hid hb1
  clear hp1 hb1
  go_wp2_with fail
  refine (mdo_any w.heap.size m mt0 0 1 ⟨1, 1, 0⟩ w1 HP1.out (by simp [mt0]) (by simp [mt0])).mono ?_
  rintro e w2 ⟨rfl, hp2, hc2⟩
  have HP2 : Hid (Moot w.heap.size w2 m s1.cs s1.tk s1.cl) := hp2
  have HB2 := Lib.hid (HB1.out.trans (mmine_below hc2 HB1.out.size))
  rw [one1]
  clear hp2 hc2 HP1 HB1
  go_wp2_with fail
  refine (mdo_any w.heap.size m s1 0 1 ⟨1, 2, 0⟩ w2 HP2.out one4.1 one4.2.1).mono ?_
  rintro e w3 ⟨rfl, hp3, hc3⟩
  have HP3 : Hid (Moot w.heap.size w3 m s1.cs s1.tk s1.cl) := hp3
  have HB3 := Lib.hid (HB2.out.trans (mmine_below hc3 HB2.out.size))
  rw [one2.1]
  clear hp3 hc3 HP2 HB2
  go_wp2_with fail
  refine (mdo_any w.heap.size m s1 0 2 ⟨1, 1, 0⟩ w3 HP3.out one4.1 one4.2.1).mono ?_
  rintro e w4 ⟨rfl, hp4, hc4⟩
  have HP4 : Hid (Moot w.heap.size w4 m s2.cs s2.tk s2.cl) := hp4
  have HB4 := Lib.hid (HB3.out.trans (mmine_below hc4 HB3.out.size))
  rw [one3]
  clear hp4 hc4 HP3 HB3
  go_wp2_with fail
  have hl := mlast_any w.heap.size m s2.cs s2.tk s2.cl w4 HP4.out one4.2.2
  unfold GivesC at hl
  refine hl.mono ?_
  rintro e w5 ⟨s5, rfl, ho5, hb5⟩
  obtain ⟨A5, c5, rfl⟩ := own_shape ho5
  have hn := one5
  generalize s2.cs.getLastD cfg0 = c at *
  obtain ⟨cn, cg, co⟩ := c
  simp only at hn
  subst hn
  have HB5 := Lib.hid (HB4.out.trans (hb5.mono HB4.out.size))
  have hfld := HF.out
  clear ho5 hb5 hl
  unfold Cfg.val
  go_wp2_with fail
  go_ret
  exact ⟨rfl, HB5.out⟩

end Go.Proofs.YtijacbnoemjgcaaDoor
