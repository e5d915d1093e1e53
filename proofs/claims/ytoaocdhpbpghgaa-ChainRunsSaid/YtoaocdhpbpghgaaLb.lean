/- The law's helpers: equal configurations; the reference's; the small case: three. -/
import Derived.Test.YtoaocdhpbpghgaaLa
namespace Go.Proofs.Ytoaocdhpbpghgaa
open Go.RowKit Go.Shelf
set_option linter.unusedVariables false
set_option linter.unusedSimpArgs false

set_option maxHeartbeats 1000000 in
set_option maxRecDepth 100000 in
theorem ref_any (c : Cfg) (A : Option Addr) (n cc : Nat) (w : World) :
    Calls Try.prog 11 #[.agg #[.int .i64 c.num, .slice A n cc, .int .i64 c.o.a, .int .i64 c.o.b, .int .i64 c.o.c, .int .i64 c.o.d]] w fun e w' => e = .returned (c.val (.slice A n cc)) ∧ Below w.heap.size w w' := by
  go_enter Try.func11, Try.ntmps11
  go_wp2_with fail
  refine bodyPost_ret (v := c.val (.slice A n cc)) (by simp [results, Try.results11, go_sem, Cfg.val]) rfl ?_
  exact ⟨rfl, ((Below.refl _ _).alloc (Nat.le_refl _) _).alloc (by simp) _⟩

set_option maxHeartbeats 1000000 in
set_option maxRecDepth 100000 in
theorem same_true (c : Cfg) (A : Option Addr) (cc : Nat) (A2 : Option Addr) (cc2 : Nat) (w : World) (B : Nat) (hB : B ≤ w.heap.size) (hr : Rd w B 1 (.slice A c.gs.length cc) c.gs.length (ints c.gs)) (hq : Rd w B 1 (.slice A2 c.gs.length cc2) c.gs.length (ints c.gs)) (hm : c.gs.length ≤ 1000) :
    Calls Try.prog 12 #[.agg #[.int .i64 c.num, .slice A c.gs.length cc, .int .i64 c.o.a, .int .i64 c.o.b, .int .i64 c.o.c, .int .i64 c.o.d], .agg #[.int .i64 c.num, .slice A2 c.gs.length cc2, .int .i64 c.o.a, .int .i64 c.o.b, .int .i64 c.o.c, .int .i64 c.o.d]] w fun e w' => e = .returned (.bool true) ∧ Below w.heap.size w w' := by
  have HR : Hid (∀ o o', Rd ((w.alloc o).alloc o') B 1 (.slice A c.gs.length cc) c.gs.length (ints c.gs)) := fun o o' => hr.below (((Below.refl _ w).alloc hB o).alloc (by simp; omega) o')
  have HQ : Hid (∀ o o', Rd ((w.alloc o).alloc o') B 1 (.slice A2 c.gs.length cc2) c.gs.length (ints c.gs)) := fun o o' => hq.below (((Below.refl _ w).alloc hB o).alloc (by simp; omega) o')
  have heq := fun wx => eql_own c.o c.o wx
  rw [ownEq_refl] at heq
  have hgd : Try.prog.eqGuardType Try.prog.depth 23 = false := by kernel_rfl
  clear hr hq
  go_enter Try.func12, Try.ntmps12
  go_wp2_with fail
  refine (ints_any _ _ c.gs c.gs _ B (HR.out _ _) (HQ.out _ _) (by omega) (by omega)).mono ?_
  rw [intsEq_refl]
  rintro e w1 ⟨rfl, hb⟩
  go_wp2_with fail
  go_ret
  exact ⟨rfl, (((Below.refl _ _).alloc (Nat.le_refl _) _).alloc (by simp) _).trans (hb.mono (by simp; omega))⟩

/-- Blocks of a chain, from base on. -/
def Mine (base : Nat) (w : World) (i : Nat) : Prop := base ≤ i ∧ ∃ t cs, Blk w i t cs ∧ (t = 68 ∨ t = 25)
theorem do_in (base h : Nat) (cs : List Cfg) (x : Cmd) (w : World) (hp : Chn base w h cs) (hb : base ≤ h) (h41 : cs.length ≤ 41) :
    Calls Try.prog 14 #[.pointer (some ⟨h, 0, none⟩), .agg #[.int .i64 x.kind, .int .i64 x.group, .int .i64 x.shard]] w fun e w' =>
      e = .returned (.int .i64 (doS cs x).2) ∧ Chn base w' h (doS cs x).1 ∧ Chg (Mine base w) w w' := by
  obtain ⟨v, ps, hp, rfl⟩ := hp
  rw [List.length_map] at h41
  refine (do_any base h v ps x w hp h41).mono ?_
  rintro e w' ⟨v', ps', rfl, hp', he, hc, _⟩
  refine ⟨rfl, ⟨v', ps', hp', he⟩, hc.mono fun i hi hF => ?_⟩
  rcases hF with rfl | hF
  · exact ⟨hb, _, _, hp.box, .inl rfl⟩
  · refine ⟨(hp.row.lt i hF).1, ?_⟩
    rcases hp.row.2 with ⟨_, h0⟩ | ⟨g', cap', cur', hv', _, hb', _⟩
    · have := hp.pos; omega
    · rw [hv'] at hF
      simp only [Value.ownBlock, Option.some.injEq] at hF
      subst hF
      exact ⟨_, _, hb', .inr rfl⟩
theorem mine_below {base : Nat} {w w' : World} (h : Chg (Mine base w) w w') (hb : base ≤ w.heap.size) : Below base w w' := h.to_below (fun i hi hF => by have := hF.1; omega) hb
theorem Chn.base_le {base h : Nat} {w : World} {cs : List Cfg} (hp : Chn base w h cs) : base ≤ w.heap.size := by
  obtain ⟨v, ps, hp, rfl⟩ := hp
  obtain ⟨g, c, _, hb, hg⟩ := hp.row.form hp.pos
  omega

def t1 : Cfg := ⟨1, [1], ⟨1, 1, 1, 1⟩⟩
def t2 : Cfg := ⟨2, [1, 2], ⟨2, 2, 1, 1⟩⟩
def t3 : Cfg := ⟨3, [1, 2, 3], ⟨2, 2, 3, 1⟩⟩
def t4 : Cfg := ⟨4, [2, 3], ⟨2, 2, 3, 3⟩⟩
theorem three1 : doS [cfg0] ⟨1, 1, 0⟩ = ([cfg0, t1], 0) := by rfl
theorem three2 : doS [cfg0, t1] ⟨1, 2, 0⟩ = ([cfg0, t1, t2], 0) := by rfl
theorem three3 : doS [cfg0, t1, t2] ⟨1, 3, 0⟩ = ([cfg0, t1, t2, t3], 0) := by rfl
theorem three4 : doS [cfg0, t1, t2, t3] ⟨2, 1, 0⟩ = ([cfg0, t1, t2, t3, t4], 0) := by rfl

theorem field_owner (n a b c d : Int) (A : Option Addr) (l m : Nat) (w : World) : (Instr.field 25 (.agg #[.int .i64 n, .slice A l m, .int .i64 a, .int .i64 b, .int .i64 c, .int .i64 d]) 2).run Try.prog w = .ok (.agg #[.int .i64 a, .int .i64 b, .int .i64 c, .int .i64 d]) w := by kernel_rfl

set_option maxHeartbeats 2000000 in
set_option maxRecDepth 100000 in
theorem three_any (w : World) : Calls Try.prog 8 #[] w fun e w' => e = .returned (.bool true) ∧ Below w.heap.size w w' := by
  have hgd : Try.prog.eqGuardType Try.prog.depth 23 = false := by kernel_rfl
  have q1 : ∀ w, (binOp .eql 23 (.agg #[.int .i64 2, .int .i64 2, .int .i64 1, .int .i64 1]) (.agg #[.int .i64 2, .int .i64 2, .int .i64 1, .int .i64 1])).run Try.prog w = .ok (.bool true) w := fun w => eql_own ⟨2, 2, 1, 1⟩ ⟨2, 2, 1, 1⟩ w
  have q2 : ∀ w, (binOp .eql 23 (.agg #[.int .i64 2, .int .i64 2, .int .i64 3, .int .i64 3]) (.agg #[.int .i64 2, .int .i64 2, .int .i64 3, .int .i64 3])).run Try.prog w = .ok (.bool true) w := fun w => eql_own ⟨2, 2, 3, 3⟩ ⟨2, 2, 3, 3⟩ w
  go_enter Try.func8, Try.ntmps8
  go_wp2_with fail
  refine (new_any w).mono ?_
  rintro e w1 ⟨rfl, hp1, hb1⟩
  have HP1 := Lib.hid hp1
  have HB1 := Lib.hid hb1
  clear hp1 hb1
  go_wp2_with fail
  refine (do_in _ _ _ ⟨1, 1, 0⟩ w1 HP1.out (by omega) (by simp)).mono ?_
  rw [three1]
  rintro e w2 ⟨rfl, hp2, hc2⟩
  have HP2 := Lib.hid hp2
  have HB2 := Lib.hid (HB1.out.trans (mine_below hc2 HP1.out.base_le))
  clear hp2 hc2 HP1 HB1
  go_wp2_with fail
  refine (do_in _ _ _ ⟨1, 2, 0⟩ w2 HP2.out (by omega) (by simp)).mono ?_
  rw [three2]
  rintro e w3 ⟨rfl, hp3, hc3⟩
  have HP3 := Lib.hid hp3
  have HB3 := Lib.hid (HB2.out.trans (mine_below hc3 HP2.out.base_le))
  clear hp3 hc3 HP2 HB2
  go_wp2_with fail
  refine (do_in _ _ _ ⟨1, 3, 0⟩ w3 HP3.out (by omega) (by simp)).mono ?_
  rw [three3]
  rintro e w4 ⟨rfl, hp4, hc4⟩
  have HP4 := Lib.hid hp4
  have HB4 := Lib.hid (HB3.out.trans (mine_below hc4 HP3.out.base_le))
  clear hp4 hc4 HP3 HB3
  go_wp2_with fail
  refine (do_in _ _ _ ⟨2, 1, 0⟩ w4 HP4.out (by omega) (by simp)).mono ?_
  rw [three4]
  rintro e w5 ⟨rfl, hp5, hc5⟩
  have HP5 := Lib.hid hp5
  have HB5 := Lib.hid (HB4.out.trans (mine_below hc5 HP4.out.base_le))
  clear hp5 hc5 HP4 HB4
  go_wp2_with fail
  refine (get_any _ _ _ 2 w5 HP5.out (by simp)).mono ?_
  rw [show getS [cfg0, t1, t2, t3, t4] 2 = (t2, 0) from rfl]
  rintro e w6 ⟨s6, rfl, ho6, hb6⟩
  obtain ⟨A6, c6, rfl⟩ := own_shape ho6
  have HP6 := Lib.hid (HP5.out.below hb6)
  have HB6 := Lib.hid (HB5.out.trans (hb6.mono HB5.out.size))
  clear HP5 HB5 hb6 ho6
  unfold Cfg.val
  have HP7 := Lib.hid (fun o => HP6.out.below ((Below.refl _ w6).alloc (Nat.le_refl _) o))
  have HB7 := Lib.hid (fun o => HB6.out.trans (((Below.refl _ w6).alloc (Nat.le_refl _) o).mono HB6.out.size))
  clear HP6 HB6
  simp only [t2]
  go_wp2_with fail
  refine (lastcfg_any _ _ _ _ (HP7.out _) (by simp)).mono ?_
  rw [show [cfg0, t1, t2, t3, t4].getLastD cfg0 = t4 from rfl]
  rintro e w8 ⟨s8, rfl, ho8, hb8⟩
  obtain ⟨A8, c8, rfl⟩ := own_shape ho8
  have hfld := fun (w : World) (n a b c d : Int) (A : Option Addr) (l m : Nat) => field_owner n a b c d A l m w
  have HB8 := Lib.hid ((HB7.out _).trans (hb8.mono (HB7.out _).size))
  clear hb8 ho8 HP7 HB7
  unfold Cfg.val
  simp only [t4]
  go_wp2_with fail
  go_ret
  exact ⟨rfl, HB8.out⟩

end Go.Proofs.Ytoaocdhpbpghgaa
