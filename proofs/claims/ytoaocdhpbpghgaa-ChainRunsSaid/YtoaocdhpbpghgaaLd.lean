/- ChainNext, walked. -/
import Derived.Test.YtoaocdhpbpghgaaLb
import Derived.Test.YtoaocdhpbpghgaaPc
namespace Go.Proofs.Ytoaocdhpbpghgaa
open Go.RowKit Go.Shelf
set_option linter.unusedVariables false
set_option linter.unusedSimpArgs false

theorem rblkB {w1 w2 : World} (h : Below (w1.alloc (.cells #[.int .i64 0, .slice none 0 0, .int .i64 0, .int .i64 0, .int .i64 0, .int .i64 0] 32)).heap.size (w1.alloc (.cells #[.int .i64 0, .slice none 0 0, .int .i64 0, .int .i64 0, .int .i64 0, .int .i64 0] 32)) w2) :
    Blk w2 w1.heap.size 32 (cfgCells 0 (.slice none 0 0) ⟨0, 0, 0, 0⟩) := Blk.below (Blk.new w1 _ _) h (by simp)
theorem rblkC {W w2 : World} (h : Below (W.alloc (.cells #[.int .i64 0, .slice none 0 0, .int .i64 0, .int .i64 0, .int .i64 0, .int .i64 0] 32)).drew.heap.size (W.alloc (.cells #[.int .i64 0, .slice none 0 0, .int .i64 0, .int .i64 0, .int .i64 0, .int .i64 0] 32)).drew w2) :
    Blk w2 W.heap.size 32 (cfgCells 0 (.slice none 0 0) ⟨0, 0, 0, 0⟩) := Blk.below (Blk.new W _ _).drew h (by simp)
theorem rsix_own {w : World} {b base : Nat} {cs : Array Value} (h : Blk w b 32 cs) {s : Value} {n : Nat} {xs : List Value} (ho : w.ownsRow base 3 1 s n xs) (v0 v1 v2 v3 v4 v5 : Value) :
    ((((((w.setCell ⟨b, 0, none⟩ v0).setCell ⟨b, 1, none⟩ v1).setCell ⟨b, 2, none⟩ v2).setCell ⟨b, 3, none⟩ v3).setCell ⟨b, 4, none⟩ v4).setCell ⟨b, 5, none⟩ v5).ownsRow base 3 1 s n xs :=
  (((((((Chg.refl (fun i => i = b) w).setCell (fun _ => rfl) _).setCell (fun _ => rfl) _).setCell (fun _ => rfl) _).setCell (fun _ => rfl) _).setCell (fun _ => rfl) _).setCell (fun _ => rfl) _).owns ho (fun g hg e => own_blk_ne ho h (by decide) (by rw [hg, e]))

/-- Both arguments, boxed. -/
theorem keep9 {W w' : World} {b b' : Nat} {num : Int} {s : Value} {o : Own} {x : Cmd} (hc : Blk W b 25 (cfgCells num s o)) (hx : Blk W b' 27 #[.int .i64 x.kind, .int .i64 x.group, .int .i64 x.shard]) (h : Below W.heap.size W w') :
    w'.cell? ⟨b, 0, none⟩ = some (.int .i64 num) ∧ w'.cell? ⟨b, 1, none⟩ = some s ∧ w'.cell? ⟨b, 2, none⟩ = some (.int .i64 o.a) ∧ w'.cell? ⟨b, 3, none⟩ = some (.int .i64 o.b) ∧ w'.cell? ⟨b, 4, none⟩ = some (.int .i64 o.c) ∧ w'.cell? ⟨b, 5, none⟩ = some (.int .i64 o.d)
      ∧ w'.cell? ⟨b', 0, none⟩ = some (.int .i64 x.kind) ∧ w'.cell? ⟨b', 1, none⟩ = some (.int .i64 x.group) ∧ w'.cell? ⟨b', 2, none⟩ = some (.int .i64 x.shard) := by
  obtain ⟨e0, e1, e2, e3, e4, e5⟩ := keep6 hc h
  have h2 := hx.below h hx.lt
  exact ⟨e0, e1, e2, e3, e4, e5, h2.cell 0, h2.cell 1, h2.cell 2⟩

/-- What holds behind 'b, f := Next(ref(c), ..)'. -/
def NxMid (W : World) (r : Cfg × Int) (vc ve : Value) (wc : World) : Prop :=
  ∃ b s2, vc = .pointer (some ⟨b, 0, none⟩) ∧ ve = .int .i64 r.2 ∧ Below W.heap.size W wc ∧ W.heap.size ≤ b ∧ Blk wc b 32 (cfgCells r.1.num s2 r.1.o) ∧ wc.ownsRow W.heap.size 3 1 s2 r.1.gs.length (ints r.1.gs)

set_option maxHeartbeats 4000000 in
set_option maxRecDepth 100000 in
theorem chainNext_any (c : Cfg) (A : Option Addr) (cc : Nat) (x : Cmd) (w : World) (hr : Rd w w.heap.size 1 (.slice A c.gs.length cc) c.gs.length (ints c.gs)) (hm : c.gs.length ≤ 9223372036854775807) :
    Calls Try.prog 3 #[.agg #[.int .i64 c.num, .slice A c.gs.length cc, .int .i64 c.o.a, .int .i64 c.o.b, .int .i64 c.o.c, .int .i64 c.o.d], .agg #[.int .i64 x.kind, .int .i64 x.group, .int .i64 x.shard]] w fun e w' => e = .returned (.bool true) ∧ Below w.heap.size w w' := by
  by_cases hbig : 100 < c.gs.length
  · have hb2 : (100 : Int) < (c.gs.length : Int) := by omega
    have hBB := Lib.hid (fun o o' => ((Below.refl w.heap.size w).alloc (Nat.le_refl _) o).alloc (by simp) o')
    clear hr
    go_enter Try.func3, Try.ntmps3
    go_wp2_with fail
    refine (three_any _).mono ?_
    rintro e w1 ⟨rfl, hb⟩
    have HB := Lib.hid ((hBB.out _ _).trans (hb.mono (by simp; omega)))
    clear hb
    go_wp2_with fail
    go_ret
    exact ⟨rfl, HB.out⟩
  · have hb2 : decide ((100 : Int) < (c.gs.length : Int)) = false := by rw [decide_eq_false_iff_not]; omega
    have hm2 : c.gs.length ≤ 100 := by omega
    have HRa : Hid (∀ o o', Rd ((w.alloc o).alloc o') w.heap.size 1 (.slice A c.gs.length cc) c.gs.length (ints c.gs)) := fun o o' => hr.below (((Below.refl _ w).alloc (Nat.le_refl _) o).alloc (by simp) o')
    clear hbig hr
    have HNX : Hid (∀ w1 : World, Rd w1 w1.heap.size 1 (.slice A c.gs.length cc) c.gs.length (ints c.gs) → Calls Try.prog 9 #[.agg #[.int .i64 c.num, .slice A c.gs.length cc, .int .i64 c.o.a, .int .i64 c.o.b, .int .i64 c.o.c, .int .i64 c.o.d], .agg #[.int .i64 x.kind, .int .i64 x.group, .int .i64 x.shard]] w1 fun e w' =>
      ∃ s', e = .returned (.tuple #[(nextS c x).1.val s', .int .i64 (nextS c x).2]) ∧ w'.ownsRow w1.heap.size 3 1 s' (nextS c x).1.gs.length (ints (nextS c x).1.gs) ∧ Below w1.heap.size w1 w') := fun w1 h => next_any c x _ w1 h (by omega)
    have HRN : Hid (∀ w1 : World, Rd w1 w1.heap.size 1 (.slice A c.gs.length cc) c.gs.length (ints c.gs) → Calls Try.prog 10 #[.agg #[.int .i64 c.num, .slice A c.gs.length cc, .int .i64 c.o.a, .int .i64 c.o.b, .int .i64 c.o.c, .int .i64 c.o.d], .agg #[.int .i64 x.kind, .int .i64 x.group, .int .i64 x.shard]] w1 fun e w' =>
      ∃ s', e = .returned (.tuple #[(nextS c x).1.val s', .int .i64 (nextS c x).2]) ∧ w'.ownsRow w1.heap.size 3 1 s' (nextS c x).1.gs.length (ints (nextS c x).1.gs) ∧ Below w1.heap.size w1 w') := fun w1 h => rnext_any c x _ w1 h (by omega)
    have hsm := next_small c x
    generalize nextS c x = r at *
    obtain ⟨⟨rn, rg, ro⟩, re⟩ := r
    simp only at HNX HRN hsm
    go_enter Try.func3, Try.ntmps3
    go_wp2_with fail
    refine (HNX.out _ ((HRa.out _ _).more (by simp; omega))).mono ?_
    rintro e w1 ⟨s1, rfl, ho1, hb1⟩
    have hc1 : Blk w1 w.heap.size 25 (cfgCells c.num (.slice A c.gs.length cc) c.o) := Blk.below ((Blk.new w _ _).alloc _) hb1 (by simp; omega)
    have hx1 : Blk w1 (w.heap.size + 1) 27 #[.int .i64 x.kind, .int .i64 x.group, .int .i64 x.shard] := Blk.below ((Blk.new (w.alloc _) _ _).cast_ (by simp)) hb1 (by simp)
    have HB1 : Hid (Below w.heap.size w w1) := (((Below.refl _ w).alloc (Nat.le_refl _) _).alloc (by simp) _).trans (hb1.mono (by simp; omega))
    have HR1 : Hid (Rd w1 w.heap.size 1 (.slice A c.gs.length cc) c.gs.length (ints c.gs)) := (HRa.out _ _).below (hb1.mono (by simp; omega))
    obtain ⟨A1, c1, rfl⟩ := own_shape ho1
    -- behind the place of a
    have HCW := Lib.hid (hc1.alloc (.cells #[.int .i64 rn, .slice A1 rg.length c1, .int .i64 ro.a, .int .i64 ro.b, .int .i64 ro.c, .int .i64 ro.d] 25))
    have HXW := Lib.hid (hx1.alloc (.cells #[.int .i64 rn, .slice A1 rg.length c1, .int .i64 ro.a, .int .i64 ro.b, .int .i64 ro.c, .int .i64 ro.d] 25))
    have HAW : Hid (Blk (w1.alloc (.cells #[.int .i64 rn, .slice A1 rg.length c1, .int .i64 ro.a, .int .i64 ro.b, .int .i64 ro.c, .int .i64 ro.d] 25)) w1.heap.size 25 (cfgCells rn (.slice A1 rg.length c1) ro)) := Blk.new w1 _ _
    have HOW := Lib.hid (ho1.alloc (.cells #[.int .i64 rn, .slice A1 rg.length c1, .int .i64 ro.a, .int .i64 ro.b, .int .i64 ro.c, .int .i64 ro.d] 25))
    have HBW := Lib.hid (HB1.out.alloc HB1.out.size (.cells #[.int .i64 rn, .slice A1 rg.length c1, .int .i64 ro.a, .int .i64 ro.b, .int .i64 ro.c, .int .i64 ro.d] 25))
    have HRW : Hid (Rd (w1.alloc (.cells #[.int .i64 rn, .slice A1 rg.length c1, .int .i64 ro.a, .int .i64 ro.b, .int .i64 ro.c, .int .i64 ro.d] 25)) w.heap.size 1 (.slice A c.gs.length cc) c.gs.length (ints c.gs)) := HR1.out.below ((Below.refl _ _).alloc HB1.out.size _)
    have hww : w.heap.size ≤ w1.heap.size := HB1.out.size
    obtain ⟨q0, q1, q2, q3, q4, q5⟩ := keep6 hc1 (Below.refl _ _)
    have y0 : w1.cell? ⟨w.heap.size + 1, 0, none⟩ = some (.int .i64 x.kind) := hx1.cell 0
    have y1 : w1.cell? ⟨w.heap.size + 1, 1, none⟩ = some (.int .i64 x.group) := hx1.cell 1
    have y2 : w1.cell? ⟨w.heap.size + 1, 2, none⟩ = some (.int .i64 x.shard) := hx1.cell 2
    clear hc1 hx1 ho1 hb1 HB1 HR1 HNX HRa
    unfold Cfg.val
    go_upto_region 4 with fail
    clear q0 q1 q2 q3 q4 q5 y0 y1 y2
    generalize w1.heap.size = ba at *
    generalize w1.alloc (.cells #[.int .i64 rn, .slice A1 rg.length c1, .int .i64 ro.a, .int .i64 ro.b, .int .i64 ro.c, .int .i64 ro.d] 25) = W at *
    have HRX : Hid (∀ W' : World, Below W.heap.size W W' → Rd W' W'.heap.size 1 (.slice A c.gs.length cc) c.gs.length (ints c.gs)) := fun W' h => (HRW.out.below (h.mono HBW.out.size)).more (Nat.le_trans HBW.out.size h.size)
    have hxlt : w.heap.size + 1 < W.heap.size := HXW.out.lt
    go_cut [7, 8] (fun vc ve wc => NxMid W (⟨rn, rg, ro⟩, re) vc ve wc)
    case first =>
      go_region_held3 (fun w' => w'.cell? ⟨w.heap.size, 0, none⟩ = some (.int .i64 c.num) ∧ w'.cell? ⟨w.heap.size, 1, none⟩ = some (.slice A c.gs.length cc) ∧ w'.cell? ⟨w.heap.size, 2, none⟩ = some (.int .i64 c.o.a) ∧ w'.cell? ⟨w.heap.size, 3, none⟩ = some (.int .i64 c.o.b) ∧ w'.cell? ⟨w.heap.size, 4, none⟩ = some (.int .i64 c.o.c) ∧ w'.cell? ⟨w.heap.size, 5, none⟩ = some (.int .i64 c.o.d) ∧ w'.cell? ⟨w.heap.size + 1, 0, none⟩ = some (.int .i64 x.kind) ∧ w'.cell? ⟨w.heap.size + 1, 1, none⟩ = some (.int .i64 x.group) ∧ w'.cell? ⟨w.heap.size + 1, 2, none⟩ = some (.int .i64 x.shard))
        ((refine keep9 HCW.out HXW.out ?_; simp only [bl_drew, bl_alloc, bl_refl, bl_six, *, Nat.le_refl]))
        (first
          | (go_at_call 11; refine Calls.mono (ref_any c A c.gs.length cc _) ?_; rintro e w2 ⟨rfl, hb2⟩; have hbl : Below W.heap.size W w2 := below_then (by simp only [bl_drew, bl_alloc, bl_refl]) hb2; have hls := hbl.size; (try (with_reducible have hzC := rblkC hb2)); unfold Cfg.val)
          | (go_at_call 10; refine Calls.mono (HRN.out _ (HRX.out _ (by simp only [bl_drew, bl_alloc, hbl]))) ?_; rintro e w3 ⟨s3, rfl, hown3, hb3⟩; have hbl2 : Below W.heap.size W w3 := below_then (by simp only [bl_drew, bl_alloc, hbl]) hb3; have hls2 := hbl2.size; have hown4 := own_weaken (base' := W.heap.size) hown3 (by first | (with_reducible assumption) | (simp only [World.size_alloc]; omega)); obtain ⟨A3, c3, rfl⟩ := own_shape hown3; (try (with_reducible have hzB := rblkB hb3)); (try (have hzB := hzC.below hb3 hzC.lt)); (try (obtain ⟨z0, z1, z2, z3, z4, z5⟩ := keep6 hzB (Below.refl _ _); have f0 := hzB.frozen 0; have f1 := hzB.frozen 1; have f2 := hzB.frozen 2; have f3 := hzB.frozen 3; have f4 := hzB.frozen 4; have f5 := hzB.frozen 5)); (try (have HZB := Lib.hid hzB; clear hzB)); (try (have HZC := Lib.hid hzC; clear hzC)); have HOWN3 := Lib.hid hown4; clear hown3 hown4; unfold Cfg.val))
      · go_wp2_with fail
        go_meet
        case rel => exact ⟨_, _, rfl, rfl, below_al hbl2 _, hls2, Blk.new w3 _ _, HOWN3.out.alloc _⟩
      · go_wp2_with fail
        go_meet
        case rel => exact ⟨_, _, rfl, rfl, six_below hbl2 hls _ _ _ _ _ _, hls, blk6 HZB.out rn _ ro, rsix_own HZB.out HOWN3.out _ _ _ _ _ _⟩
      · go_wp2_with fail
        go_meet
        case rel => exact ⟨_, _, rfl, rfl, six_below hbl2 (Nat.le_refl _) _ _ _ _ _ _, Nat.le_refl _, blk6 HZB.out rn _ ro, rsix_own HZB.out HOWN3.out _ _ _ _ _ _⟩
    case rest =>
      clear HRN HRX
      obtain ⟨b, s2, rfl, rfl, hbW, hWb, hkb, hown⟩ := hcut
      obtain ⟨A2, c2, rfl⟩ := own_shape hown
      obtain ⟨k0, k1, k2, k3, k4, k5⟩ := keep6 hkb (Below.refl _ _)
      have haw := HAW.out.below hbW HAW.out.lt
      obtain ⟨a0, a1, a2, a3, a4, a5⟩ := keep6 haw (Below.refl _ _)
      have HRA := Lib.hid ((Rd.of_own (HOW.out)).below hbW |>.more hbW.size)
      have HRB := Lib.hid (Rd.of_own hown)
      have HB3 := Lib.hid (HBW.out.trans (hbW.mono HBW.out.size))
      clear hbW hkb hown haw
      go_wp2_with fail
      refine (same_true ⟨rn, rg, ro⟩ A1 c1 A2 c2 wc wc.heap.size (Nat.le_refl _) HRA.out HRB.out (by simp only; omega)).mono ?_
      rintro e w4 ⟨rfl, hb4⟩
      have HB4 := Lib.hid (HB3.out.trans (hb4.mono HB3.out.size))
      clear hb4 k0 k1 k2 k3 k4 k5 a0 a1 a2 a3 a4 a5
      go_wp2_with fail
      refine (three_any w4).mono ?_
      rintro e w5 ⟨rfl, hb5⟩
      have HB5 := Lib.hid (HB4.out.trans (hb5.mono HB4.out.size))
      clear hb5
      go_wp2_with fail
      go_ret
      exact ⟨rfl, HB5.out⟩

end Go.Proofs.Ytoaocdhpbpghgaa
