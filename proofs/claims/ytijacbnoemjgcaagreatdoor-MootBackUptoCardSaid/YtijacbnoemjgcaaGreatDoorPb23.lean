/- The chain: Do. -/
import Derived.Test.YtijacbnoemjgcaaGreatDoorPb22
set_option linter.unusedVariables false
set_option linter.unusedSimpArgs false
set_option linter.unnecessarySimpa false
namespace Go.Proofs.YtijacbnoemjgcaaGreatDoor
open Go.RowKit Go.Shelf

def doS (cs : List Cfg) (x : Cmd) : List Cfg × Int :=
  if (nextS (cs.getLastD cfg0) x).2 ≠ 0 then (cs, (nextS (cs.getLastD cfg0) x).2) else if 40 < cs.length then (cs, 151) else (cs ++ [(nextS (cs.getLastD cfg0) x).1], 0)

/-- The blocks that a chain's Do writes. -/
def FDo (h : Nat) (v : Value) : Nat → Prop := fun i => i = h ∨ v.ownBlock = some i
def DoPost (base h : Nat) (v : Value) (ps : List CfgV) (x : Cmd) (w : World) (e : Ending) (w' : World) : Prop :=
  ∃ v' ps', e = .returned (.int .i64 (doS (ps.map (·.1)) x).2) ∧ ChnP base w' h v' ps' ∧ ps'.map (·.1) = (doS (ps.map (·.1)) x).1 ∧ Chg (FDo h v) w w' ∧ (∀ g, v'.ownBlock = some g → v.ownBlock = some g ∨ w.heap.size ≤ g)

set_option maxHeartbeats 1000000 in
set_option maxRecDepth 100000 in
theorem do_nil (x : Cmd) (w : World) : Calls Tryz.prog 29 #[.pointer none, .agg #[.int .i64 x.kind, .int .i64 x.group, .int .i64 x.shard]] w fun e w' => e = .returned (.int .i64 7) ∧ Below w.heap.size w w' := by
  go_enter Tryz.func29, Tryz.ntmps29
  go_wp2_with fail
  go_ret
  exact ⟨rfl, (Below.refl _ _).alloc (Nat.le_refl _) _⟩

theorem below_al {W w1 : World} (h : Below W.heap.size W w1) (o : Obj) : Below W.heap.size W (w1.alloc o) := h.alloc h.size o
theorem below_then {W w1 w2 : World} (h : Below W.heap.size W w1) (k : Below w1.heap.size w1 w2) : Below W.heap.size W w2 := h.trans (k.mono h.size)
theorem below_dr (W : World) : Below W.heap.size W W.drew := (Below.refl _ _).drew
theorem below_ad (W : World) (o : Obj) : Below W.heap.size W (W.alloc o).drew := (Below.refl _ _).alloc (Nat.le_refl _) o |>.drew
theorem cfg_info : (Tryz.prog.info? 46).map (fun i => (i.zero, i.size, i.bytes)) = some (some (.agg #[.int .i64 0, .slice none 0 0, .int .i64 0, .int .i64 0, .int .i64 0, .int .i64 0]), 6, 64) := by kernel_rfl
theorem bl_refl (B : Nat) (W : World) : Below B W W = True := eq_true (Below.refl _ _)
theorem bl_drew (B : Nat) (W w1 : World) : Below B W w1.drew = Below B W w1 := propext ⟨fun h => ⟨h.os, h.tape, h.output, h.size, h.block⟩, fun h => h.drew⟩
theorem bl_alloc (W w1 : World) (o : Obj) (h : Below W.heap.size W w1) : Below W.heap.size W (w1.alloc o) = True := eq_true (below_al h o)
theorem keepx {W w' : World} {b : Nat} {x : Cmd} (hx : Blk W b 38 #[.int .i64 x.kind, .int .i64 x.group, .int .i64 x.shard]) (h : Below W.heap.size W w') :
    w'.cell? ⟨b, 0, none⟩ = some (.int .i64 x.kind) ∧ w'.cell? ⟨b, 1, none⟩ = some (.int .i64 x.group) ∧ w'.cell? ⟨b, 2, none⟩ = some (.int .i64 x.shard) := by
  have h2 := hx.below h hx.lt
  exact ⟨h2.cell 0, h2.cell 1, h2.cell 2⟩
theorem six_below {W w1 : World} {b : Nat} (h : Below W.heap.size W w1) (hb : W.heap.size ≤ b) (v0 v1 v2 v3 v4 v5 : Value) :
    Below W.heap.size W ((((((w1.setCell ⟨b, 0, none⟩ v0).setCell ⟨b, 1, none⟩ v1).setCell ⟨b, 2, none⟩ v2).setCell ⟨b, 3, none⟩ v3).setCell ⟨b, 4, none⟩ v4).setCell ⟨b, 5, none⟩ v5) :=
  (((((h.setCell hb _).setCell hb _).setCell hb _).setCell hb _).setCell hb _).setCell hb _

theorem bl_six (W w1 : World) (b : Nat) (v0 v1 v2 v3 v4 v5 : Value) (h : Below W.heap.size W w1) (hb : W.heap.size ≤ b) :
    Below W.heap.size W ((((((w1.setCell ⟨b, 0, none⟩ v0).setCell ⟨b, 1, none⟩ v1).setCell ⟨b, 2, none⟩ v2).setCell ⟨b, 3, none⟩ v3).setCell ⟨b, 4, none⟩ v4).setCell ⟨b, 5, none⟩ v5) = True := eq_true (six_below h hb _ _ _ _ _ _)
theorem blk6 {w : World} {b : Nat} {t : TypeId} {n0 : Int} {s0 : Value} {o0 : Own} (h : Blk w b t (cfgCells n0 s0 o0)) (n : Int) (s : Value) (o : Own) :
    Blk ((((((w.setCell ⟨b, 0, none⟩ (.int .i64 n)).setCell ⟨b, 1, none⟩ s).setCell ⟨b, 2, none⟩ (.int .i64 o.a)).setCell ⟨b, 3, none⟩ (.int .i64 o.b)).setCell ⟨b, 4, none⟩ (.int .i64 o.c)).setCell ⟨b, 5, none⟩ (.int .i64 o.d)) b t (cfgCells n s o) := by
  have h1 : Blk _ b t (cfgCells n s0 o0) := h.set_ 0 (.int .i64 n)
  have h2 : Blk _ b t (cfgCells n s o0) := h1.set_ 1 s
  have h3 : Blk _ b t (cfgCells n s ⟨o.a, o0.b, o0.c, o0.d⟩) := h2.set_ 2 (.int .i64 o.a)
  have h4 : Blk _ b t (cfgCells n s ⟨o.a, o.b, o0.c, o0.d⟩) := h3.set_ 3 (.int .i64 o.b)
  have h5 : Blk _ b t (cfgCells n s ⟨o.a, o.b, o.c, o0.d⟩) := h4.set_ 4 (.int .i64 o.c)
  exact h5.set_ 5 (.int .i64 o.d)
theorem six_own {w : World} {b base : Nat} {cs : Array Value} (h : Blk w b 46 cs) {s : Value} {n : Nat} {xs : List Value} (ho : w.ownsRow base 3 1 s n xs) (v0 v1 v2 v3 v4 v5 : Value) :
    ((((((w.setCell ⟨b, 0, none⟩ v0).setCell ⟨b, 1, none⟩ v1).setCell ⟨b, 2, none⟩ v2).setCell ⟨b, 3, none⟩ v3).setCell ⟨b, 4, none⟩ v4).setCell ⟨b, 5, none⟩ v5).ownsRow base 3 1 s n xs :=
  (((((((Chg.refl (fun i => i = b) w).setCell (fun _ => rfl) _).setCell (fun _ => rfl) _).setCell (fun _ => rfl) _).setCell (fun _ => rfl) _).setCell (fun _ => rfl) _).setCell (fun _ => rfl) _).owns ho (fun g hg e => own_blk_ne ho h (by decide) (by rw [hg, e]))

theorem blkB {w1 w2 : World} (h : Below (w1.alloc (.cells #[.int .i64 0, .slice none 0 0, .int .i64 0, .int .i64 0, .int .i64 0, .int .i64 0] 46)).heap.size (w1.alloc (.cells #[.int .i64 0, .slice none 0 0, .int .i64 0, .int .i64 0, .int .i64 0, .int .i64 0] 46)) w2) :
    Blk w2 w1.heap.size 46 (cfgCells 0 (.slice none 0 0) ⟨0, 0, 0, 0⟩) := Blk.below (Blk.new w1 _ _) h (by simp)
theorem blkC {W w2 : World} (h : Below (W.alloc (.cells #[.int .i64 0, .slice none 0 0, .int .i64 0, .int .i64 0, .int .i64 0, .int .i64 0] 46)).drew.heap.size (W.alloc (.cells #[.int .i64 0, .slice none 0 0, .int .i64 0, .int .i64 0, .int .i64 0, .int .i64 0] 46)).drew w2) :
    Blk w2 W.heap.size 46 (cfgCells 0 (.slice none 0 0) ⟨0, 0, 0, 0⟩) := Blk.below (Blk.new W _ _).drew h (by simp)

theorem do_append {base h : Nat} {v v2 : Value} {ps : List CfgV} {wc w2 : World} {o : Obj} (hp : ChnP base wc h v ps) (p : CfgV) (hpo : wc.ownsRow base 3 1 p.2 p.1.gs.length (ints p.1.gs)) (hok : checkB p.1 = true)
    (hg : (wc.drew.alloc o).grownBy w2 v.ownBlock) (ho : w2.ownsRow base 46 6 v2 (ps.length + 1) (cellsP ps ++ CfgV.cells p)) :
    ChnP base (w2.setCell ⟨h, 0, none⟩ v2) h v2 (ps ++ [p]) ∧ Chg (FDo h v) wc (w2.setCell ⟨h, 0, none⟩ v2) := by
  have hne : some h ≠ v.ownBlock := fun e => own_blk_ne hp.row hp.box (by decide) e.symm
  have hbox : Blk w2 h 105 #[v] := (hp.box.drew.alloc o).grown hg hne
  have hch : Chg (FDo h v) wc (w2.setCell ⟨h, 0, none⟩ v2) := ((((Chg.refl (FDo h v) wc).drew).alloc o).grown hg (fun k hk _ => .inr hk)).setCell (fun _ => .inl rfl) _
  have hint : ∀ q : CfgV, wc.ownsRow base 3 1 q.2 q.1.gs.length (ints q.1.gs) → (w2.setCell ⟨h, 0, none⟩ v2).ownsRow base 3 1 q.2 q.1.gs.length (ints q.1.gs) := fun q hq => hch.owns hq (fun k hk hF => by
    rcases hF with rfl | hF
    · exact own_blk_ne hq hp.box (by decide) hk
    · rcases hp.row.2 with ⟨_, h0⟩ | ⟨g', cap', cur', hv', _, hb', _⟩
      · have := hp.pos; omega
      · rw [hv'] at hF
        simp only [Value.ownBlock, Option.some.injEq] at hF
        subst hF
        exact own_blk_ne hq hb' (by decide) hk)
  refine ⟨⟨hbox.set_ 0 v2, ?_, ?_, ?_, by simp⟩, hch⟩
  · have := ((Chg.refl (fun i => i = h) w2).setCell (p := ⟨h, 0, none⟩) (fun _ => rfl) v2).owns ho (fun k hk e => own_blk_ne ho hbox (by decide) (by rw [hk, e]))
    rw [cellsP_append, List.length_append]
    simpa [cellsP] using this
  · intro q hq
    rcases List.mem_append.1 hq with hq | hq
    · exact hint q (hp.own q hq)
    · simp at hq; subst hq; exact hint q hpo
  · intro q hq
    rcases List.mem_append.1 hq with hq | hq
    · exact hp.ok q hq
    · simp at hq; subst hq; exact hok

/-- What holds behind 'c, e := Next(h.last(), x)'. -/
def DoMid (W : World) (r : Cfg × Int) (vc ve : Value) (wc : World) : Prop :=
  ∃ b s2, vc = .pointer (some ⟨b, 0, none⟩) ∧ ve = .int .i64 r.2 ∧ Below W.heap.size W wc ∧ W.heap.size ≤ b ∧ Blk wc b 46 (cfgCells r.1.num s2 r.1.o) ∧ wc.ownsRow W.heap.size 3 1 s2 r.1.gs.length (ints r.1.gs)

set_option maxHeartbeats 20000000 in
set_option maxRecDepth 100000 in
theorem do_any (base h : Nat) (v : Value) (ps : List CfgV) (x : Cmd) (w : World) (hp : ChnP base w h v ps) (h41 : ps.length ≤ 41) :
    Calls Tryz.prog 29 #[.pointer (some ⟨h, 0, none⟩), .agg #[.int .i64 x.kind, .int .i64 x.group, .int .i64 x.shard]] w (DoPost base h v ps x w) := by
  have hpos := hp.pos
  have hbw : base ≤ w.heap.size := by
    obtain ⟨g, c, _, hb, hg⟩ := hp.row.form hpos
    omega
  obtain ⟨m, hm⟩ : ∃ m, ps.length = m + 1 := ⟨ps.length - 1, by omega⟩
  have hk : m < ps.length := by omega
  have hget : Hid (ps[m]? = some ps[m]) := List.getElem?_eq_getElem hk
  have elast : (ps.map (·.1)).getLastD cfg0 = ps[m].1 := by
    rw [List.getLastD_eq_getLast?, List.getLast?_eq_getElem?, List.length_map, hm, Nat.add_sub_cancel, List.getElem?_map, List.getElem?_eq_getElem hk]; rfl
  have hdo : Hid (doS (ps.map (·.1)) x = if (nextS ps[m].1 x).2 ≠ 0 then (ps.map (·.1), (nextS ps[m].1 x).2) else if 40 < ps.length then (ps.map (·.1), 151) else (ps.map (·.1) ++ [(nextS ps[m].1 x).1], 0)) := by
    unfold Hid doS; rw [elast, List.length_map]
  have hg4 : ps[m].1.gs.length ≤ 4 := (check_bounds (hp.ok _ (List.getElem_mem hk))).2.2.1
  have hpW := hp.below ((Below.refl _ w).alloc (Nat.le_refl _) (.cells #[.int .i64 x.kind, .int .i64 x.group, .int .i64 x.shard] 38))
  have hxW : Blk (w.alloc (.cells #[.int .i64 x.kind, .int .i64 x.group, .int .i64 x.shard] 38)) w.heap.size 38 #[.int .i64 x.kind, .int .i64 x.group, .int .i64 x.shard] := Blk.new w _ _
  have hbW : Below w.heap.size w (w.alloc (.cells #[.int .i64 x.kind, .int .i64 x.group, .int .i64 x.shard] 38)) := (Below.refl _ w).alloc (Nat.le_refl _) _
  have HP := Lib.hid hpW
  have HX := Lib.hid hxW
  have HB := Lib.hid hbW
  have HM := Lib.hid hm
  have HPM := Lib.hid (List.getElem_mem hk)
  generalize hps : ps[m] = p at *
  clear hpW hxW hbW hp elast hps hm
  go_enter Tryz.func29, Tryz.ntmps29
  go_wp2_with fail
  generalize w.alloc (.cells #[.int .i64 x.kind, .int .i64 x.group, .int .i64 x.shard] 38) = W at *
  have hxlt : w.heap.size < W.heap.size := HX.out.lt
  go_upto_region 3 with fail
  have HNX : Hid (∀ w1 : World, Rd w1 w1.heap.size 1 p.2 p.1.gs.length (ints p.1.gs) → Calls Tryz.prog 43 #[.agg #[.int .i64 p.1.num, p.2, .int .i64 p.1.o.a, .int .i64 p.1.o.b, .int .i64 p.1.o.c, .int .i64 p.1.o.d], .agg #[.int .i64 x.kind, .int .i64 x.group, .int .i64 x.shard]] w1 fun e w' =>
      ∃ s', e = .returned (.tuple #[(nextS p.1 x).1.val s', .int .i64 (nextS p.1 x).2]) ∧ w'.ownsRow w1.heap.size 3 1 s' (nextS p.1 x).1.gs.length (ints (nextS p.1 x).1.gs) ∧ Below w1.heap.size w1 w') := fun w1 h => next_any p.1 x p.2 w1 h (by omega)
  have HOK : Hid ((nextS p.1 x).2 = 0 → checkB (nextS p.1 x).1 = true) := next_check
  generalize nextS p.1 x = r at *
  obtain ⟨⟨rn, rg, ro⟩, re⟩ := r
  simp only at HNX hdo HOK
  go_cut [5, 6] (fun vc ve wc => DoMid W (⟨rn, rg, ro⟩, re) vc ve wc)
  case first =>
    go_region_held3 (fun w' => w'.cell? ⟨w.heap.size, 0, none⟩ = some (.int .i64 x.kind) ∧ w'.cell? ⟨w.heap.size, 1, none⟩ = some (.int .i64 x.group) ∧ w'.cell? ⟨w.heap.size, 2, none⟩ = some (.int .i64 x.shard))
      ((refine keepx HX.out ?_; simp only [bl_drew, bl_alloc, bl_refl, bl_six, *, Nat.le_refl]))
      (first
        | (go_at_call 38; refine Calls.mono (last_any base h v ps m p _ (HP.out.below (by simp only [bl_drew, bl_alloc, bl_refl])) HM.out hget.out (by omega)) ?_; rintro e w1 ⟨rfl, hb1⟩; have hbl : Below W.heap.size W w1 := below_then (by simp only [bl_drew, bl_alloc, bl_refl]) hb1; have hls := hbl.size; (try (with_reducible have hzC := blkC hb1)); unfold Cfg.val)
        | (go_at_call 43; refine Calls.mono (HNX.out _ (Rd.of_own ((HP.out.below (by simp only [bl_drew, bl_alloc, hbl])).own p HPM.out))) ?_; rintro e w2 ⟨s2, rfl, hown2, hb2⟩; have hbl2 : Below W.heap.size W w2 := below_then (by simp only [bl_drew, bl_alloc, hbl]) hb2; have hls2 := hbl2.size; have hown3 := own_weaken (base' := W.heap.size) hown2 (by first | (with_reducible assumption) | (simp only [World.size_alloc]; omega)); obtain ⟨A2, c2, rfl⟩ := own_shape hown2; (try (with_reducible have hzB := blkB hb2)); (try (have hzB := hzC.below hb2 hzC.lt)); (try (obtain ⟨z0, z1, z2, z3, z4, z5⟩ := keep6 hzB (Below.refl _ _); have f0 := hzB.frozen 0; have f1 := hzB.frozen 1; have f2 := hzB.frozen 2; have f3 := hzB.frozen 3; have f4 := hzB.frozen 4; have f5 := hzB.frozen 5)); (try (have HZB := Lib.hid hzB; clear hzB)); (try (have HZC := Lib.hid hzC; clear hzC)); have HOWN3 := Lib.hid hown3; clear hown2 hown3; unfold Cfg.val))
    · go_wp2_with fail
      go_meet
      case rel => exact ⟨_, _, rfl, rfl, below_al hbl2 _, hls2, Blk.new w2 _ _, HOWN3.out.alloc _⟩
    · go_wp2_with fail
      go_meet
      case rel => exact ⟨_, _, rfl, rfl, six_below hbl2 hls _ _ _ _ _ _, hls, blk6 HZB.out rn _ ro, six_own HZB.out HOWN3.out _ _ _ _ _ _⟩
    · go_wp2_with fail
      go_meet
      case rel => exact ⟨_, _, rfl, rfl, six_below hbl2 (Nat.le_refl _) _ _ _ _ _ _, Nat.le_refl _, blk6 HZB.out rn _ ro, six_own HZB.out HOWN3.out _ _ _ _ _ _⟩
  case rest =>
    clear HNX
    obtain ⟨b, s2, rfl, rfl, hbW, hWb, hkb, hown⟩ := hcut
    obtain ⟨A2, c2, rfl⟩ := own_shape hown
    have hpc := HP.out.below hbW
    obtain ⟨g, cv, rfl, hbg, hglt⟩ := hpc.row.form hpos
    have b0 : wc.cell? ⟨h, 0, none⟩ = some (.slice (some ⟨g, 0, none⟩) ps.length cv) := hpc.box.cell 0
    have fb0 := hpc.box.frozen 0
    have hnc : ps.length ≤ cv := (own_form hpc.row).2.1
    have HB2 := Lib.hid (HB.out.trans (hbW.mono HB.out.size))
    have hw1 : w.heap.size ≤ W.heap.size := HB.out.size
    obtain ⟨k0, k1, k2, k3, k4, k5⟩ := keep6 hkb (Below.refl _ _)
    have HKB := Lib.hid hkb
    have HPC := Lib.hid hpc
    have HOWN := Lib.hid hown
    have hbW2 := hbW.size
    clear hkb hpc hown HP hbW
    cases hre : (re == 0) with
    | false =>
      have hre' : re ≠ 0 := by simpa using hre
      have hrn : (re != 0) = true := by simpa using hre'
      have hd : doS (ps.map (·.1)) x = (ps.map (·.1), re) := by rw [hdo.out, if_pos hre']
      have HD := Lib.hid hd
      clear hd hre'
      go_wp2_with fail
      go_ret
      exact ⟨_, ps, by rw [HD.out]; rfl, HPC.out, by rw [HD.out], Chg.of_below HB2.out, fun g hg => .inl hg⟩
    | true =>
      obtain rfl : re = 0 := by simpa using hre
      by_cases h40 : 40 < ps.length
      · have hd : doS (ps.map (·.1)) x = (ps.map (·.1), 151) := by rw [hdo.out, if_neg (by simp), if_pos h40]
        have HD := Lib.hid hd
        have h40' : (40 : Int) < (ps.length : Int) := by omega
        clear hd
        go_wp2_with fail
        go_ret
        exact ⟨_, ps, by rw [HD.out]; rfl, HPC.out, by rw [HD.out], Chg.of_below HB2.out, fun g hg => .inl hg⟩
      · have hd : doS (ps.map (·.1)) x = (ps.map (·.1) ++ [⟨rn, rg, ro⟩], 0) := by rw [hdo.out, if_neg (by simp), if_neg h40]
        have HD := Lib.hid hd
        have h40' : decide ((40 : Int) < (ps.length : Int)) = false := by rw [decide_eq_false_iff_not]; omega
        have h40n : ps.length ≤ 40 := by omega
        clear hd h40
        obtain ⟨i0, hi0, hz0, hz1, hz2⟩ := info_parts cfg_info
        have hH : h < wc.heap.size := HPC.out.box.lt
        have hne1 : Hid (some h ≠ (Value.slice (some ⟨g, 0, none⟩) ps.length cv).ownBlock) := fun e => own_blk_ne HPC.out.row HPC.out.box (by decide) e.symm
        have hone : Hid (∀ u ∈ CfgV.cells (⟨rn, rg, ro⟩, .slice A2 rg.length c2), u.oneCell' = true) := by intro u hu; simp [CfgV.cells, cfgCells] at hu; rcases hu with rfl | rfl | rfl | rfl | rfl | rfl <;> rfl
        have HO : Hid (∀ (o : Obj), (wc.drew.alloc o).ownsRow base 46 6 (.slice (some ⟨g, 0, none⟩) ps.length cv) ps.length (cellsP ps)) := fun o => World.ownsRow.alloc (w := wc.drew) HPC.out.row o
        have hbase : base ≤ wc.heap.size := by omega
        go_wp2_with fail
        go_region_law ((refine step_append_lies _ (by rfl) (.tmp 31) (.tmp 33) _ (by rfl) base 46 i0 _ 6 64 Tryz.underlying103 hi0 hz0 hz1 hz2 (by rfl) (by omega) (.slice (some ⟨g, 0, none⟩) ps.length cv) ps.length (cellsP ps) (by simp [Act.eval]) (HO.out _) ⟨wc.heap.size, 0, none⟩ 1 1 (CfgV.cells (⟨rn, rg, ro⟩, .slice A2 rg.length c2)) (by simp [Act.eval]) (by rfl) (World.news_of_block (heap_alloc_new _ _)) hone.out (by omega) (by unfold maxLen; omega) (by omega) (by simp; omega) (wc.heap.size + 1) (by simp) ?_; intro g2 cap2 w2 hown2 hg2 hat2 hlt2; have hc2 := (hg2.cell_far ⟨h, 0, none⟩ (by simp; omega) hne1.out).trans ((World.cell?_alloc_lt _ _ _ (by simp; omega)).trans b0); have hf2 := (hg2.frozen_far ⟨h, 0, none⟩ (by simp; omega) hne1.out).trans ((World.frozen?_alloc_old _ _ _ (by simp; omega)).trans fb0)))
        all_goals
          have hcc := Lib.hid (do_append HPC.out (⟨rn, rg, ro⟩, .slice A2 rg.length c2) (own_weaken HOWN.out (by omega)) (HOK.out trivial) hg2 hown2)
          have hnew : Hid (∀ k, (Value.slice (some ⟨g2, 0, none⟩) (ps.length + 1) cap2).ownBlock = some k → (Value.slice (some ⟨g, 0, none⟩) ps.length cv).ownBlock = some k ∨ w.heap.size ≤ k) := by
            intro k hk
            simp only [Value.ownBlock, Option.some.injEq] at hk
            subst hk
            rcases hat2 with hh | hh
            · exact .inl hh
            · exact .inr (by omega)
          clear hat2 hlt2 hg2 hown2
          go_wp2_with fail
          go_ret
          exact ⟨_, _, by rw [HD.out]; rfl, hcc.out.1, by rw [HD.out]; simp, (Chg.of_below HB2.out).trans hcc.out.2 (fun _ _ h => h), hnew.out⟩

end Go.Proofs.YtijacbnoemjgcaaGreatDoor
