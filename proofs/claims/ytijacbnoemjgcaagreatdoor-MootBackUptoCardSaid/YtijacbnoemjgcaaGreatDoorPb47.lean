/- The document's moot: its chain; a command taken. -/
import Derived.Test.YtijacbnoemjgcaaGreatDoorPb45
import Derived.Test.YtijacbnoemjgcaaGreatDoorPb46
set_option linter.unusedVariables false
set_option linter.unusedSimpArgs false
set_option linter.unnecessarySimpa false
namespace Go.Proofs.YtijacbnoemjgcaaGreatDoor
open Go.RowKit Go.Shelf

/-- Blocks of the document's moot, from base on. -/
def RMine (base : Nat) (w : World) (i : Nat) : Prop := base ≤ i ∧ ∃ t cs, Blk w i t cs ∧ (t = 30 ∨ t = 68 ∨ t = 71)
theorem rm_trans {base : Nat} {w w1 w2 : World} (h : Chg (RMine base w) w w1) (k : Chg (RMine base w1) w1 w2) : Chg (RMine base w) w w2 := h.trans k (fun i hi hF => by
  by_cases hm : RMine base w i
  · exact hm
  · obtain ⟨hb, t, cs, hk, ht⟩ := hF
    exact ⟨hb, t, cs, (h.block i hi hm).symm.trans hk, ht⟩)
theorem rm_below {base : Nat} {w w' : World} (h : Below w.heap.size w w') : Chg (RMine base w) w w' := Chg.of_below h
theorem rm_low {base : Nat} {w w' : World} (h : Chg (RMine base w) w w') (hb : base ≤ w.heap.size) : Below base w w' := h.to_below (fun i hi hF => by have := hF.1; omega) hb
theorem rcmd_info : (Tryz.prog.info? 68).map (fun i => (i.zero, i.size, i.bytes)) = some (some (.agg #[.int .i64 0, .int .i64 0, .int .i64 0]), 3, 24) := by kernel_rfl

set_option maxHeartbeats 2000000 in
set_option maxRecDepth 100000 in
theorem rchain_any (base b : Nat) (lv cv : Value) (L : List Cmd) (C : List Cli) (w : World) (hp : RMtP base w b lv cv L C) (hL : L.length ≤ 1000) :
    Calls Tryz.prog 32 #[.pointer (some ⟨b, 0, none⟩)] w fun e w' => ∃ v' ps', e = .returned v' ∧ RowP w.heap.size w' v' ps' ∧ ps'.map (·.1) = runS L ∧ Below w.heap.size w w' := by
  have b0 : w.cell? ⟨b, 0, none⟩ = some lv := hp.box.cell 0
  have hR := run_any L lv w (Rd.of_own hp.row) hL
  obtain ⟨Al, cl, rfl⟩ := own_shape hp.row
  clear hp
  go_enter Tryz.func32, Tryz.ntmps32
  go_wp2_with fail
  refine hR.mono ?_
  rintro e w1 ⟨v', ps', rfl, hrow, hmap, hb⟩
  have HM := Lib.hid hmap
  obtain ⟨A', c', rfl⟩ := own_shape hrow.row
  clear hmap hR
  go_wp2
  go_ret
  exact ⟨_, ps', rfl, hrow, HM.out, hb⟩

/-- What Take leaves. -/
def RTake (base : Nat) (w : World) (b : Nat) (cv : Value) (L : List Cmd) (C : List Cli) (x : Cmd) (e : Ending) (w' : World) : Prop :=
  ∃ lv', e = .returned (.int .i64 (doS (runS L) x).2) ∧ RMtP base w' b lv' cv (tkS (runS L) L x) C ∧ Chg (RMine base w) w w'
theorem RMtP.append {base b : Nat} {w w4 : World} {lv cv lv' : Value} {L : List Cmd} {C : List Cli} {o : Obj} (h : RMtP base w b lv cv L C) (x : Cmd)
    (hg : (w.alloc o).grownBy w4 lv.ownBlock) (ho : w4.ownsRow base 68 3 lv' (L.length + 1) (cellsX L ++ Cmd.cells x)) :
    RMtP base (w4.setCell ⟨b, 0, none⟩ lv') b lv' cv (L ++ [x]) C ∧ Chg (RMine base w) w (w4.setCell ⟨b, 0, none⟩ lv') ∧ w4.cell? ⟨b, 0, none⟩ = some lv ∧ w4.frozen? ⟨b, 0, none⟩ = false := by
  have hne : some b ≠ lv.ownBlock := fun e => own_blk_ne h.row h.box (by decide) e.symm
  have hbox : Blk w4 b 30 #[lv, cv] := (h.box.alloc o).grown hg hne
  have hch : Chg (fun i => i = b ∨ lv.ownBlock = some i) w (w4.setCell ⟨b, 0, none⟩ lv') := (((Chg.refl (fun i => i = b ∨ lv.ownBlock = some i) w).alloc o).grown hg (fun k hk _ => .inr hk)).setCell (p := ⟨b, 0, none⟩) (fun _ => .inl rfl) lv'
  refine ⟨⟨hbox.set_ 0 lv', ?_, ?_, h.hb⟩, hch.mono (fun i hi hF => ?_), hbox.cell 0, hbox.frozen 0⟩
  · have := ((Chg.refl (fun i => i = b) w4).setCell (p := ⟨b, 0, none⟩) (fun _ => rfl) lv').owns ho (fun k hk e => own_blk_ne ho hbox (by decide) (by rw [hk, e]))
    rw [cellsX_append, List.length_append]
    simpa [cellsX] using this
  · refine hch.owns h.cli (fun k hk hF => ?_)
    rcases hF with rfl | hF
    · exact own_blk_ne h.cli h.box (by decide) hk
    · rcases h.row.2 with ⟨hv, _⟩ | ⟨g', cap', cur', hv', _, hb', _⟩
      · rw [hv] at hF; simp [Value.ownBlock] at hF
      · rw [hv'] at hF
        simp only [Value.ownBlock, Option.some.injEq] at hF
        subst hF
        exact own_blk_ne h.cli hb' (by decide) hk
  · rcases hF with rfl | hF
    · exact ⟨h.hb, _, _, h.box, .inl rfl⟩
    · refine ⟨(h.row.lt i hF).1, ?_⟩
      rcases h.row.2 with ⟨hv, _⟩ | ⟨g', cap', cur', hv', _, hb', _⟩
      · rw [hv] at hF; simp [Value.ownBlock] at hF
      · rw [hv'] at hF
        simp only [Value.ownBlock, Option.some.injEq] at hF
        subst hF
        exact ⟨_, _, hb', .inr (.inl rfl)⟩

set_option maxHeartbeats 4000000 in
set_option maxRecDepth 100000 in
theorem rmtake_any (base b : Nat) (lv cv : Value) (L : List Cmd) (C : List Cli) (x : Cmd) (w : World) (hp : RMtP base w b lv cv L C) (hL : L.length ≤ 999) :
    Calls Tryz.prog 18 #[.pointer (some ⟨b, 0, none⟩), .agg #[.int .i64 x.kind, .int .i64 x.group, .int .i64 x.shard]] w (RTake base w b cv L C x) := by
  have hb0 := (Below.refl w.heap.size w).alloc (Nat.le_refl _) (.cells #[.int .i64 x.kind, .int .i64 x.group, .int .i64 x.shard] 68)
  have hx0 := Blk.new w 68 #[.int .i64 x.kind, .int .i64 x.group, .int .i64 x.shard]
  have hC0 := rchain_any base b lv cv L C _ (hp.below hb0) (by omega)
  have hbase : base ≤ w.heap.size := by have := hp.box.lt; have := hp.hb; omega
  have HP := Lib.hid hp
  have HB0 := Lib.hid hb0
  have HX0 := Lib.hid hx0
  clear hp hb0 hx0
  unfold RTake
  go_enter Tryz.func18, Tryz.ntmps18
  go_wp2_with fail
  refine hC0.mono ?_
  rintro e W ⟨v', ps, rfl, hrow, hmap, hb1⟩
  have HB := Lib.hid (HB0.out.trans (hb1.mono HB0.out.size))
  have HX := Lib.hid (HX0.out.below hb1 HX0.out.lt)
  have HPW := Lib.hid (HP.out.below HB.out)
  have hpos := hrow.pos
  obtain ⟨m, hmm⟩ : ∃ m, ps.length = m + 1 := ⟨ps.length - 1, by omega⟩
  have hml : m < ps.length := by omega
  have hlen := (runS_len L).1
  rw [← hmap, List.length_map] at hlen
  have hget : Hid (ps[m]? = some ps[m]) := List.getElem?_eq_getElem hml
  have elast : (ps.map (·.1)).getLastD cfg0 = ps[m].1 := by
    rw [List.getLastD_eq_getLast?, List.getLast?_eq_getElem?, List.length_map, hmm, Nat.add_sub_cancel, List.getElem?_map, List.getElem?_eq_getElem hml]; rfl
  have hdo : Hid (doS (runS L) x = if (nextS ps[m].1 x).2 ≠ 0 then (ps.map (·.1), (nextS ps[m].1 x).2) else if 40 < ps.length then (ps.map (·.1), 151) else (ps.map (·.1) ++ [(nextS ps[m].1 x).1], 0)) := by
    unfold Hid; rw [← hmap, doS_is, elast, List.length_map]
  have hg4 : ps[m].1.gs.length ≤ 4 := (check_bounds (hrow.ok _ (List.getElem_mem hml))).2.2.1
  have HPM := Lib.hid (List.getElem_mem hml)
  have HTK : Hid (tkS (runS L) L x = if (doS (runS L) x).2 = 0 then L ++ [x] else L) := rfl
  generalize hps : ps[m] = p at *
  clear hps elast hmap hC0 hb1 HB0 HX0 HP
  obtain ⟨cf, sv⟩ := p
  have HROW := Lib.hid hrow
  obtain ⟨As, cs, hsv⟩ := own_shape (hrow.own _ HPM.out)
  simp only at hsv hg4 hdo
  subst hsv
  obtain ⟨gv, cv', rfl, hbg, hgv⟩ := hrow.row.form hpos
  have hcvn : ps.length ≤ cv' := (own_form hrow.row).2.1
  rw [hmm]
  rw [hmm] at hlen hcvn hdo hpos
  have HPm : Hid (RowP (w.alloc (.cells #[.int .i64 x.kind, .int .i64 x.group, .int .i64 x.shard] 68)).heap.size W (.slice (some ⟨gv, 0, none⟩) (m + 1) cv') ps) := by rw [← hmm]; exact HROW.out
  have HRN : Hid (∀ w1 : World, Rd w1 w1.heap.size 1 (.slice As cf.gs.length cs) cf.gs.length (ints cf.gs) → Calls Tryz.prog 33 #[.agg #[.int .i64 cf.num, .slice As cf.gs.length cs, .int .i64 cf.o.a, .int .i64 cf.o.b, .int .i64 cf.o.c, .int .i64 cf.o.d], .agg #[.int .i64 x.kind, .int .i64 x.group, .int .i64 x.shard]] w1 fun e w' =>
    ∃ s', e = .returned (.tuple #[(nextS cf x).1.val s', .int .i64 (nextS cf x).2]) ∧ w'.ownsRow w1.heap.size 3 1 s' (nextS cf x).1.gs.length (ints (nextS cf x).1.gs) ∧ Below w1.heap.size w1 w') := fun w1 h => rnext_any cf x _ w1 h (by omega)
  have HRX : Hid (∀ W' : World, Below W.heap.size W W' → Rd W' W'.heap.size 1 (.slice As cf.gs.length cs) cf.gs.length (ints cf.gs)) := fun W' h => Rd.of_own ((HROW.out.below h).own _ HPM.out)
  generalize nextS cf x = r at *
  obtain ⟨⟨rn, rg, ro⟩, re⟩ := r
  simp only at HRN hdo
  have hsub : IntKind.i64.wrap (m : Int) = (m : Int) := by rw [IntKind.wrap_i64]; omega
  have hm0 : (0 : Int) ≤ (m : Int) := by omega
  have hm1 : (m : Int) < (m : Int) + 1 := by omega
  have hmm2 := Lib.hid hmm
  have hwW := HB.out.size
  clear hrow hmm hml
  go_upto_region 2 with fail
  go_cut [7] (fun ve wc => ve = .int .i64 re ∧ Below W.heap.size W wc)
  case first =>
    go_region_held3 (fun w' => w'.cell? ⟨w.heap.size, 0, none⟩ = some (.int .i64 x.kind) ∧ w'.cell? ⟨w.heap.size, 1, none⟩ = some (.int .i64 x.group) ∧ w'.cell? ⟨w.heap.size, 2, none⟩ = some (.int .i64 x.shard) ∧
      w'.cell? ⟨gv, m * 6, none⟩ = some (.int .i64 cf.num) ∧ w'.cell? ⟨gv, m * 6 + 1, none⟩ = some (.slice As cf.gs.length cs) ∧ w'.cell? ⟨gv, m * 6 + 2, none⟩ = some (.int .i64 cf.o.a) ∧ w'.cell? ⟨gv, m * 6 + 3, none⟩ = some (.int .i64 cf.o.b) ∧ w'.cell? ⟨gv, m * 6 + 4, none⟩ = some (.int .i64 cf.o.c) ∧ w'.cell? ⟨gv, m * 6 + 5, none⟩ = some (.int .i64 cf.o.d))
      ((refine keepr HX.out HPm.out ⟨_, _, rfl⟩ hget.out ?_; simp only [bl_drew, bl_alloc, bl_refl, bl_six, *, Nat.le_refl]))
      ((go_at_call 33; refine Calls.mono (HRN.out _ (HRX.out _ (by simp only [bl_drew, bl_alloc, bl_refl]))) ?_; rintro e w3 ⟨s3, rfl, hown3, hb3⟩; have hbl2 : Below W.heap.size W w3 := below_then (by simp only [bl_drew, bl_alloc, bl_refl]) hb3; have hls2 := hbl2.size; obtain ⟨A3, c3, rfl⟩ := own_shape hown3; (try (with_reducible have hzB := rblkC hb3)); (try (obtain ⟨z0, z1, z2, z3, z4, z5⟩ := keep6 hzB (Below.refl _ _); have f0 := hzB.frozen 0; have f1 := hzB.frozen 1; have f2 := hzB.frozen 2; have f3 := hzB.frozen 3; have f4 := hzB.frozen 4; have f5 := hzB.frozen 5)); (try (have HZB := Lib.hid hzB; clear hzB)); clear hown3; unfold Cfg.val))
    · go_wp2_with fail
      go_meet
      case rel => exact ⟨rfl, below_al hbl2 _⟩
    · go_wp2_with fail
      go_meet
      case rel => exact ⟨rfl, six_below hbl2 (Nat.le_refl _) _ _ _ _ _ _⟩
  case rest =>
    obtain ⟨rfl, hbl⟩ := hcut
    have HPC := Lib.hid (HPW.out.below hbl)
    have HXC := Lib.hid (HX.out.below hbl HX.out.lt)
    have HBC := Lib.hid (HB.out.trans (hbl.mono hwW))
    clear hbl HRN HRX HPm HROW HX HB HPW
    cases hre : (re == 0) with
    | false =>
      have hre' : re ≠ 0 := by simpa using hre
      have he : Hid ((doS (runS L) x).2 = re) := by unfold Hid; rw [hdo.out, if_pos hre']
      have ht : Hid (tkS (runS L) L x = L) := by unfold Hid; rw [HTK.out, he.out, if_neg hre']
      clear hre' HTK hdo
      go_wp2_with fail
      go_ret
      exact ⟨lv, by rw [he.out]; rfl, by rw [ht.out]; exact HPC.out, rm_below HBC.out⟩
    | true =>
      obtain rfl : re = 0 := by simpa using hre
      by_cases h40 : 40 < m + 1
      · have he : Hid ((doS (runS L) x).2 = 151) := by unfold Hid; rw [hdo.out, if_neg (by simp), if_pos h40]
        have ht : Hid (tkS (runS L) L x = L) := by unfold Hid; rw [HTK.out, he.out, if_neg (by omega)]
        have hd : decide ((m : Int) + 1 ≤ 40) = false := by rw [decide_eq_false_iff_not]; omega
        have hd2 : (40 : Int) < (m : Int) + 1 := by omega
        clear HTK hdo h40
        go_wp2_with fail
        go_ret
        exact ⟨lv, by rw [he.out]; rfl, by rw [ht.out]; exact HPC.out, rm_below HBC.out⟩
      · have he : Hid ((doS (runS L) x).2 = 0) := by unfold Hid; rw [hdo.out, if_neg (by simp), if_neg h40]
        have ht : Hid (tkS (runS L) L x = L ++ [x]) := by unfold Hid; rw [HTK.out, he.out, if_pos rfl]
        have hd : decide ((40 : Int) < (m : Int) + 1) = false := by rw [decide_eq_false_iff_not]; omega
        clear HTK hdo h40
        obtain ⟨i0, hi0, hz0, hz1, hz2⟩ := info_parts rcmd_info
        obtain ⟨Al, cl, rfl⟩ := own_shape HPC.out.row
        have y0 := HXC.out.cell 0
        have y1 := HXC.out.cell 1
        have y2 := HXC.out.cell 2
        have b0 : wc.cell? ⟨b, 0, none⟩ = some (.slice Al L.length cl) := HPC.out.box.cell 0
        have fb0 := HPC.out.box.frozen 0
        have hblt : b < wc.heap.size := HPC.out.box.lt
        have hone : Hid (∀ u ∈ Cmd.cells x, u.oneCell' = true) := by intro u hu; simp [Cmd.cells] at hu; rcases hu with rfl | rfl | rfl <;> rfl
        have HO : Hid (∀ (o : Obj), (wc.drew.alloc o).ownsRow base 68 3 (.slice Al L.length cl) L.length (cellsX L)) := fun o => World.ownsRow.alloc (w := wc.drew) HPC.out.row o
        have HAP : Hid (∀ w4 lv' o, (wc.alloc o).grownBy w4 (Value.slice Al L.length cl).ownBlock → w4.ownsRow base 68 3 lv' (L.length + 1) (cellsX L ++ Cmd.cells x) → _) := fun w4 lv' o hg ho => HPC.out.append x hg ho
        have hbase2 : base ≤ wc.heap.size := Nat.le_trans hbase HBC.out.size
        generalize hLL : cellsX L = LL at *
        have HLL := Lib.hid hLL
        clear hLL
        go_wp2_with fail
        go_region_law ((refine step_append_lies _ (by rfl) (.tmp 31) (.tmp 33) _ (by rfl) base 68 i0 _ 3 24 Tryz.underlying27 hi0 hz0 hz1 hz2 (by rfl) (by omega) (.slice Al L.length cl) L.length LL (by simp [Act.eval]) (HO.out _) ⟨wc.heap.size, 0, none⟩ 1 1 (Cmd.cells x) (by simp [Act.eval]) (by rfl) (World.news_of_block (heap_alloc_new _ _)) hone.out (by omega) (by unfold maxLen; omega) (by omega) (by simp; omega) (wc.heap.size + 1) (by simp) ?_; intro g2 cap2 w4 hown4 hg4 hat4 hlt4; have hap := HAP.out w4 _ (.cells #[.int .i64 x.kind, .int .i64 x.group, .int .i64 x.shard] 68) ⟨hg4.os, hg4.tape, hg4.output, hg4.size, hg4.block⟩ hown4; have hc4 := hap.2.2.1; have hf4 := hap.2.2.2))
        all_goals
          have HAP2 := Lib.hid (And.intro hap.1 hap.2.1)
          clear hat4 hlt4 hg4 hown4 hap HAP
          go_wp2_with fail
          go_ret
          exact ⟨_, by rw [he.out]; rfl, by rw [ht.out]; exact HAP2.out.1, rm_trans (rm_below HBC.out) HAP2.out.2⟩

end Go.Proofs.YtijacbnoemjgcaaGreatDoor
