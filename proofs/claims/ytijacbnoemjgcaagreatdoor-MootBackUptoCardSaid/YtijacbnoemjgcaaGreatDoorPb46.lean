/- The reference's Run. -/
import Derived.Test.YtijacbnoemjgcaaGreatDoorPb45
set_option linter.unusedVariables false
set_option linter.unusedSimpArgs false
set_option linter.unnecessarySimpa false
namespace Go.Proofs.YtijacbnoemjgcaaGreatDoor
open Go.RowKit Go.Shelf

def RunAt (base : Nat) (w : World) (l : List Cmd) (k : Nat) (v : Value) (wr : World) : Prop := ∃ ps, RowP base wr v ps ∧ ps.map (·.1) = runS (l.take k) ∧ Below base w wr

set_option maxHeartbeats 4000000 in
set_option maxRecDepth 100000 in
theorem run_any (l : List Cmd) (v : Value) (w : World) (hr : Rd w w.heap.size 3 v l.length (cellsX l)) (hm : l.length ≤ 1000) :
    Calls Tryz.prog 44 #[v] w fun e w' => ∃ v' ps', e = .returned v' ∧ RowP w.heap.size w' v' ps' ∧ ps'.map (·.1) = runS l ∧ Below w.heap.size w w' := by
  have HR := Lib.hid hr
  obtain ⟨_, A, cc, rfl, hncc, _⟩ := hr
  have hstart : Hid (RunAt w.heap.size w l 0 (.slice (some ⟨w.heap.size, 0, none⟩) 1 1) (w.alloc (.cells #[.int .i64 0, .slice none 0 0, .int .i64 0, .int .i64 0, .int .i64 0, .int .i64 0] 92))) := by
    refine ⟨[(cfg0, .slice none 0 0)], ⟨?_, ?_, ?_, by simp⟩, rfl, (Below.refl _ _).alloc (Nat.le_refl _) _⟩
    · exact ⟨by simp [cellsP, CfgV.cells, cfgCells], .inr ⟨w.heap.size, 1, #[.int .i64 0, .slice none 0 0, .int .i64 0, .int .i64 0, .int .i64 0, .int .i64 0], rfl, Nat.le_refl _, heap_alloc_new w _, by simp, by unfold maxLen; omega, by simp, by simp [cellsP, CfgV.cells, cfgCells, cfg0]⟩⟩
    · intro p hp
      simp at hp
      subst hp
      exact World.ownsRow_nil _ _ _ _
    · intro p hp
      simp at hp
      subst hp
      rfl
  go_enter Tryz.func44, Tryz.ntmps44
  go_wp2
  go_loopw [3, 12] (fun v i wr => ∃ k : Nat, k ≤ l.length ∧ i = .int .i64 k ∧ RunAt w.heap.size w l k v wr) (fun _ i _ => l.length - (intOf i).toNat)
  case atStart => exact ⟨0, Nat.zero_le _, rfl, hstart.out⟩
  case round =>
    obtain ⟨k, hk, rfl, ps, hp, hrun, hbw⟩ := hrel
    clear hstart
    by_cases hlt : k < l.length
    · obtain ⟨g0, off0, c0, hV, hg0, x0, x1, x2⟩ := rd_cmd HR.out hlt
      injection hV with hA _ hcc
      subst hA hcc
      have y0 := (hbw.cell (p := ⟨g0, off0 + k * 3, none⟩) hg0).trans x0
      have y1 := (hbw.cell (p := ⟨g0, off0 + k * 3 + 1, none⟩) hg0).trans x1
      have y2 := (hbw.cell (p := ⟨g0, off0 + k * 3 + 2, none⟩) hg0).trans x2
      have hk0 : (0 : Int) ≤ (k : Int) := by omega
      have hk1 : (k : Int) < (l.length : Int) := by omega
      have hnx : Hid (runS (l.take (k + 1)) = (doS (runS (l.take k)) l[k]).1) := runS_take l k hlt
      have hlen := runS_len (l.take k)
      rw [← hrun, List.length_map] at hlen
      clear x0 x1 x2
      generalize l[k] = x at *
      have hpos := hp.pos
      obtain ⟨m, hmm⟩ : ∃ m, ps.length = m + 1 := ⟨ps.length - 1, by omega⟩
      have hml : m < ps.length := by omega
      have hget : Hid (ps[m]? = some ps[m]) := List.getElem?_eq_getElem hml
      have elast : (ps.map (·.1)).getLastD cfg0 = ps[m].1 := by
        rw [List.getLastD_eq_getLast?, List.getLast?_eq_getElem?, List.length_map, hmm, Nat.add_sub_cancel, List.getElem?_map, List.getElem?_eq_getElem hml]; rfl
      have hdo : Hid ((doS (ps.map (·.1)) x).1 = if (nextS ps[m].1 x).2 ≠ 0 then ps.map (·.1) else if 40 < ps.length then ps.map (·.1) else ps.map (·.1) ++ [(nextS ps[m].1 x).1]) := by
        unfold Hid doS; rw [elast, List.length_map]; split
        · rfl
        · split <;> rfl
      have hg4 : ps[m].1.gs.length ≤ 4 := (check_bounds (hp.ok _ (List.getElem_mem hml))).2.2.1
      have HPM := Lib.hid (List.getElem_mem hml)
      generalize hps : ps[m] = p at *
      clear hps elast
      obtain ⟨cf, sv⟩ := p
      obtain ⟨As, cs, hsv⟩ := own_shape (hp.own _ HPM.out)
      simp only at hsv hg4
      subst hsv
      have HRN : Hid (∀ w1 : World, Rd w1 w1.heap.size 1 (.slice As cf.gs.length cs) cf.gs.length (ints cf.gs) → Calls Tryz.prog 33 #[.agg #[.int .i64 cf.num, .slice As cf.gs.length cs, .int .i64 cf.o.a, .int .i64 cf.o.b, .int .i64 cf.o.c, .int .i64 cf.o.d], .agg #[.int .i64 x.kind, .int .i64 x.group, .int .i64 x.shard]] w1 fun e w' =>
        ∃ s', e = .returned (.tuple #[(nextS cf x).1.val s', .int .i64 (nextS cf x).2]) ∧ w'.ownsRow w1.heap.size 3 1 s' (nextS cf x).1.gs.length (ints (nextS cf x).1.gs) ∧ Below w1.heap.size w1 w') := fun w1 h => rnext_any cf x _ w1 h (by omega)
      have HOK : Hid ((nextS cf x).2 = 0 → checkB (nextS cf x).1 = true) := next_check
      simp only at hdo
      generalize nextS cf x = r at *
      obtain ⟨⟨rn, rg, ro⟩, re⟩ := r
      simp only at HRN hdo HOK
      -- the box of x
      have hpW := hp.below ((Below.refl _ wr).alloc (Nat.le_refl _) (.cells #[.int .i64 x.kind, .int .i64 x.group, .int .i64 x.shard] 68))
      have hxW : Blk (wr.alloc (.cells #[.int .i64 x.kind, .int .i64 x.group, .int .i64 x.shard] 68)) wr.heap.size 68 #[.int .i64 x.kind, .int .i64 x.group, .int .i64 x.shard] := Blk.new wr _ _
      have hbW := hbw.alloc hbw.size (.cells #[.int .i64 x.kind, .int .i64 x.group, .int .i64 x.shard] 68)
      have HP := Lib.hid hpW
      have HX := Lib.hid hxW
      have HB := Lib.hid hbW
      have HRUN := Lib.hid hrun
      obtain ⟨gv, cv, rfl, hbg, hgv⟩ := hpW.row.form hpos
      clear hpW hxW hbW hp hbw hrun
      go_upto_region 5 with fail
      clear y0 y1 y2
      generalize wr.heap.size = bx at *
      generalize wr.alloc (.cells #[.int .i64 x.kind, .int .i64 x.group, .int .i64 x.shard] 68) = W at *
      have hcvn : ps.length ≤ cv := (own_form HP.out.row).2.1
      have HPm : Hid (RowP w.heap.size W (.slice (some ⟨gv, 0, none⟩) (m + 1) cv) ps) := by have := HP.out; rw [hmm] at this; exact this
      have hcvm : m + 1 ≤ cv := by omega
      rw [hmm]
      have hsub : IntKind.i64.wrap (m : Int) = (m : Int) := by rw [IntKind.wrap_i64]; omega
      have hm0 : (0 : Int) ≤ (m : Int) := by omega
      have hm1 : (m : Int) < (m : Int) + 1 := by omega
      have HRX : Hid (∀ W' : World, Below W.heap.size W W' → Rd W' W'.heap.size 1 (.slice As cf.gs.length cs) cf.gs.length (ints cf.gs)) := fun W' h => Rd.of_own ((HP.out.below h).own _ HPM.out)
      go_cut [6, 7] (fun vc ve wc => NxMid W (⟨rn, rg, ro⟩, re) vc ve wc)
      case first =>
        go_region_held3 (fun w' => w'.cell? ⟨bx, 0, none⟩ = some (.int .i64 x.kind) ∧ w'.cell? ⟨bx, 1, none⟩ = some (.int .i64 x.group) ∧ w'.cell? ⟨bx, 2, none⟩ = some (.int .i64 x.shard) ∧
          w'.cell? ⟨gv, m * 6, none⟩ = some (.int .i64 cf.num) ∧ w'.cell? ⟨gv, m * 6 + 1, none⟩ = some (.slice As cf.gs.length cs) ∧ w'.cell? ⟨gv, m * 6 + 2, none⟩ = some (.int .i64 cf.o.a) ∧ w'.cell? ⟨gv, m * 6 + 3, none⟩ = some (.int .i64 cf.o.b) ∧ w'.cell? ⟨gv, m * 6 + 4, none⟩ = some (.int .i64 cf.o.c) ∧ w'.cell? ⟨gv, m * 6 + 5, none⟩ = some (.int .i64 cf.o.d))
          ((refine keepr HX.out HPm.out ⟨_, _, rfl⟩ hget.out ?_; simp only [bl_drew, bl_alloc, bl_refl, bl_six, *, Nat.le_refl]))
          ((go_at_call 33; refine Calls.mono (HRN.out _ (HRX.out _ (by simp only [bl_drew, bl_alloc, bl_refl]))) ?_; rintro e w3 ⟨s3, rfl, hown3, hb3⟩; have hbl2 : Below W.heap.size W w3 := below_then (by simp only [bl_drew, bl_alloc, bl_refl]) hb3; have hls2 := hbl2.size; have hown4 := own_weaken (base' := W.heap.size) hown3 (by simp); obtain ⟨A3, c3, rfl⟩ := own_shape hown3; (try (with_reducible have hzB := rblkC hb3)); (try (obtain ⟨z0, z1, z2, z3, z4, z5⟩ := keep6 hzB (Below.refl _ _); have f0 := hzB.frozen 0; have f1 := hzB.frozen 1; have f2 := hzB.frozen 2; have f3 := hzB.frozen 3; have f4 := hzB.frozen 4; have f5 := hzB.frozen 5)); (try (have HZB := Lib.hid hzB; clear hzB)); have HOWN3 := Lib.hid hown4; clear hown3 hown4; unfold Cfg.val))
        · go_wp2_with fail
          go_meet
          case rel => exact ⟨_, _, rfl, rfl, below_al hbl2 _, hls2, Blk.new w3 _ _, HOWN3.out.alloc _⟩
        · go_wp2_with fail
          go_meet
          case rel => exact ⟨_, _, rfl, rfl, six_below hbl2 (Nat.le_refl _) _ _ _ _ _ _, Nat.le_refl _, blk6 HZB.out rn _ ro, rsix_own HZB.out HOWN3.out _ _ _ _ _ _⟩
      case rest =>
        clear HRN HRX
        obtain ⟨b, s2, rfl, rfl, hbW, hWb, hkb, hown⟩ := hcut
        obtain ⟨A2, c2, rfl⟩ := own_shape hown
        obtain ⟨k0, k1, k2, k3, k4, k5⟩ := keep6 hkb (Below.refl _ _)
        have HPC := Lib.hid (HPm.out.below hbW)
        have HB2 := Lib.hid (HB.out.trans (hbW.mono HB.out.size))
        have HOWN := Lib.hid hown
        have hwc : w.heap.size ≤ wc.heap.size := HB2.out.size
        have hww : w.heap.size ≤ W.heap.size := HB.out.size
        clear hbW hkb hown HP HPm
        cases hre : (re == 0) with
        | false =>
          have hre' : re ≠ 0 := by simpa using hre
          have hfin : Hid (RunAt w.heap.size w l (k + 1) (.slice (some ⟨gv, 0, none⟩) (m + 1) cv) wc) := ⟨ps, HPC.out, by rw [hnx.out, ← HRUN.out, hdo.out, if_pos hre'], HB2.out⟩
          clear hre'
          go_wp2_with fail
          go_roundw
          case rel => exact ⟨k + 1, by omega, by go_num, hfin.out⟩
          case measure => simp [intOf]; omega
        | true =>
          obtain rfl : re = 0 := by simpa using hre
          by_cases h40 : 40 < ps.length
          · have hfin : Hid (RunAt w.heap.size w l (k + 1) (.slice (some ⟨gv, 0, none⟩) (m + 1) cv) wc) := ⟨ps, HPC.out, by rw [hnx.out, ← HRUN.out, hdo.out, if_neg (by simp), if_pos h40], HB2.out⟩
            have hd : decide ((m : Int) + 1 ≤ 40) = false := by rw [decide_eq_false_iff_not]; omega
            clear h40
            go_wp2_with fail
            go_roundw
            case rel => exact ⟨k + 1, by omega, by go_num, hfin.out⟩
            case measure => simp [intOf]; omega
          · have hd : decide ((m : Int) + 1 ≤ 40) = true := by rw [decide_eq_true_iff]; omega
            have hm40 : m ≤ 39 := by omega
            have hmap : Hid (runS (l.take (k + 1)) = ps.map (·.1) ++ [⟨rn, rg, ro⟩]) := by unfold Hid; rw [hnx.out, ← HRUN.out, hdo.out, if_neg (by simp), if_neg h40]
            clear h40
            obtain ⟨i0, hi0, hz0, hz1, hz2⟩ := info_parts rcfg_info
            have hone : Hid (∀ u ∈ CfgV.cells (⟨rn, rg, ro⟩, .slice A2 rg.length c2), u.oneCell' = true) := by intro u hu; simp [CfgV.cells, cfgCells] at hu; rcases hu with rfl | rfl | rfl | rfl | rfl | rfl <;> rfl
            have HO : Hid (∀ o, (wc.alloc o).ownsRow w.heap.size 92 6 (.slice (some ⟨gv, 0, none⟩) (m + 1) cv) (m + 1) (cellsP ps)) := fun o => by
              have := HPC.out.row
              rw [hmm] at this
              exact this.alloc o
            go_wp2_with (at_builtin; refine wpList_append_lies _ rfl (.tmp 34) (.tmp 36) _ rfl w.heap.size 92 i0 _ 6 64 Tryz.underlying90 hi0 hz0 hz1 hz2 rfl (by omega) (.slice (some ⟨gv, 0, none⟩) (m + 1) cv) (m + 1) (cellsP ps) rfl (HO.out _) ⟨wc.heap.size, 0, none⟩ 1 1 (CfgV.cells (⟨rn, rg, ro⟩, .slice A2 rg.length c2)) rfl rfl (news_box (by simp)) hone.out (by omega) (by unfold maxLen; omega) (by omega) (by simp; omega) (wc.heap.size + 1) (by simp) ?_; intro g2 cap2 w4 hown4 hg4 hat4 hlt4)
            have hfin : Hid (RunAt w.heap.size w l (k + 1) (.slice (some ⟨g2, 0, none⟩) (m + 1 + 1) cap2) w4) := by
              have hp4 := row_push HPC.out (⟨rn, rg, ro⟩, .slice A2 rg.length c2) (own_weaken HOWN.out (by omega)) (HOK.out rfl) hg4 (by rw [hmm]; exact hown4)
              refine ⟨_, hp4, by rw [hmap.out]; simp, (((Chg.of_below (F := fun i => w.heap.size ≤ i) HB2.out).alloc _).grown hg4 (fun j hj _ => ?_)).to_below (fun i hi h => by omega) (Nat.le_refl _)⟩
              exact ((HO.out (.cells #[] 0)).lt j hj).1
            clear hown4 hg4 hat4 hlt4
            go_wp2_with fail
            go_roundw
            case rel => exact ⟨k + 1, by omega, by go_num, hfin.out⟩
            case measure => simp [intOf]; omega
    · obtain rfl : k = l.length := by omega
      have hfull : runS (l.take l.length) = runS l := by rw [List.take_of_length_le (Nat.le_refl _)]
      rw [hfull] at hrun
      have HF := Lib.hid (And.intro hp (And.intro hrun hbw))
      clear hp hrun hbw hfull
      go_wp2_with fail
      go_ret
      exact ⟨_, ps, rfl, HF.out.1, HF.out.2.1, HF.out.2.2⟩

end Go.Proofs.YtijacbnoemjgcaaGreatDoor
