/- ChainRuns, walked. -/
import Derived.Test.YtoaocdhpbpghgaaRb
namespace Go.Proofs.Ytoaocdhpbpghgaa
open Go.RowKit Go.Shelf
set_option linter.unusedVariables false
set_option linter.unusedSimpArgs false

theorem rcmd_info : (Try.prog.info? 36).map (fun i => (i.zero, i.size, i.bytes)) = some (some (.agg #[.int .i64 0, .int .i64 0, .int .i64 0]), 3, 24) := by kernel_rfl
theorem apart_row {w : World} {base n : Nat} {v : Value} {xs : List Value} (h : w.ownsRow base 36 3 v n xs) : Apart w (fun i => v.ownBlock = some i) := by
  intro i hi hF
  rcases h.2 with ⟨rfl, _⟩ | ⟨g, cap, cur, rfl, _, hb, _⟩
  · simp [Value.ownBlock] at hF
  · simp only [Value.ownBlock, Option.some.injEq] at hF
    subst hF
    exact ⟨_, _, hb, by decide, by decide, by decide⟩
theorem mine_own {base : Nat} {w w' : World} {base' n : Nat} {v : Value} {xs : List Value} (h : Chg (Mine base w) w w') (ho : w.ownsRow base' 36 3 v n xs) : w'.ownsRow base' 36 3 v n xs :=
  h.owns ho (fun g hg hF => by
    obtain ⟨_, t, cs, hb, ht | ht⟩ := hF <;> subst ht
    · exact own_blk_ne ho hb (by decide) hg
    · exact own_blk_ne ho hb (by decide) hg)
theorem mine_blk {base : Nat} {w w' : World} {b : Nat} {cs : Array Value} (h : Chg (Mine base w) w w') (hb : Blk w b 27 cs) : Blk w' b 27 cs :=
  hb.chg h (fun hF => by
    obtain ⟨_, t, cs', hb', ht | ht⟩ := hF <;> subst ht
    · exact Blk.ne_ hb hb' (by decide) rfl
    · exact Blk.ne_ hb hb' (by decide) rfl)

/-- What holds behind k commands: the chain, the reference's commands. -/
structure RunsAt (w : World) (l : List Cmd) (k : Nat) (v : Value) (wr : World) : Prop where
  hc : Chn w.heap.size wr (w.heap.size + 1) (runS (l.take k))
  ho : wr.ownsRow w.heap.size 36 3 v k (cellsX (l.take k))
  hb : Below w.heap.size w wr

set_option maxHeartbeats 4000000 in
set_option maxRecDepth 100000 in
theorem chainRuns_any (l : List Cmd) (v : Value) (num : Int) (w : World) (hr : Rd w w.heap.size 3 v l.length (cellsX l)) (hm : l.length ≤ 9223372036854775807) :
    Calls Try.prog 4 #[v, .int .i64 num] w fun e w' => e = .returned (.bool true) ∧ Below w.heap.size w w' := by
  have HR := Lib.hid hr
  obtain ⟨_, A, cc, rfl, hncc, _⟩ := hr
  by_cases hbig : 150 < l.length
  · have hb2 : (150 : Int) < (l.length : Int) := by omega
    go_enter Try.func4, Try.ntmps4
    go_wp2_with fail
    refine (new_any w).mono ?_
    rintro e w1 ⟨rfl, hp1, hb1⟩
    have HB1 := Lib.hid hb1
    clear hp1 hb1
    go_wp2_with fail
    refine (three_any w1).mono ?_
    rintro e w2 ⟨rfl, hb⟩
    have HB := Lib.hid (HB1.out.trans (hb.mono HB1.out.size))
    clear hb
    go_wp2_with fail
    go_ret
    exact ⟨rfl, HB.out⟩
  · have hb2 : decide ((150 : Int) < (l.length : Int)) = false := by rw [decide_eq_false_iff_not]; omega
    have hm2 : l.length ≤ 150 := by omega
    clear hbig
    obtain ⟨i0, hi0, hz0, hz1, hz2⟩ := info_parts rcmd_info
    go_enter Try.func4, Try.ntmps4
    go_wp2_with fail
    refine (new_any w).mono ?_
    rintro e w1 ⟨rfl, hp1, hb1⟩
    have hstart : Hid (RunsAt w l 0 (.slice none 0 0) w1) := ⟨hp1, World.ownsRow_nil _ _ _ _, hb1⟩
    clear hp1 hb1
    go_wp2_with fail
    go_loopw [6, 33] (fun u i wr => ∃ k : Nat, k ≤ l.length ∧ i = .int .i64 k ∧ Hid (RunsAt w l k u wr)) (fun _ i _ => l.length - (intOf i).toNat)
    case atStart => exact ⟨0, Nat.zero_le _, rfl, hstart.out⟩
    case round =>
      obtain ⟨k, hk, rfl, hI⟩ := hrel
      obtain ⟨wo, rfl⟩ : ∃ wo : World, wo = wr := ⟨_, rfl⟩
      clear hstart
      obtain ⟨Au, cu, rfl⟩ := own_shape hI.out.ho
      by_cases hlt : k < l.length
      · have hltb : decide (k < l.length) = true := by rw [decide_eq_true_iff]; exact hlt
        obtain ⟨g0, off0, c0, hV, hg0, x0, x1, x2⟩ := rd_cmd HR.out hlt
        injection hV with hA _ hcc
        subst hA hcc
        have y0 := (hI.out.hb.cell (p := ⟨g0, off0 + k * 3, none⟩) hg0).trans x0
        have y1 := (hI.out.hb.cell (p := ⟨g0, off0 + k * 3 + 1, none⟩) hg0).trans x1
        have y2 := (hI.out.hb.cell (p := ⟨g0, off0 + k * 3 + 2, none⟩) hg0).trans x2
        have hrs : Hid (runS (l.take (k + 1)) = (doS (runS (l.take k)) l[k]).1) := runS_take l k hlt
        have hcx : Hid (cellsX (l.take (k + 1)) = cellsX (l.take k) ++ Cmd.cells l[k]) := by unfold Hid; rw [List.take_succ_eq_append_getElem hlt, cellsX_append]; simp [cellsX]
        have hlen := (runS_len (l.take k)).1
        clear x0 x1 x2
        generalize l[k] = x at *
        have hcW := hI.out.hc.below ((Below.refl _ wo).alloc (Nat.le_refl _) (.cells #[.int .i64 x.kind, .int .i64 x.group, .int .i64 x.shard] 27))
        have hoW := hI.out.ho.alloc (.cells #[.int .i64 x.kind, .int .i64 x.group, .int .i64 x.shard] 27)
        have hbW := hI.out.hb.alloc hI.out.hb.size (.cells #[.int .i64 x.kind, .int .i64 x.group, .int .i64 x.shard] 27)
        have hxW : Blk (wo.alloc (.cells #[.int .i64 x.kind, .int .i64 x.group, .int .i64 x.shard] 27)) wo.heap.size 27 #[.int .i64 x.kind, .int .i64 x.group, .int .i64 x.shard] := Blk.new wo _ _
        have HC := Lib.hid hcW
        have HO := Lib.hid hoW
        have HB := Lib.hid hbW
        have HX := Lib.hid hxW
        clear hcW hoW hbW hxW
        go_wp2_with fail
        refine (do_in w.heap.size (w.heap.size + 1) (runS (l.take k)) x _ HC.out (by omega) hlen).mono ?_
        rintro e w2 ⟨rfl, hc2, hch⟩
        have hx2 := mine_blk hch HX.out
        have y0 : w2.cell? ⟨wo.heap.size, 0, none⟩ = some (.int .i64 x.kind) := hx2.cell 0
        have y1 : w2.cell? ⟨wo.heap.size, 1, none⟩ = some (.int .i64 x.group) := hx2.cell 1
        have y2 : w2.cell? ⟨wo.heap.size, 2, none⟩ = some (.int .i64 x.shard) := hx2.cell 2
        have hxl : wo.heap.size < w2.heap.size := hx2.lt
        have HO2 := Lib.hid (mine_own hch HO.out)
        have HB2 := Lib.hid (HB.out.trans (mine_below hch HB.out.size))
        have HC2 := Lib.hid hc2
        have hwsz : w.heap.size ≤ w2.heap.size := HB2.out.size
        have hone : Hid (∀ u ∈ Cmd.cells x, u.oneCell' = true) := by intro u hu; simp [Cmd.cells] at hu; rcases hu with rfl | rfl | rfl <;> rfl
        clear hx2 hch hc2 HC HO HB HX hI
        go_wp2_with (at_builtin; refine wpList_append_lies _ rfl (.tmp 40) (.tmp 48) _ rfl w.heap.size 36 i0 _ 3 24 Try.underlying42 hi0 hz0 hz1 hz2 rfl (by omega) (.slice Au k cu) k (cellsX (l.take k)) rfl (HO2.out.alloc _) ⟨w2.heap.size, 0, none⟩ 1 1 (Cmd.cells x) rfl rfl (news_box (by simp)) hone.out (by omega) (by unfold maxLen; omega) (by omega) (by simp; omega) (w2.heap.size + 1) (by simp) ?_; intro g2 cap2 w4 hown4 hg4 hat4 hlt4)
        have hfin : Hid (RunsAt w l (k + 1) (.slice (some ⟨g2, 0, none⟩) (k + 1) cap2) w4) := by
          refine ⟨?_, by rw [hcx.out]; exact hown4, ?_⟩
          · rw [hrs.out]
            exact HC2.out.chg ((((Chg.refl (fun i => (Value.slice Au k cu).ownBlock = some i) w2)).alloc _).grown hg4 (fun j hj _ => hj)) (apart_row HO2.out)
          · exact ((((Chg.of_below (F := fun i => w.heap.size ≤ i) HB2.out).alloc _).grown hg4 (fun j hj _ => (HO2.out.lt j hj).1))).to_below (fun i hi h => by omega) (Nat.le_refl _)
        clear hown4 hg4 hat4 hlt4 y0 y1 y2
        go_wp2_with fail
        go_roundw
        case rel => exact ⟨k + 1, by omega, by go_num, hfin⟩
        case measure => simp [intOf]; omega
      · obtain rfl : k = l.length := by omega
        have hfull : l.take l.length = l := List.take_of_length_le (Nat.le_refl _)
        have hI2 := hI.out
        obtain ⟨hc, ho, hb⟩ := hI2
        rw [hfull] at hc ho
        have HC := Lib.hid hc
        have HB := Lib.hid hb
        have HRd := Lib.hid (Rd.of_own ho)
        clear hc ho hb hI hfull
        go_wp2_with fail
        refine (run_any l _ wo HRd.out (by omega)).mono ?_
        rintro e W ⟨v', ps, rfl, hrow, hmap, hbW⟩
        have HC1 := Lib.hid (HC.out.below hbW)
        have HB1 := Lib.hid (HB.out.trans (hbW.mono HB.out.size))
        have HROW := Lib.hid hrow
        have hlen := runS_len l
        rw [← hmap, List.length_map] at hlen
        have HMAP := Lib.hid hmap
        obtain ⟨gv, cv, rfl, hbg, hgv⟩ := hrow.row.form hrow.pos
        have hcv : ps.length ≤ cv := (own_form hrow.row).2.1
        have hww : w.heap.size ≤ W.heap.size := HB1.out.size
        have hwo : wo.heap.size ≤ W.heap.size := hbW.size
        clear hrow hmap hbW HC HB HRd
        go_wp2_with fail
        go_loopw [55] (fun i wr => ∃ k : Nat, k ≤ ps.length ∧ i = .int .i64 k ∧ Hid (Below W.heap.size W wr)) (fun i _ => ps.length - (intOf i).toNat)
        case atStart => exact ⟨0, Nat.zero_le _, rfl, Below.refl _ _⟩
        case round =>
          obtain ⟨k, hk, rfl, hq⟩ := hrel
          by_cases hkl : k < ps.length
          · have hklb : decide (k < ps.length) = true := by rw [decide_eq_true_iff]; exact hkl
            have hget : ps[k]? = some ps[k] := List.getElem?_eq_getElem hkl
            have HPM := Lib.hid (List.getElem_mem hkl)
            have hgs : Hid (getS (runS l) k = (ps[k].1, 0)) := by
              unfold Hid getS
              rw [← HMAP.out, if_pos (by rw [List.length_map]; omega), Int.toNat_natCast, List.getD_eq_getElem?_getD, List.getElem?_map, hget]
              rfl
            obtain ⟨g', c', hV, _, hg', x0, x1, x2, x3, x4, x5⟩ := HROW.out.get hget
            generalize ps[k] = p at *
            obtain ⟨cf, sv⟩ := p
            obtain ⟨As, cs, hsv⟩ := own_shape (HROW.out.own _ HPM.out)
            simp only at hsv
            subst hsv
            have hg4 : cf.gs.length ≤ 4 := (check_bounds (HROW.out.ok _ HPM.out)).2.2.1
            injection hV with hV _ hcc
            injection hV with hV
            injection hV with hV _ _
            subst hV
            clear hcc hget
            have k0 := (hq.out.cell (p := ⟨gv, k * 6, none⟩) hg').trans x0
            have k1 := (hq.out.cell (p := ⟨gv, k * 6 + 1, none⟩) hg').trans x1
            have k2 := (hq.out.cell (p := ⟨gv, k * 6 + 2, none⟩) hg').trans x2
            have k3 := (hq.out.cell (p := ⟨gv, k * 6 + 3, none⟩) hg').trans x3
            have k4 := (hq.out.cell (p := ⟨gv, k * 6 + 4, none⟩) hg').trans x4
            have k5 := (hq.out.cell (p := ⟨gv, k * 6 + 5, none⟩) hg').trans x5
            clear x0 x1 x2 x3 x4 x5
            simp only at k0 k1 k2 k3 k4 k5 hgs
            have HGT := Lib.hid (fun (o : Obj) => get_any w.heap.size (w.heap.size + 1) (runS l) k (wr.alloc o) ((HC1.out.below hq.out).below ((Below.refl _ _).alloc (Nat.le_refl _) o)) (by have := (runS_len l).1; omega))
            have HRP := Lib.hid (Rd.of_own (HROW.out.own _ HPM.out))
            rw [hgs.out] at HGT
            go_wp2_with fail
            refine (HGT.out _).mono ?_
            rintro e w2 ⟨s2, rfl, ho2, hb2⟩
            obtain ⟨A2, c2, rfl⟩ := own_shape ho2
            have hbk : Blk w2 wr.heap.size 32 (cfgCells cf.num (.slice As cf.gs.length cs) cf.o) := Blk.below (Blk.new wr _ _) hb2 (by simp)
            obtain ⟨z0, z1, z2, z3, z4, z5⟩ := keep6 hbk (Below.refl _ _)
            have hlt2 : wr.heap.size < w2.heap.size := hbk.lt
            have HB2 := Lib.hid (hq.out.trans (((Below.refl _ wr).alloc (Nat.le_refl _) _).trans (hb2.mono (by simp)) |>.mono hq.out.size))
            have HRA := Lib.hid (fun o => (Rd.of_own ho2).below ((Below.refl _ w2).alloc (Nat.le_refl _) o))
            have HRB := Lib.hid (fun o => ((HRP.out.below HB2.out).more HB2.out.size).below ((Below.refl _ w2).alloc (Nat.le_refl _) o))
            clear ho2 hb2 hbk k0 k1 k2 k3 k4 k5 HGT
            unfold Cfg.val
            simp only
            go_wp2_with fail
            refine (same_true cf A2 c2 As cs _ w2.heap.size (by simp) (HRA.out _) (HRB.out _) (by omega)).mono ?_
            rintro e w3 ⟨rfl, hb3⟩
            have HB3 := Lib.hid (HB2.out.trans (((Below.refl _ w2).alloc (Nat.le_refl _) _).trans (hb3.mono (by simp)) |>.mono HB2.out.size))
            clear hb3 z0 z1 z2 z3 z4 z5
            go_wp2_with fail
            go_roundw
            case rel => exact ⟨k + 1, by omega, by go_num, HB3.out⟩
            case measure => simp [intOf]; omega
          · obtain rfl : k = ps.length := by omega
            have hl41 := (runS_len l).1
            have hpl : (runS l).length = ps.length := by rw [← HMAP.out, List.length_map]
            have hpos := HROW.out.pos
            obtain ⟨m, hmm⟩ : ∃ m, ps.length = m + 1 := ⟨ps.length - 1, by omega⟩
            have hml : m < ps.length := by omega
            have hget : ps[m]? = some ps[m] := List.getElem?_eq_getElem hml
            have elast : Hid ((runS l).getLastD cfg0 = ps[m].1) := by
              unfold Hid
              rw [← HMAP.out, List.getLastD_eq_getLast?, List.getLast?_eq_getElem?, List.length_map, hmm, Nat.add_sub_cancel, List.getElem?_map, hget]; rfl
            have HPM := Lib.hid (List.getElem_mem hml)
            have hgs2 : Hid (getS (runS l) (ps.length : Int) = (cfg0, 6)) := by unfold Hid getS; rw [if_neg (by rw [hpl]; omega)]
            have hge : Hid ((if 0 ≤ num ∧ num < (ps.length : Int) then (0 : Int) else 6) = (getS (runS l) num).2) := by
              unfold Hid getS
              rw [hpl]
              split <;> rfl
            obtain ⟨g', c', hV, _, hg', x0, x1, x2, x3, x4, x5⟩ := HROW.out.get hget
            have HGET := Lib.hid hget
            generalize ps[m] = p at *
            obtain ⟨cf, sv⟩ := p
            obtain ⟨As, cs, hsv⟩ := own_shape (HROW.out.own _ HPM.out)
            simp only at hsv
            subst hsv
            have hg4 : cf.gs.length ≤ 4 := (check_bounds (HROW.out.ok _ HPM.out)).2.2.1
            injection hV with hV _ hcc
            injection hV with hV
            injection hV with hV _ _
            subst hV
            clear hcc hget
            simp only at x0 x1 x2 x3 x4 x5 elast
            have HMM := Lib.hid hmm
            have hsub : IntKind.i64.wrap ((ps.length : Int) - 1) = (m : Int) := by rw [IntKind.wrap_i64]; omega
            have hsub2 : (ps.length : Int) - 1 = (m : Int) := by omega
            have hm0 : (0 : Int) ≤ (m : Int) := by omega
            have hm1 : (m : Int) < (ps.length : Int) := by omega
            have HSUB := Lib.hid (And.intro hsub hsub2)
            clear hmm hsub hsub2
            have HX : Hid (∀ W' : World, Below W.heap.size W W' → W'.cell? ⟨gv, m * 6, none⟩ = some (.int .i64 cf.num) ∧ W'.cell? ⟨gv, m * 6 + 1, none⟩ = some (.slice As cf.gs.length cs) ∧ W'.cell? ⟨gv, m * 6 + 2, none⟩ = some (.int .i64 cf.o.a) ∧ W'.cell? ⟨gv, m * 6 + 3, none⟩ = some (.int .i64 cf.o.b) ∧ W'.cell? ⟨gv, m * 6 + 4, none⟩ = some (.int .i64 cf.o.c) ∧ W'.cell? ⟨gv, m * 6 + 5, none⟩ = some (.int .i64 cf.o.d)) := fun W' h =>
              ⟨(h.cell (p := ⟨gv, m * 6, none⟩) hg').trans x0, (h.cell (p := ⟨gv, m * 6 + 1, none⟩) hg').trans x1, (h.cell (p := ⟨gv, m * 6 + 2, none⟩) hg').trans x2, (h.cell (p := ⟨gv, m * 6 + 3, none⟩) hg').trans x3, (h.cell (p := ⟨gv, m * 6 + 4, none⟩) hg').trans x4, (h.cell (p := ⟨gv, m * 6 + 5, none⟩) hg').trans x5⟩
            have HRP : Hid (∀ W' : World, Below W.heap.size W W' → Rd W' W'.heap.size 1 (.slice As cf.gs.length cs) cf.gs.length (ints cf.gs)) := fun W' h => ((Rd.of_own (HROW.out.own _ HPM.out)).below h).more h.size
            clear x0 x1 x2 x3 x4 x5
            have hgt1 := get_any w.heap.size (w.heap.size + 1) (runS l) num wr (HC1.out.below hq.out) (by omega)
            have HG1 := Lib.hid hgt1
            clear hgt1
            generalize getS (runS l) num = gr at *
            obtain ⟨gc, ge⟩ := gr
            simp only at hge
            go_wp2_with fail
            refine HG1.out.mono ?_
            rintro e w2 ⟨s2, rfl, ho2, hb2⟩
            obtain ⟨A2, c2, rfl⟩ := own_shape ho2
            have HB2 := Lib.hid (fun o => ((hq.out.trans (hb2.mono hq.out.size)).alloc (Nat.le_trans hq.out.size hb2.size) o : Below W.heap.size W (w2.alloc o)))
            clear ho2 hb2 HG1
            unfold Cfg.val
            simp only
            have HG2 := Lib.hid (fun o => get_any w.heap.size (w.heap.size + 1) (runS l) (ps.length : Int) (w2.alloc o) (HC1.out.below (HB2.out o)) (by omega))
            rw [hgs2.out] at HG2
            go_wp2_with fail
            refine Calls.mono (HG2.out _) ?_
            rintro e w3 ⟨s3, rfl, ho3, hb3⟩
            obtain ⟨A3, c3, rfl⟩ := own_shape ho3
            have HB3 := Lib.hid (fun o => (((HB2.out _).trans (hb3.mono (HB2.out _).size)).alloc (Nat.le_trans (HB2.out _).size hb3.size) o : Below W.heap.size W (w3.alloc o)))
            clear ho3 hb3 HG2
            unfold Cfg.val
            simp only [cfg0]
            go_upto_region 21 with fail
            have HW9 := Lib.hid (HB3.out (.cells #[.int .i64 0, .slice A3 0 c3, .int .i64 0, .int .i64 0, .int .i64 0, .int .i64 0] 25))
            generalize w3.alloc (.cells #[.int .i64 0, .slice A3 0 c3, .int .i64 0, .int .i64 0, .int .i64 0, .int .i64 0] 25) = W9 at *
            have HS9 : Hid (∀ W' : World, Below W9.heap.size W9 W' → Below W.heap.size W W') := fun W' h => HW9.out.trans (h.mono HW9.out.size)
            obtain ⟨hsub, hsub2⟩ := HSUB.out
            have hsub3 : IntKind.i64.wrap (m : Int) = (m : Int) := by rw [IntKind.wrap_i64]; omega
            go_region_held3 (fun w' => w'.cell? ⟨gv, m * 6, none⟩ = some (.int .i64 cf.num) ∧ w'.cell? ⟨gv, m * 6 + 1, none⟩ = some (.slice As cf.gs.length cs) ∧ w'.cell? ⟨gv, m * 6 + 2, none⟩ = some (.int .i64 cf.o.a) ∧ w'.cell? ⟨gv, m * 6 + 3, none⟩ = some (.int .i64 cf.o.b) ∧ w'.cell? ⟨gv, m * 6 + 4, none⟩ = some (.int .i64 cf.o.c) ∧ w'.cell? ⟨gv, m * 6 + 5, none⟩ = some (.int .i64 cf.o.d))
              ((refine HX.out _ (HS9.out _ ?_); simp only [bl_drew, bl_refl, *]))
              (first
                | (go_at_call 17; refine Calls.mono (none_any (some ⟨gv, 0, none⟩) ps.length cv num _ (by omega)) ?_; rintro e wn ⟨rfl, rfl⟩; rw [hge.out])
                | (go_at_call 18; refine Calls.mono (lastcfg_any w.heap.size (w.heap.size + 1) (runS l) _ (HC1.out.below (HS9.out _ (by simp only [bl_drew, bl_refl]))) (by omega)) ?_; rw [elast.out]; rintro e w4 ⟨s4, rfl, ho4, hb4⟩; have hbl : Below W9.heap.size W9 w4 := below_then (by simp only [bl_drew, bl_refl]) hb4; obtain ⟨A4, c4, rfl⟩ := own_shape ho4; have HRL := Lib.hid (Rd.of_own ho4); clear ho4; unfold Cfg.val)
                | (go_at_call 12; refine Calls.mono (same_true cf A4 c4 As cs _ w4.heap.size (Nat.le_refl _) HRL.out (HRP.out _ (HS9.out _ hbl)) (by omega)) ?_; rintro e w5 ⟨rfl, hb5⟩; have hbl5 : Below W9.heap.size W9 w5 := below_then hbl hb5)
                | (go_at_call 8; refine Calls.mono (three_any _) ?_; rintro e w6 ⟨rfl, hb6⟩; have hbl6 : Below W9.heap.size W9 w6 := below_then hbl5 hb6))
            all_goals
              have HFIN := Lib.hid (HB1.out.trans ((HS9.out _ hbl6).mono HB1.out.size))
              clear hbl hbl5 hbl6
              go_wp2_with fail
              go_ret
              exact ⟨rfl, HFIN.out⟩

end Go.Proofs.Ytoaocdhpbpghgaa
