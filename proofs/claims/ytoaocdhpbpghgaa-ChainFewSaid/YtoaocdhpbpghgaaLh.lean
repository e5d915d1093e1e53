/- ChainFew, walked. -/
import Derived.Test.YtoaocdhpbpghgaaLg
namespace Go.Proofs.Ytoaocdhpbpghgaa
open Go.RowKit Go.Shelf
set_option linter.unusedVariables false
set_option linter.unusedSimpArgs false

/-- The way's owners, as far as they are laid. -/
def upW (gs : List Int) (m : Nat) : Nat → Own
  | 0 => ⟨0, 0, 0, 0⟩
  | j + 1 => (upW gs m j).put j (gs.getD (placeW gs.length m j) 0)
theorem upW_all (gs : List Int) (m : Nat) : upW gs m 4 = wayOwn gs m := rfl
theorem way_take (gs : List Int) (m j : Nat) (hj : j < 4) : (wayOwn gs m).list.take (j + 1) = (wayOwn gs m).list.take j ++ [gs.getD (placeW gs.length m j) 0] := by
  have h : j = 0 ∨ j = 1 ∨ j = 2 ∨ j = 3 := by omega
  rcases h with rfl | rfl | rfl | rfl <;> rfl
/-- Are the first k groups right with all? -/
def rightK (l gs : List Int) (k : Nat) : Bool := (gs.take k).all fun a => gs.all fun b => decide (cnt l a - cnt l b < 2)
def rightJ (l gs : List Int) (a : Int) (k : Nat) : Bool := (gs.take k).all fun b => decide (cnt l a - cnt l b < 2)
theorem rightK_succ (l gs : List Int) (k : Nat) (hk : k < gs.length) : rightK l gs (k + 1) = (rightK l gs k && rightJ l gs gs[k] gs.length) := by
  unfold rightK rightJ
  rw [List.take_succ_eq_append_getElem hk, List.all_append, List.take_of_length_le (Nat.le_refl gs.length)]
  simp
theorem rightJ_succ (l gs : List Int) (a : Int) (k : Nat) (hk : k < gs.length) : rightJ l gs a (k + 1) = (rightJ l gs a k && decide (cnt l a - cnt l gs[k] < 2)) := by
  unfold rightJ
  rw [List.take_succ_eq_append_getElem hk, List.all_append]
  simp
theorem rightK_all (gs : List Int) (o : Own) : rightK o.list gs gs.length = rightB gs o := by
  unfold rightK rightB
  rw [List.take_of_length_le (Nat.le_refl _)]
/-- What holds at the head of the loop over the shards: the owners, and how many each group has. -/
structure FW (wo : World) (gs : List Int) (m j : Nat) (wx : World) : Prop where
  ho : Blk wx wo.heap.size 23 (ownCells (upW gs m j))
  hl : Blk wx (wo.heap.size + 1) 50 (cntCells ((wayOwn gs m).list.take j))
  hb : Below wo.heap.size wo wx
theorem fw_start (wo : World) (gs : List Int) (m : Nat) : FW wo gs m 0 ((wo.alloc (.cells #[.int .i64 0, .int .i64 0, .int .i64 0, .int .i64 0] 23)).alloc (.cells #[.int .i64 0, .int .i64 0, .int .i64 0, .int .i64 0, .int .i64 0] 50)) :=
  ⟨(Blk.new wo _ _).alloc _, (Blk.new (wo.alloc _) _ _).cast_ (by simp), ((Below.refl _ _).alloc (Nat.le_refl _) _).alloc (by simp) _⟩

theorem fw_step {wo wx : World} {gs : List Int} {m j : Nat} (h : FW wo gs m j wx) (hj : j < 4) (v : Int) (hv : gs.getD (placeW gs.length m j) 0 = v) :
    0 ≤ v → v < 5 → ∀ q, FW wo gs m (j + 1) (((wx.drewN q).setCell ⟨wo.heap.size, j, none⟩ (.int .i64 v)).setCell ⟨wo.heap.size + 1, v.toNat, none⟩ (.int .i64 (cnt ((wayOwn gs m).list.take j) v + 1))) := by
  intro h0 h5 q
  refine ⟨?_, ?_, ?_⟩
  · have := ((h.ho.drewN q).set_ j (.int .i64 v)).far (p := ⟨wo.heap.size + 1, v.toNat, none⟩) (by simp) (.int .i64 (cnt ((wayOwn gs m).list.take j) v + 1))
    rw [ownCells_set _ j hj] at this
    rw [upW, hv]; exact this
  · have := ((h.hl.drewN q).far (p := ⟨wo.heap.size, j, none⟩) (by simp) (.int .i64 v)).set_ v.toNat (.int .i64 (cnt ((wayOwn gs m).list.take j) v + 1))
    rw [cntCells_set _ v h0 h5] at this
    rw [way_take gs m j hj, hv]; exact this
  · exact ((below_drewN h.hb q).setCell (by simp) _).setCell (by simp) _

set_option maxHeartbeats 4000000 in
set_option maxRecDepth 100000 in
theorem chainFew_any (c : Cfg) (A : Option Addr) (cc : Nat) (x : Cmd) (w : World) (hr : Rd w w.heap.size 1 (.slice A c.gs.length cc) c.gs.length (ints c.gs)) (hm : c.gs.length ≤ 9223372036854775807) :
    Calls Try.prog 5 #[.agg #[.int .i64 c.num, .slice A c.gs.length cc, .int .i64 c.o.a, .int .i64 c.o.b, .int .i64 c.o.c, .int .i64 c.o.d], .agg #[.int .i64 x.kind, .int .i64 x.group, .int .i64 x.shard]] w fun e w' => e = .returned (.bool true) ∧ Below w.heap.size w w' := by
  by_cases hbig : 100 < c.gs.length
  · have hb2 : (100 : Int) < (c.gs.length : Int) := by omega
    have hBB := Lib.hid (fun o o' => ((Below.refl w.heap.size w).alloc (Nat.le_refl _) o).alloc (by simp) o')
    clear hr
    go_enter Try.func5, Try.ntmps5
    go_wp2_with fail
    refine (three_any _).mono ?_
    rintro e w1 ⟨rfl, hb⟩
    have HB := Lib.hid ((hBB.out _ _).trans (hb.mono (by simp; omega)))
    clear hb
    go_wp2_with fail
    go_ret
    exact ⟨rfl, HB.out⟩
  · have hb2 : decide ((100 : Int) < (c.gs.length : Int)) = false := by rw [decide_eq_false_iff_not]; omega
    have hm2 : c.gs.length ≤ 100 := by omega
    have HRa : Hid (∀ o o', Rd ((w.alloc o).alloc o') w.heap.size 1 (.slice A c.gs.length cc) c.gs.length (ints c.gs)) := fun o o' => hr.below (((Below.refl _ w).alloc (Nat.le_refl _) o).alloc (by simp) o')
    clear hbig hr
    have HNX : Hid (∀ w1 : World, Rd w1 w1.heap.size 1 (.slice A c.gs.length cc) c.gs.length (ints c.gs) → Calls Try.prog 9 #[.agg #[.int .i64 c.num, .slice A c.gs.length cc, .int .i64 c.o.a, .int .i64 c.o.b, .int .i64 c.o.c, .int .i64 c.o.d], .agg #[.int .i64 x.kind, .int .i64 x.group, .int .i64 x.shard]] w1 fun e w' =>
      ∃ s', e = .returned (.tuple #[(nextS c x).1.val s', .int .i64 (nextS c x).2]) ∧ w'.ownsRow w1.heap.size 3 1 s' (nextS c x).1.gs.length (ints (nextS c x).1.gs) ∧ Below w1.heap.size w1 w') := fun w1 h => next_any c x _ w1 h (by omega)
    have hsm := next_small c x
    have hfacts : Hid ((nextS c x).2 = 0 → checkB (nextS c x).1 = true ∧ (x.kind ≠ 3 → 0 < (nextS c x).1.gs.length ∧ movedS c.o (nextS c x).1.o = leastS c.o (nextS c x).1.gs 256)) := by
      intro h
      exact ⟨next_check h, fun hk => ⟨(next_opt h hk).2, few_law h hk⟩⟩
    generalize nextS c x = r at *
    obtain ⟨n, re⟩ := r
    simp only at HNX hsm hfacts
    go_enter Try.func5, Try.ntmps5
    go_wp2_with fail
    refine (HNX.out _ ((HRa.out _ _).more (by simp; omega))).mono ?_
    rintro e w1 ⟨s1, rfl, ho1, hb1⟩
    have hc1 : Blk w1 w.heap.size 25 (cfgCells c.num (.slice A c.gs.length cc) c.o) := Blk.below ((Blk.new w _ _).alloc _) hb1 (by simp; omega)
    have hx1 : Blk w1 (w.heap.size + 1) 27 #[.int .i64 x.kind, .int .i64 x.group, .int .i64 x.shard] := Blk.below ((Blk.new (w.alloc _) _ _).cast_ (by simp)) hb1 (by simp)
    have HB1 : Hid (Below w.heap.size w w1) := (((Below.refl _ w).alloc (Nat.le_refl _) _).alloc (by simp) _).trans (hb1.mono (by simp; omega))
    obtain ⟨A1, c1, rfl⟩ := own_shape ho1
    -- behind the place of n
    have HCW := Lib.hid (hc1.alloc (.cells #[.int .i64 n.num, .slice A1 n.gs.length c1, .int .i64 n.o.a, .int .i64 n.o.b, .int .i64 n.o.c, .int .i64 n.o.d] 25))
    have HXW := Lib.hid (hx1.alloc (.cells #[.int .i64 n.num, .slice A1 n.gs.length c1, .int .i64 n.o.a, .int .i64 n.o.b, .int .i64 n.o.c, .int .i64 n.o.d] 25))
    have HAW : Hid (Blk (w1.alloc (.cells #[.int .i64 n.num, .slice A1 n.gs.length c1, .int .i64 n.o.a, .int .i64 n.o.b, .int .i64 n.o.c, .int .i64 n.o.d] 25)) w1.heap.size 25 (cfgCells n.num (.slice A1 n.gs.length c1) n.o)) := Blk.new w1 _ _
    have HOW := Lib.hid (ho1.alloc (.cells #[.int .i64 n.num, .slice A1 n.gs.length c1, .int .i64 n.o.a, .int .i64 n.o.b, .int .i64 n.o.c, .int .i64 n.o.d] 25))
    have HBW := Lib.hid (HB1.out.alloc HB1.out.size (.cells #[.int .i64 n.num, .slice A1 n.gs.length c1, .int .i64 n.o.a, .int .i64 n.o.b, .int .i64 n.o.c, .int .i64 n.o.d] 25))
    have hww : w.heap.size ≤ w1.heap.size := HB1.out.size
    clear hc1 hx1 ho1 hb1 HB1 HNX HRa
    unfold Cfg.val
    go_upto_region 4 with fail
    generalize w1.heap.size = ba at *
    generalize w1.alloc (.cells #[.int .i64 n.num, .slice A1 n.gs.length c1, .int .i64 n.o.a, .int .i64 n.o.b, .int .i64 n.o.c, .int .i64 n.o.d] 25) = W at *
    have y0 : W.cell? ⟨w.heap.size + 1, 0, none⟩ = some (.int .i64 x.kind) := HXW.out.cell 0
    cases hre : (re == 0) with
    | false =>
      have hrn : (re != 0) = true := by simpa using hre
      go_wp2_with fail
      refine (three_any W).mono ?_
      rintro e w2 ⟨rfl, hb⟩
      have HB := Lib.hid (HBW.out.trans (hb.mono HBW.out.size))
      clear hb y0
      go_wp2_with fail
      go_ret
      exact ⟨rfl, HB.out⟩
    | true =>
      obtain rfl : re = 0 := by simpa using hre
      cases hk3 : (x.kind == 3) with
      | true =>
        go_wp2_with fail
        refine (three_any W).mono ?_
        rintro e w2 ⟨rfl, hb⟩
        have HB := Lib.hid (HBW.out.trans (hb.mono HBW.out.size))
        clear hb y0
        go_wp2_with fail
        go_ret
        exact ⟨rfl, HB.out⟩
      | false =>
        obtain ⟨hckn, hkk⟩ := hfacts.out (by trivial)
        obtain ⟨hpos, hlaw⟩ := hkk (by simpa using hk3)
        have HLAW := Lib.hid hlaw
        have HGN := Lib.hid (check_bounds hckn).2.2.2.1
        have hgl : ((n.gs.length : Int) == 0) = false := by rw [beq_eq_false_iff_ne]; omega
        have HRN := Lib.hid (Rd.of_own HOW.out)
        clear hckn hkk hlaw hfacts
        obtain ⟨e0, e1, e2, e3, e4, e5⟩ := keep6 HAW.out (Below.refl _ _)
        go_wp2_with fail
        go_loopw [8, 9] (fun le wa wr => ∃ m : Nat, m ≤ 256 ∧ wa = .int .i64 m ∧ le = .int .i64 (leastS c.o n.gs m) ∧ Hid (Below W.heap.size W wr)) (fun _ wa _ => 256 - (intOf wa).toNat)
        case atStart => exact ⟨0, by omega, rfl, rfl, Below.refl _ _⟩
        case round =>
          obtain ⟨m, hm256, rfl, rfl, hbw⟩ := hrel
          clear e0 e1 e2 e3 e4 e5 y0
          by_cases hlt : m < 256
          · have hle := least_bd c.o n.gs m
            have hltb : decide ((m : Int) < 256) = true := by rw [decide_eq_true_iff]; omega
            have hltc : (m : Int) < 256 := by omega
            have hstep : Hid (leastS c.o n.gs (m + 1) = if rightB n.gs (wayOwn n.gs m) = true ∧ movedS c.o (wayOwn n.gs m) < leastS c.o n.gs m then movedS c.o (wayOwn n.gs m) else leastS c.o n.gs m) := rfl
            obtain ⟨wo, rfl⟩ : ∃ wo : World, wo = wr := ⟨_, rfl⟩
            have hwsz := hbw.out.size
            go_wp2_with fail
            go_loopw [12, 53] (fun re i wx => ∃ j : Nat, j ≤ 4 ∧ i = .int .i64 j ∧ re = .int .i64 ((m / 4 ^ j : Nat) : Int) ∧ Hid (FW wo n.gs m j wx)) (fun _ i _ => 4 - (intOf i).toNat)
            case atStart => exact ⟨0, by omega, rfl, by simp, fw_start wo n.gs m⟩
            case round =>
              obtain ⟨j, hj, rfl, rfl, hF⟩ := hrel
              obtain ⟨wx, rfl⟩ : ∃ wx : World, wx = wr := ⟨_, rfl⟩
              by_cases hjl : j < 4
              · have hP : placeW n.gs.length m j < n.gs.length := place_lt hpos
                obtain ⟨g, off, c', hV, hg, hc⟩ := rd_get1 HRN.out hP
                injection hV with hA _ hcc
                subst hA hcc
                have hBx : Below W.heap.size W wx := hbw.out.trans (hF.out.hb.mono hwsz)
                have hc1 := (hBx.cell (p := ⟨g, off + placeW n.gs.length m j, none⟩) hg).trans hc
                have u1 : wx.cell? ⟨ba, 1, none⟩ = some (.slice (some ⟨g, off, none⟩) n.gs.length c1) := (HAW.out.below hBx HAW.out.lt).cell 1
                have hgk := HGN.out n.gs[placeW n.gs.length m j] (List.getElem_mem hP)
                have hgd : n.gs.getD (placeW n.gs.length m j) 0 = n.gs[placeW n.gs.length m j] := by rw [List.getD_eq_getElem?_getD, List.getElem?_eq_getElem hP]; rfl
                have hst := Lib.hid (fun (v : Int) (hv : n.gs.getD (placeW n.gs.length m j) 0 = v) => fw_step hF.out hjl v hv)
                obtain ⟨R, hR⟩ : ∃ R, m / 4 ^ j = R := ⟨_, rfl⟩
                have hRb : (R : Int) < 256 := by have := Nat.div_le_self m (4 ^ j); rw [hR] at this; omega
                have hpl : placeW n.gs.length m j = R % 4 % n.gs.length := by unfold placeW; rw [hR]
                have hnext : Hid (m / 4 ^ (j + 1) = R / 4) := by unfold Hid; rw [← hR, Nat.pow_succ, Nat.div_div_eq_div_mul]
                rw [hR]
                generalize n.gs[placeW n.gs.length m j] = gk at *
                have HST := Lib.hid (hst.out gk hgd)
                generalize placeW n.gs.length m j = P at *
                have t1 : Int.tmod (R : Int) 4 = ((R % 4 : Nat) : Int) := by rw [Int.tmod_eq_emod_of_nonneg (by omega)]; omega
                have t2 : Int.tmod ((R % 4 : Nat) : Int) (n.gs.length : Int) = (P : Int) := by rw [Int.tmod_eq_emod_of_nonneg (by omega), hpl]; omega
                have r0 : wx.cell? ⟨wo.heap.size, j, none⟩ = some (.int .i64 ((upW n.gs m j).get j)) := by rw [hF.out.ho.cell]; exact ownCells_get _ j hjl
                have f0 := hF.out.ho.frozen j
                have r1 : wx.cell? ⟨wo.heap.size + 1, gk.toNat, none⟩ = some (.int .i64 (cnt ((wayOwn n.gs m).list.take j) gk)) := by rw [hF.out.hl.cell]; exact cntCells_get _ gk (by omega) (by omega)
                have f1 := hF.out.hl.frozen gk.toNat
                have hcb := cnt_le ((wayOwn n.gs m).list.take j) gk
                have hll : ((wayOwn n.gs m).list.take j).length ≤ 4 := by rw [List.length_take]; simp [Own.list]; omega
                clear hst hc hgd hR hpl
                obtain ⟨hg1, hg4⟩ := hgk
                obtain ⟨hcb0, hcb4⟩ := hcb
                generalize cnt ((wayOwn n.gs m).list.take j) gk = ck at *
                generalize (upW n.gs m j).get j = old at *
                have hj0 : (0 : Int) ≤ (j : Int) := by omega
                have hj4 : (j : Int) < 4 := by omega
                have hP0 : (0 : Int) ≤ (P : Int) := by omega
                have hP1 : (P : Int) < (n.gs.length : Int) := by omega
                have hR0 : (0 : Int) ≤ (R : Int) := by omega
                have hn0 : ¬ (n.gs.length : Int) = 0 := by omega
                have hn1 : (0 : Int) < (n.gs.length : Int) := by omega
                have hR4 : (0 : Int) ≤ (R : Int) % 4 := by omega
                have hR5 : (R : Int) % 4 < 4 := by omega
                have t2' : ((R : Int) % 4) % (n.gs.length : Int) = (P : Int) := by rw [← t2, Int.tmod_eq_emod_of_nonneg (by omega)]; congr 1
                have t2'' : Int.tmod ((R : Int) % 4) (n.gs.length : Int) = (P : Int) := by rw [Int.tmod_eq_emod_of_nonneg (by omega)]; exact t2'
                clear t1 t2
                go_wp2_with fail
                go_quiet (fail)
                have hfin := Lib.hid (HST.out (by omega) (by omega) nq)
                clear t2' t2'' hn0 hn1 hR4 hR5 HST
                go_wp2_with fail
                go_roundw
                case rel => exact ⟨j + 1, by omega, by go_num, by rw [hnext.out]; congr 1, hfin⟩
                case measure => simp [intOf]; omega
              · obtain rfl : j = 4 := by omega
                have hl4 : (wayOwn n.gs m).list.take 4 = (wayOwn n.gs m).list := List.take_of_length_le (by simp [Own.list])
                have hHO : Hid (Blk wx wo.heap.size 23 (ownCells (wayOwn n.gs m))) := hF.out.ho
                have hHL : Hid (Blk wx (wo.heap.size + 1) 50 (cntCells (wayOwn n.gs m).list)) := by have := hF.out.hl; rw [hl4] at this; exact this
                have hHB := Lib.hid (hbw.out.trans (hF.out.hb.mono hwsz))
                have hwlt : W.heap.size ≤ wo.heap.size := hwsz
                have u1 : wx.cell? ⟨ba, 1, none⟩ = some (.slice A1 n.gs.length c1) := (HAW.out.below hHB.out HAW.out.lt).cell 1
                generalize hwv : wayOwn n.gs m = wv at *
                clear hF hl4 hwv
                go_wp2_with fail
                go_loopw [15, 78] (fun rt i wy => ∃ k1 : Nat, k1 ≤ n.gs.length ∧ i = .int .i64 k1 ∧ rt = .bool (rightK wv.list n.gs k1) ∧ Hid (∃ q, wy = wx.drewN q)) (fun _ i _ => n.gs.length - (intOf i).toNat)
                case atStart => exact ⟨0, by omega, rfl, rfl, 0, rfl⟩
                case round =>
                  obtain ⟨k1, hk1, rfl, rfl, hq⟩ := hrel
                  obtain ⟨q1, rfl⟩ := hq.out
                  by_cases hk1l : k1 < n.gs.length
                  · obtain ⟨g, off, c', hV, hg, hc⟩ := rd_get1 HRN.out hk1l
                    injection hV with hA _ hcc
                    subst hA hcc
                    have hk1b : decide (k1 < n.gs.length) = true := by rw [decide_eq_true_iff]; exact hk1l
                    have hca := (hHB.out.cell (p := ⟨g, off + k1, none⟩) hg).trans hc
                    have hga := HGN.out n.gs[k1] (List.getElem_mem hk1l)
                    have hrs : Hid (rightK wv.list n.gs (k1 + 1) = (rightK wv.list n.gs k1 && rightJ wv.list n.gs n.gs[k1] n.gs.length)) := rightK_succ _ _ _ hk1l
                    have hJ := Lib.hid (fun k h => rightJ_succ wv.list n.gs n.gs[k1] k h)
                    have hra : wx.cell? ⟨wo.heap.size + 1, n.gs[k1].toNat, none⟩ = some (.int .i64 (cnt wv.list n.gs[k1])) := by rw [hHL.out.cell]; exact cntCells_get _ _ (by omega) (by omega)
                    have hcab := cnt_le wv.list n.gs[k1]
                    generalize n.gs[k1] = ga at *
                    clear hc
                    obtain ⟨hga1, hga4⟩ := hga
                    have hll : wv.list.length = 4 := rfl
                    rw [hll] at hcab
                    obtain ⟨hcab0, hcab4⟩ := hcab
                    generalize rightK wv.list n.gs k1 = rk at *
                    go_wp2_with fail
                    go_loopw [15, 85] (fun rt i wz => ∃ k2 : Nat, k2 ≤ n.gs.length ∧ i = .int .i64 k2 ∧ rt = .bool (rk && rightJ wv.list n.gs ga k2) ∧ Hid (∃ q, wz = wx.drewN q)) (fun _ i _ => n.gs.length - (intOf i).toNat)
                    case atStart => exact ⟨0, by omega, rfl, by simp [rightJ], q1, rfl⟩
                    case round =>
                      obtain ⟨k2, hk2, rfl, rfl, hq2⟩ := hrel
                      obtain ⟨q2, rfl⟩ := hq2.out
                      by_cases hk2l : k2 < n.gs.length
                      · obtain ⟨_, _, _, hV2, _, hd⟩ := rd_get1 HRN.out hk2l
                        injection hV2 with hA2 _ hc3
                        clear hc3
                        injection hA2 with hA2
                        injection hA2 with hA2 hA3 _
                        subst hA2 hA3
                        have hk2b : decide (k2 < n.gs.length) = true := by rw [decide_eq_true_iff]; exact hk2l
                        have hcb := (hHB.out.cell (p := ⟨g, off + k2, none⟩) hg).trans hd
                        have hgb := HGN.out n.gs[k2] (List.getElem_mem hk2l)
                        have hjs := hJ.out k2 hk2l
                        have hrb : wx.cell? ⟨wo.heap.size + 1, n.gs[k2].toNat, none⟩ = some (.int .i64 (cnt wv.list n.gs[k2])) := by rw [hHL.out.cell]; exact cntCells_get _ _ (by omega) (by omega)
                        have hcbb := cnt_le wv.list n.gs[k2]
                        generalize n.gs[k2] = gb at *
                        obtain ⟨hgb1, hgb4⟩ := hgb
                        rw [hll] at hcbb
                        obtain ⟨hcbb0, hcbb4⟩ := hcbb
                        have hnx : Hid ((rk && rightJ wv.list n.gs ga (k2 + 1)) = ((rk && rightJ wv.list n.gs ga k2) && decide (cnt wv.list ga - cnt wv.list gb < 2))) := by unfold Hid; rw [hjs, Bool.and_assoc]
                        generalize (rk && rightJ wv.list n.gs ga k2) = rv at *
                        generalize cnt wv.list gb = cgb at *
                        generalize hcga : cnt wv.list ga = cga at *
                        clear hjs hd hcga
                        cases rv with
                        | true =>
                          have hnx2 : Hid ((rk && rightJ wv.list n.gs ga (k2 + 1)) = decide (cga - cgb < 2)) := by unfold Hid; rw [hnx.out]; rfl
                          clear hnx
                          go_wp2_with fail
                          go_quiet (fail)
                          go_wp2_with fail
                          go_roundw
                          case rel => exact ⟨k2 + 1, by omega, by go_num, by rw [hnx2.out], q2 + nq, by simp [World.drewN, Nat.add_assoc]⟩
                          case measure => simp [intOf]; omega
                        | false =>
                          have hnx2 : Hid ((rk && rightJ wv.list n.gs ga (k2 + 1)) = false) := by unfold Hid; rw [hnx.out]; rfl
                          clear hnx
                          go_wp2_with fail
                          go_quiet (fail)
                          go_wp2_with fail
                          go_roundw
                          case rel => exact ⟨k2 + 1, by omega, by go_num, by rw [hnx2.out], q2 + nq, by simp [World.drewN, Nat.add_assoc]⟩
                          case measure => simp [intOf]; omega
                      · obtain rfl : k2 = n.gs.length := by omega
                        go_wp2_with fail
                        go_roundw
                        case rel => (repeat apply Exists.intro); refine ⟨?_, rfl⟩; exact ⟨k1 + 1, by omega, by go_num, by rw [hrs.out], q2, rfl⟩
                        case measure => simp [intOf]; omega
                  · obtain rfl : k1 = n.gs.length := by omega
                    rw [rightK_all]
                    have hstep2 : Hid (leastS c.o n.gs (m + 1) = if rightB n.gs wv = true ∧ movedS c.o wv < leastS c.o n.gs m then movedS c.o wv else leastS c.o n.gs m) := hstep
                    have hfinB : Hid (∀ q, Below W.heap.size W (wx.drewN q)) := fun q => below_drewN hHB.out q
                    cases hrb : rightB n.gs wv with
                    | false =>
                      have hnx : Hid (leastS c.o n.gs (m + 1) = leastS c.o n.gs m) := by unfold Hid; rw [hstep2.out, if_neg (by rw [hrb]; simp)]
                      clear hstep hstep2 hrb
                      go_wp2_with fail
                      go_roundw
                      case rel => exact ⟨m + 1, by omega, by go_num, by rw [hnx.out], hfinB.out _⟩
                      case measure => simp [intOf]; omega
                    | true =>
                      have hnx : Hid (leastS c.o n.gs (m + 1) = if movedS c.o wv < leastS c.o n.gs m then movedS c.o wv else leastS c.o n.gs m) := by unfold Hid; rw [hstep2.out]; simp only [hrb, true_and]
                      clear hstep hstep2 hrb u1
                      have hcy := (HCW.out.below hHB.out HCW.out.lt).drewN q1
                      have hoy := hHO.out.drewN q1
                      have hby := Lib.hid (hfinB.out q1)
                      generalize wx.drewN q1 = wy at *
                      obtain ⟨p0, p1, p2, p3, p4, p5⟩ := keep6 hcy (Below.refl _ _)
                      have o0 : wy.cell? ⟨wo.heap.size, 0, none⟩ = some (.int .i64 wv.a) := hoy.cell 0
                      have o1 : wy.cell? ⟨wo.heap.size, 1, none⟩ = some (.int .i64 wv.b) := hoy.cell 1
                      have o2 : wy.cell? ⟨wo.heap.size, 2, none⟩ = some (.int .i64 wv.c) := hoy.cell 2
                      have o3 : wy.cell? ⟨wo.heap.size, 3, none⟩ = some (.int .i64 wv.d) := hoy.cell 3
                      have HCY := Lib.hid hcy
                      have HOY := Lib.hid hoy
                      clear hcy hoy hfinB hHO hHL
                      go_wp2_with fail
                      refine (moved_any c.o wv wy).mono ?_
                      rintro e w3 ⟨rfl, hb3⟩
                      have hc3 := HCY.out.below hb3 HCY.out.lt
                      have ho3 := HOY.out.below hb3 HOY.out.lt
                      have HB3 := Lib.hid (hby.out.trans (hb3.mono hby.out.size))
                      have hMV := Lib.hid (moved_any c.o wv w3)
                      clear p0 p1 p2 p3 p4 p5 o0 o1 o2 o3 hb3
                      obtain ⟨p0, p1, p2, p3, p4, p5⟩ := keep6 hc3 (Below.refl _ _)
                      have o0 : w3.cell? ⟨wo.heap.size, 0, none⟩ = some (.int .i64 wv.a) := ho3.cell 0
                      have o1 : w3.cell? ⟨wo.heap.size, 1, none⟩ = some (.int .i64 wv.b) := ho3.cell 1
                      have o2 : w3.cell? ⟨wo.heap.size, 2, none⟩ = some (.int .i64 wv.c) := ho3.cell 2
                      have o3 : w3.cell? ⟨wo.heap.size, 3, none⟩ = some (.int .i64 wv.d) := ho3.cell 3
                      clear hc3 ho3
                      generalize movedS c.o wv = mv at *
                      generalize leastS c.o n.gs m = lv at *
                      cases hlv : decide (mv < lv) with
                      | true =>
                        have hnx2 : Hid (leastS c.o n.gs (m + 1) = mv) := by unfold Hid; rw [hnx.out, if_pos (of_decide_eq_true hlv)]
                        clear hnx
                        go_wp2_with fail
                        refine hMV.out.mono ?_
                        rintro e w4 ⟨rfl, hb4⟩
                        have HB4 := Lib.hid (HB3.out.trans (hb4.mono HB3.out.size))
                        clear hb4 p0 p1 p2 p3 p4 p5 o0 o1 o2 o3
                        go_wp2_with fail
                        go_roundw
                        case rel => exact ⟨m + 1, by omega, by go_num, by rw [hnx2.out], HB4.out⟩
                        case measure => simp [intOf]; omega
                      | false =>
                        have hnx2 : Hid (leastS c.o n.gs (m + 1) = lv) := by unfold Hid; rw [hnx.out, if_neg (of_decide_eq_false hlv)]
                        clear hnx
                        go_wp2_with fail
                        go_roundw
                        case rel => exact ⟨m + 1, by omega, by go_num, by rw [hnx2.out], HB3.out⟩
                        case measure => simp [intOf]; omega
          · obtain rfl : m = 256 := by omega
            have hcy := HCW.out.below hbw.out HCW.out.lt
            have hny := HAW.out.below hbw.out HAW.out.lt
            obtain ⟨p0, p1, p2, p3, p4, p5⟩ := keep6 hcy (Below.refl _ _)
            obtain ⟨e0, e1, e2, e3, e4, e5⟩ := keep6 hny (Below.refl _ _)
            rw [← HLAW.out]
            clear hcy hny
            go_wp2_with fail
            refine (moved_any c.o n.o wr).mono ?_
            rintro e w3 ⟨rfl, hb3⟩
            have HB3 := Lib.hid (hbw.out.trans (hb3.mono hbw.out.size))
            clear hb3 p0 p1 p2 p3 p4 p5 e0 e1 e2 e3 e4 e5
            go_wp2_with fail
            refine (three_any w3).mono ?_
            rintro e w4 ⟨rfl, hb4⟩
            have HB4 := Lib.hid (HBW.out.trans ((HB3.out.trans (hb4.mono HB3.out.size)).mono HBW.out.size))
            clear hb4
            go_wp2_with fail
            go_ret
            exact ⟨rfl, HB4.out⟩

end Go.Proofs.Ytoaocdhpbpghgaa
