/- ChainBalance, walked. -/
import Derived.Test.YtoaocdhpbpghgaaLe
namespace Go.Proofs.Ytoaocdhpbpghgaa
open Go.RowKit Go.Shelf
set_option linter.unusedVariables false
set_option linter.unusedSimpArgs false

set_option maxHeartbeats 4000000 in
set_option maxRecDepth 100000 in
theorem chainBalance_any (c : Cfg) (A : Option Addr) (cc : Nat) (x : Cmd) (w : World) (hr : Rd w w.heap.size 1 (.slice A c.gs.length cc) c.gs.length (ints c.gs)) (hm : c.gs.length ≤ 9223372036854775807) :
    Calls Try.prog 7 #[.agg #[.int .i64 c.num, .slice A c.gs.length cc, .int .i64 c.o.a, .int .i64 c.o.b, .int .i64 c.o.c, .int .i64 c.o.d], .agg #[.int .i64 x.kind, .int .i64 x.group, .int .i64 x.shard]] w fun e w' => e = .returned (.bool true) ∧ Below w.heap.size w w' := by
  by_cases hbig : 100 < c.gs.length
  · have hb2 : (100 : Int) < (c.gs.length : Int) := by omega
    have hBB := Lib.hid (fun o o' => ((Below.refl w.heap.size w).alloc (Nat.le_refl _) o).alloc (by simp) o')
    clear hr
    go_enter Try.func7, Try.ntmps7
    go_wp2_with fail
    refine (three_any _).mono ?_
    rintro e w1 ⟨rfl, hb⟩
    have HB := Lib.hid ((hBB.out _ _).trans (hb.mono (by simp; omega)))
    clear hb
    go_wp2_with fail
    go_ret
    exact ⟨rfl, HB.out⟩
  · have hb2 : decide ((100 : Int) < (c.gs.length : Int)) = false := by rw [decide_eq_false_iff_not]; omega
    have hm2 : c.gs.length ≤ 100 := by omega
    have HRa : Hid (∀ o o', Rd ((w.alloc o).alloc o') w.heap.size 1 (.slice A c.gs.length cc) c.gs.length (ints c.gs)) := fun o o' => hr.below (((Below.refl _ w).alloc (Nat.le_refl _) o).alloc (by simp) o')
    clear hbig hr
    have HNX : Hid (∀ w1 : World, Rd w1 w1.heap.size 1 (.slice A c.gs.length cc) c.gs.length (ints c.gs) → Calls Try.prog 9 #[.agg #[.int .i64 c.num, .slice A c.gs.length cc, .int .i64 c.o.a, .int .i64 c.o.b, .int .i64 c.o.c, .int .i64 c.o.d], .agg #[.int .i64 x.kind, .int .i64 x.group, .int .i64 x.shard]] w1 fun e w' =>
      ∃ s', e = .returned (.tuple #[(nextS c x).1.val s', .int .i64 (nextS c x).2]) ∧ w'.ownsRow w1.heap.size 3 1 s' (nextS c x).1.gs.length (ints (nextS c x).1.gs) ∧ Below w1.heap.size w1 w') := fun w1 h => next_any c x _ w1 h (by omega)
    have hsm := next_small c x
    have hfacts : Hid ((nextS c x).2 = 0 → checkB (nextS c x).1 = true ∧ (nextS c x).1.num = c.num + 1 ∧ 0 ≤ c.num ∧ c.num < 1099511627776 ∧ (x.kind ≠ 3 → (∀ i j (hi : i < (loadsS (nextS c x).1).length) (hj : j < (loadsS (nextS c x).1).length), (loadsS (nextS c x).1)[i] - (loadsS (nextS c x).1)[j] ≤ 1) ∧ sumS (loadsS (nextS c x).1) = 4)) := by
      intro h
      obtain ⟨hck, hrf, he⟩ := next_is h
      obtain ⟨n0, n1, _⟩ := check_bounds hck
      have hnum := (refused_zero hrf).2.1
      exact ⟨next_check h, by rw [he], n0, by omega, fun hk => next_loads h hk⟩
    generalize nextS c x = r at *
    obtain ⟨n, re⟩ := r
    simp only at HNX hsm hfacts
    go_enter Try.func7, Try.ntmps7
    go_wp2_with fail
    refine (HNX.out _ ((HRa.out _ _).more (by simp; omega))).mono ?_
    rintro e w1 ⟨s1, rfl, ho1, hb1⟩
    have hc1 : Blk w1 w.heap.size 25 (cfgCells c.num (.slice A c.gs.length cc) c.o) := Blk.below ((Blk.new w _ _).alloc _) hb1 (by simp; omega)
    have hx1 : Blk w1 (w.heap.size + 1) 27 #[.int .i64 x.kind, .int .i64 x.group, .int .i64 x.shard] := Blk.below ((Blk.new (w.alloc _) _ _).cast_ (by simp)) hb1 (by simp)
    have HB1 : Hid (Below w.heap.size w w1) := (((Below.refl _ w).alloc (Nat.le_refl _) _).alloc (by simp) _).trans (hb1.mono (by simp; omega))
    obtain ⟨A1, c1, rfl⟩ := own_shape ho1
    -- behind the place of n
    have HCW := Lib.hid (hc1.alloc (.cells #[.int .i64 n.num, .slice A1 n.gs.length c1, .int .i64 n.o.a, .int .i64 n.o.b, .int .i64 n.o.c, .int .i64 n.o.d] 25))
    have HXW := Lib.hid (hx1.alloc (.cells #[.int .i64 n.num, .slice A1 n.gs.length c1, .int .i64 n.o.a, .int .i64 n.o.b, .int .i64 n.o.c, .int .i64 n.o.d] 25))
    have HAW : Hid (Blk (w1.alloc (.cells #[.int .i64 n.num, .slice A1 n.gs.length c1, .int .i64 n.o.a, .int .i64 n.o.b, .int .i64 n.o.c, .int .i64 n.o.d] 25)) w1.heap.size 25 (cfgCells n.num (.slice A1 n.gs.length c1) n.o)) := Blk.new w1 _ _
    have HOW := Lib.hid (ho1.alloc (.cells #[.int .i64 n.num, .slice A1 n.gs.length c1, .int .i64 n.o.a, .int .i64 n.o.b, .int .i64 n.o.c, .int .i64 n.o.d] 25))
    have HBW := Lib.hid (HB1.out.alloc HB1.out.size (.cells #[.int .i64 n.num, .slice A1 n.gs.length c1, .int .i64 n.o.a, .int .i64 n.o.b, .int .i64 n.o.c, .int .i64 n.o.d] 25))
    have hww : w.heap.size ≤ w1.heap.size := HB1.out.size
    clear hc1 hx1 ho1 hb1 HB1 HNX HRa
    unfold Cfg.val
    go_upto_region 4 with fail
    generalize w1.heap.size = ba at *
    generalize w1.alloc (.cells #[.int .i64 n.num, .slice A1 n.gs.length c1, .int .i64 n.o.a, .int .i64 n.o.b, .int .i64 n.o.c, .int .i64 n.o.d] 25) = W at *
    have y0 : W.cell? ⟨w.heap.size + 1, 0, none⟩ = some (.int .i64 x.kind) := HXW.out.cell 0
    cases hre : (re == 0) with
    | false =>
      have hrn : (re != 0) = true := by simpa using hre
      go_wp2_with fail
      refine (three_any W).mono ?_
      rintro e w2 ⟨rfl, hb⟩
      have HB := Lib.hid (HBW.out.trans (hb.mono HBW.out.size))
      clear hb y0
      go_wp2_with fail
      go_ret
      exact ⟨rfl, HB.out⟩
    | true =>
      obtain rfl : re = 0 := by simpa using hre
      cases hk3 : (x.kind == 3) with
      | true =>
        go_wp2_with fail
        refine (three_any W).mono ?_
        rintro e w2 ⟨rfl, hb⟩
        have HB := Lib.hid (HBW.out.trans (hb.mono HBW.out.size))
        clear hb y0
        go_wp2_with fail
        go_ret
        exact ⟨rfl, HB.out⟩
      | false =>
        obtain ⟨hckn, hnum, n0, n1, hkk⟩ := hfacts.out (by trivial)
        obtain ⟨hdiff, hsum⟩ := hkk (by simpa using hk3)
        have HCKN := Lib.hid hckn
        have HNUM := Lib.hid hnum
        have HDIFF := Lib.hid hdiff
        have HSUM := Lib.hid hsum
        clear hckn hnum hkk hdiff hsum
        obtain ⟨e0, e1, e2, e3, e4, e5⟩ := keep6 HAW.out (Below.refl _ _)
        go_wp2_with fail
        refine (loads_any n A1 c1 W W.heap.size (Nat.le_refl _) (Rd.of_own HOW.out) (by omega)).mono ?_
        rintro e w2 ⟨s2, rfl, ho2, hb2⟩
        obtain ⟨A2, c2, rfl⟩ := own_shape ho2
        have hlsm := loads_small n
        have HLS := Lib.hid hlsm.1
        have hl4 := hlsm.2
        clear hlsm
        have hc2 : (loadsS n).length ≤ c2 := by
          rcases ho2.2 with ⟨h', h0⟩ | ⟨_, _, _, h', _, _, hnc, _⟩
          · omega
          · injection h' with _ _ h'; omega
        generalize loadsS n = l at *
        have HR2 := Lib.hid (Rd.of_own ho2)
        have HB2 := Lib.hid (HBW.out.trans (hb2.mono HBW.out.size))
        have HA2 := Lib.hid (HAW.out.below hb2 HAW.out.lt)
        have HC2 := Lib.hid (HCW.out.below hb2 HCW.out.lt)
        have HX2 := Lib.hid (HXW.out.below hb2 HXW.out.lt)
        have HO2 := Lib.hid (own_below HOW.out hb2)
        clear ho2 hb2 e0 e1 e2 e3 e4 e5 y0 HAW HCW HXW HOW HBW
        go_wp2_with fail
        go_loopw [8, 36] (fun s i wr => ∃ k : Nat, k ≤ l.length ∧ i = .int .i64 k ∧ s = .int .i64 (sumS (l.take k)) ∧ 0 ≤ sumS (l.take k) ∧ sumS (l.take k) ≤ 4 * k ∧ wr = w2) (fun _ i _ => l.length - (intOf i).toNat)
        case atStart => exact ⟨0, Nat.zero_le _, rfl, rfl, by simp [sumS], by simp [sumS], rfl⟩
        case round =>
          obtain ⟨k, hk, rfl, rfl, hs0, hs4, rfl⟩ := hrel
          by_cases hlt : k < l.length
          · obtain ⟨g, off, c', hV, hg, hc⟩ := rd_get1 HR2.out hlt
            injection hV with hA _ hcc
            subst hA hcc
            have hlk := HLS.out l[k] (List.getElem_mem hlt)
            have hsn : Hid (sumS (l.take (k + 1)) = sumS (l.take k) + l[k]) := by unfold Hid; rw [List.take_succ_eq_append_getElem hlt, sumS_snoc]
            have HDK := Lib.hid (fun j hj => HDIFF.out k j hlt hj)
            generalize hlk' : l[k] = a at *
            clear hlk'
            obtain ⟨ha0, ha4⟩ := hlk
            generalize hst : sumS (l.take k) = st at *
            clear hst
            go_wp2_with fail
            go_loopw [45] (fun i wx => ∃ j : Nat, j ≤ l.length ∧ i = .int .i64 j ∧ wx = wr) (fun i _ => l.length - (intOf i).toNat)
            case atStart => exact ⟨0, Nat.zero_le _, rfl, rfl⟩
            case round =>
              obtain ⟨j, hj, rfl, rfl⟩ := hrel
              by_cases hjl : j < l.length
              · obtain ⟨_, _, _, hV2, _, hd⟩ := rd_get1 HR2.out hjl
                injection hV2 with hA2 _ _
                injection hA2 with hA2
                injection hA2 with hA2 hA3 _
                subst hA2 hA3
                have hlj := HLS.out l[j] (List.getElem_mem hjl)
                have hdj := HDK.out j hjl
                generalize l[j] = b at *
                obtain ⟨hb0, hb4⟩ := hlj
                have hdd : decide (1 < a - b) = false := by rw [decide_eq_false_iff_not]; omega
                go_wp2_with fail
                go_roundw
                case rel => exact ⟨j + 1, by omega, by go_num, by trivial⟩
                case measure => simp [intOf]; omega
              · go_wp2_with fail
                go_roundw
                case rel => exact ⟨k + 1, by omega, by go_num, by rw [hsn.out], by rw [hsn.out]; omega, by rw [hsn.out]; omega, by trivial⟩
                case measure => simp [intOf]; omega
          · obtain rfl : k = l.length := by omega
            have hs : sumS (l.take l.length) = 4 := by rw [List.take_of_length_le (Nat.le_refl _)]; exact HSUM.out
            rw [hs]
            clear hs hs0 hs4
            obtain ⟨e0, e1, e2, e3, e4, e5⟩ := keep6 HA2.out (Below.refl _ _)
            obtain ⟨q0, q1, q2, q3, q4, q5⟩ := keep6 HC2.out (Below.refl _ _)
            go_wp2_with fail
            refine (check_any n (.slice A1 n.gs.length c1) wr wr.heap.size (Nat.le_refl _) (Rd.of_own HO2.out) (by omega)).mono ?_
            rintro e w3 ⟨rfl, hb3⟩
            rw [HCKN.out]
            simp only [errC]
            have HB3 := Lib.hid (HB2.out.trans (hb3.mono HB2.out.size))
            have hA3 := HA2.out.below hb3 HA2.out.lt
            have hC3 := HC2.out.below hb3 HC2.out.lt
            have a0 : w3.cell? ⟨ba, 0, none⟩ = some (.int .i64 (c.num + 1)) := by have := hA3.cell 0; rw [this, ← HNUM.out]; rfl
            have b0 : w3.cell? ⟨w.heap.size, 0, none⟩ = some (.int .i64 c.num) := hC3.cell 0
            clear hb3 hA3 hC3 e0 e1 e2 e3 e4 e5 q0 q1 q2 q3 q4 q5
            go_wp2_with fail
            refine (three_any w3).mono ?_
            rintro e w4 ⟨rfl, hb4⟩
            have HB4 := Lib.hid (HB3.out.trans (hb4.mono HB3.out.size))
            clear hb4 a0 b0
            go_wp2_with fail
            go_ret
            exact ⟨rfl, HB4.out⟩

end Go.Proofs.Ytoaocdhpbpghgaa
