/- Loads. -/
import Derived.Test.YtioikihehjacgaaGreatDoorCTexts37
set_option linter.unusedVariables false
set_option linter.unusedSimpArgs false
set_option linter.unnecessarySimpa false
namespace Go.Proofs.YtioikihehjacgaaGreatDoor
open Go.RowKit Go.Shelf

set_option maxHeartbeats 1000000 in
set_option maxRecDepth 100000 in
theorem loads_any (c : Cfg) (A : Option Addr) (cc : Nat) (w : World) (B : Nat) (hB : B ≤ w.heap.size) (hr : Rd w B 1 (.slice A c.gs.length cc) c.gs.length (ints c.gs)) (hm : c.gs.length ≤ 1000) :
    Calls Tryz.prog 15 #[.agg #[.int .i64 c.num, .slice A c.gs.length cc, .int .i64 c.o.a, .int .i64 c.o.b, .int .i64 c.o.c, .int .i64 c.o.d]] w fun e w' =>
      ∃ s', e = .returned s' ∧ w'.ownsRow w.heap.size 3 1 s' (loadsS c).length (ints (loadsS c)) ∧ Below w.heap.size w w' := by
  obtain ⟨i0, hi0, hz0, hz1, hz2⟩ := info_parts int_info
  have HRa : Hid (∀ o, Rd (w.alloc o) B 1 (.slice A c.gs.length cc) c.gs.length (ints c.gs)) := fun o => hr.below ((Below.refl _ w).alloc hB o)
  clear hr
  cases hck : checkB c with
  | false =>
    have hl : Hid (loadsS c = []) := by unfold Hid loadsS; rw [if_neg (by rw [hck]; simp)]
    go_enter Tryz.func15, Tryz.ntmps15
    go_wp2_with fail
    refine (check_any c _ _ B (by simp; omega) (HRa.out _) (by omega)).mono ?_
    rintro e w1 ⟨rfl, hb⟩
    rw [hck]
    simp only [errC]
    have HB := Lib.hid (((Below.refl _ w).alloc (Nat.le_refl _) _).trans (hb.mono (by simp)))
    clear hb
    go_wp2_with fail
    go_ret
    rw [hl.out]
    exact ⟨_, rfl, World.ownsRow_nil _ _ _ _, HB.out⟩
  | true =>
    have hl : Hid (loadsS c = c.gs.map (cnt c.own)) := by unfold Hid loadsS; rw [if_pos hck]
    obtain ⟨n0, n1, hl4, hgr, h5⟩ := check_bounds hck
    have HGR := Lib.hid hgr
    have H5 := Lib.hid h5
    have HCK := Lib.hid hck
    clear hgr h5 hck
    go_enter Tryz.func15, Tryz.ntmps15
    go_wp2_with fail
    refine (check_any c _ _ B (by simp; omega) (HRa.out _) (by omega)).mono ?_
    rintro e w1 ⟨rfl, hb⟩
    rw [HCK.out]
    simp only [errC]
    have hc1 : Blk w1 w.heap.size 25 (cfgCells c.num (.slice A c.gs.length cc) c.o) := Blk.below (Blk.new w _ _) hb (by simp)
    have HB1 := Lib.hid (((Below.refl _ w).alloc (Nat.le_refl _) (.cells (cfgCells c.num (.slice A c.gs.length cc) c.o) 25)).trans (hb.mono (by simp)))
    have HR1 := Lib.hid ((HRa.out (.cells (cfgCells c.num (.slice A c.gs.length cc) c.o) 25)).below (hb.mono (by simp; omega)))
    obtain ⟨q0, q1, q2, q3, q4, q5⟩ := keep6 hc1 (Below.refl _ _)
    have HC1 := Lib.hid hc1
    clear hb hc1 HRa
    go_wp2_with fail
    refine (count_any c (.slice A c.gs.length cc) w1 H5.out).mono ?_
    rintro e w2 ⟨rfl, hb2⟩
    have HC2 := Lib.hid (HC1.out.below hb2 HC1.out.lt)
    have HB2 := Lib.hid (HB1.out.trans (hb2.mono HB1.out.size))
    have HR2 := Lib.hid (HR1.out.below (hb2.mono (Nat.le_trans hB HB1.out.size)))
    clear hb2 HC1 HB1 HR1 q0 q1 q2 q3 q4 q5
    unfold cntCells
    have q1 : w2.cell? ⟨w.heap.size, 1, none⟩ = some (.slice A c.gs.length cc) := HC2.out.cell 1
    have hlt2 : w.heap.size < w2.heap.size := HC2.out.lt
    have hk5 := boxed5_blk w2 c.own
    have HK5 := Lib.hid hk5
    have HBX := Lib.hid (boxed5_below w2 c.own)
    clear hk5
    go_wp2_with fail
    change Code.wp _ _ _ _ (boxed5 w2 c.own)
    have HB5 := Lib.hid (HB2.out.trans (HBX.out.mono HB2.out.size))
    have HC5 := Lib.hid (HC2.out.below HBX.out HC2.out.lt)
    have HR5 := Lib.hid (HR2.out.below (HBX.out.mono (Nat.le_trans hB HB2.out.size)))
    have hsz5 : (boxed5 w2 c.own).heap.size = w2.heap.size + 1 := by simp [boxed5]
    have HS5 := Lib.hid hsz5
    have hBw : B ≤ w2.heap.size := Nat.le_trans hB HB2.out.size
    clear hsz5 q1 HC2 HB2 HR2 HBX
    generalize boxed5 w2 c.own = W at *
    go_loopw [4, 15] (fun v i wr => ∃ k : Nat, k ≤ c.gs.length ∧ i = .int .i64 k ∧ Hid (wr.ownsRow (w2.heap.size + 1) 3 1 v k (ints ((c.gs.take k).map (cnt c.own))) ∧ Below (w2.heap.size + 1) W wr)) (fun _ i _ => c.gs.length - (intOf i).toNat)
    case atStart => exact ⟨0, Nat.zero_le _, rfl, World.ownsRow_nil _ _ _ _, Below.refl _ _⟩
    case round =>
      obtain ⟨k, hk, rfl, hI⟩ := hrel
      obtain ⟨hown, hbw⟩ := hI.out
      obtain ⟨Ao, co, rfl⟩ := own_shape hown
      have HO := Lib.hid hown
      have HW := Lib.hid hbw
      have hwsz : w2.heap.size + 1 ≤ wr.heap.size := by have := hbw.size; rw [HS5.out] at this; exact this
      by_cases hlt : k < c.gs.length
      · obtain ⟨g, off, c', hV, hg, hc⟩ := rd_get1 (HR5.out.below (hbw.mono (by omega))) hlt
        injection hV with hA _ hcc
        subst hA hcc
        have hgk := HGR.out c.gs[k] (List.getElem_mem hlt)
        have hg0 : (0 : Int) ≤ c.gs[k] := by omega
        have hg5 : c.gs[k] < (5 : Int) := by omega
        have r1 : wr.cell? ⟨w2.heap.size, c.gs[k].toNat, none⟩ = some (.int .i64 (cnt c.own c.gs[k])) := by rw [(HK5.out.below hbw (by omega)).cell]; exact cntCells_get _ _ hg0 hg5
        have hsn : Hid (ints ((c.gs.take (k + 1)).map (cnt c.own)) = ints ((c.gs.take k).map (cnt c.own)) ++ [.int .i64 (cnt c.own c.gs[k])]) := by
          unfold Hid
          rw [List.take_succ_eq_append_getElem hlt, List.map_append, ints_append]
          rfl
        have hone : Hid (∀ u ∈ [Value.int .i64 (cnt c.own c.gs[k])], u.oneCell' = true) := by intro u hu; simp at hu; subst hu; rfl
        clear hown hbw hgk hI
        generalize c.gs[k] = gk at *
        generalize cnt c.own gk = ck at *
        go_wp2_with (at_builtin; refine wpList_append_lies _ rfl (.tmp 19) (.tmp 23) _ rfl (w2.heap.size + 1) 3 i0 _ 1 8 Tryz.underlying22 hi0 hz0 hz1 hz2 rfl (by omega) (.slice Ao k co) k (ints ((c.gs.take k).map (cnt c.own))) rfl (HO.out.alloc _) ⟨wr.heap.size, 0, none⟩ 1 1 [.int .i64 ck] rfl rfl (news_box (by simp)) hone.out (by omega) (by unfold maxLen; omega) (by omega) (by simp; omega) (wr.heap.size + 1) (by simp) ?_; intro g2 cap2 w4 hown4 hg4 hat4 hlt4)
        have hfin : Hid (w4.ownsRow (w2.heap.size + 1) 3 1 (.slice (some ⟨g2, 0, none⟩) (k + 1) cap2) (k + 1) (ints ((c.gs.take (k + 1)).map (cnt c.own))) ∧ Below (w2.heap.size + 1) W w4) := by
          refine ⟨by rw [hsn.out]; exact hown4, (((Chg.of_below (F := fun _ => False) (show Below W.heap.size W wr by rw [HS5.out]; exact HW.out)).alloc _).grown hg4 (fun j hj hlt => ?_)).to_below (fun _ _ h => h) (by rw [HS5.out]; exact Nat.le_refl _)⟩
          exfalso
          have := (HO.out.lt j hj).1
          rw [HS5.out] at hlt
          omega
        clear hown4 hg4 hat4 hlt4
        go_wp2_with fail
        go_roundw
        case rel => exact ⟨k + 1, by omega, by go_num, hfin⟩
        case measure => simp [intOf]; omega
      · obtain rfl : k = c.gs.length := by omega
        have hfull : Hid (ints ((c.gs.take c.gs.length).map (cnt c.own)) = ints (loadsS c)) := by unfold Hid; rw [hl.out, List.take_of_length_le (Nat.le_refl _)]
        have hlen : Hid (c.gs.length = (loadsS c).length) := by unfold Hid; rw [hl.out, List.length_map]
        have hfin : Hid (wr.ownsRow w.heap.size 3 1 (.slice Ao c.gs.length co) (loadsS c).length (ints (loadsS c)) ∧ Below w.heap.size w wr) := by
          have h1 := hown
          rw [hfull.out] at h1
          refine ⟨?_, HB5.out.trans (hbw.mono (by have := HB5.out.size; rw [HS5.out] at this; omega))⟩
          have h2 := own_weaken (base' := w.heap.size) h1 (by have := HB5.out.size; rw [HS5.out] at this; omega)
          rw [← hlen.out]
          exact h2
        clear hown hbw
        go_wp2_with fail
        go_ret
        exact ⟨_, rfl, hfin.out.1, hfin.out.2⟩

end Go.Proofs.YtioikihehjacgaaGreatDoor
