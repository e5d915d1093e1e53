/- ReeveChains, walked. -/
import Derived.Test.YtgelgjjhpioihaaVk
namespace Go.Proofs.Ytgelgjjhpioihaa
open Go.RowKit Go.Shelf
set_option linter.unusedVariables false
set_option linter.unusedSimpArgs false

theorem cfgEqB_refl (c : Cfg) : cfgEqB c c = true := (cfgEqB_iff c c).2 rfl
theorem map_at {ps : List CfgV} {cs : List Cfg} (h : ps.map (·.1) = cs) (k : Nat) (hk : k < ps.length) : ∃ hc : k < cs.length, cs[k] = ps[k].1 := by
  subst h
  exact ⟨by simpa using hk, by simp⟩

set_option maxHeartbeats 4000000 in
set_option maxRecDepth 100000 in
theorem reeveChains_any (l : List Rul) (v : Value) (w : World) (hr : Rd w w.heap.size 6 v l.length (cellsU l)) (hm : l.length ≤ 9223372036854775807) :
    Calls Try.prog 3 #[v] w fun e w' => e = .returned (.bool true) ∧ Below w.heap.size w w' := by
  have HR := Lib.hid hr
  obtain ⟨_, A, cc, rfl, hncc, _⟩ := hr
  by_cases hbig : 100 < l.length
  · have hb2 : (100 : Int) < (l.length : Int) := by omega
    go_enter Try.func3, Try.ntmps3
    go_wp2_with fail
    refine (two_any w).mono ?_
    rintro e w1 ⟨rfl, hb⟩
    go_wp2_with fail
    go_ret
    exact ⟨rfl, hb⟩
  · have hb2 : decide ((100 : Int) < (l.length : Int)) = false := by rw [decide_eq_false_iff_not]; omega
    have hm2 : l.length ≤ 100 := by omega
    have hlo : (judgeS [cfg0] l 0).2 = -1 ∨ 0 ≤ (judgeS [cfg0] l 0).2 := by rcases judge_at l [cfg0] 0 with h | h <;> omega
    have hlen := judge_len l [cfg0] 0 (by simp) (by simp)
    have hch := chain_any l _ w HR.out hm2
    have HJG : Hid (∀ (v' : Value) (w' : World), Rd w' w'.heap.size 4 v' l.length (cellsQ l) → Calls Try.prog 9 #[v'] w' (JgPost w' l)) := fun v' w' h => judge28_any l v' w' h (by omega)
    have HRU : Hid (∀ w' : World, Below w.heap.size w w' → Calls Try.prog 10 #[.slice A l.length cc] w' fun e w'' => ∃ v', e = .returned v' ∧ w''.ownsRow w'.heap.size 66 4 v' l.length (cellsQ l) ∧ Below w'.heap.size w' w'') := fun w' h => rulings_any l _ w' ((HR.out.below h).more h.size) (by omega)
    clear hbig
    unfold ChainPost at hch
    unfold JgPost at HJG
    generalize judgeS [cfg0] l 0 = r at *
    obtain ⟨cs, at'⟩ := r
    simp only at hlo hch HJG hlen
    rcases hlo with rfl | h0
    · simp only [show ¬ (0 : Int) ≤ -1 by omega, if_false] at hch
      go_enter Try.func3, Try.ntmps3
      go_wp2_with fail
      refine hch.mono ?_
      rintro e w1 ⟨vc, ps, rfl, hrow, hmap, hb1⟩
      have HROW := Lib.hid hrow
      have HB1 := Lib.hid hb1
      have HMAP := Lib.hid hmap
      obtain ⟨Ac, c1, rfl⟩ := own_shape hrow.row
      clear hrow hb1 hmap hch
      go_wp2_with fail
      refine (HRU.out w1 HB1.out).mono ?_
      rintro e w2 ⟨vr, rfl, hown2, hb2⟩
      have HB2 := Lib.hid (HB1.out.trans (hb2.mono HB1.out.size))
      have HB12 := Lib.hid hb2
      have hjg := HJG.out vr w2 (Rd.of_own hown2)
      obtain ⟨Ar, c2, rfl⟩ := own_shape hown2
      clear hown2 hb2
      go_wp2_with fail
      refine hjg.mono ?_
      rintro e w3 ⟨vj, qs, rfl, hrowj, hmapj, hqlen, hb3⟩
      have HB3 := Lib.hid (HB2.out.trans (hb3.mono HB2.out.size))
      have HB13 := Lib.hid (HB12.out.trans (hb3.mono HB12.out.size))
      have HRJ := Lib.hid hrowj
      have HMJ := Lib.hid hmapj
      obtain ⟨gj, cj, rfl, _, _⟩ := hrowj.row.form hrowj.pos
      clear hrowj hb3 hmapj hjg HJG HRU
      have hmap : ps.map (·.1) = cs := HMAP.out
      have hmapj : qs.map (·.1) = cs := HMJ.out trivial
      have HE : Hid (∀ k (h : k < ps.length), ∃ h2 : k < qs.length, qs[k].1 = ps[k].1) := fun k h => by
        obtain ⟨hc, e1⟩ := map_at hmap k h
        have hq : k < qs.length := by rw [← hmapj, List.length_map] at hc; exact hc
        obtain ⟨_, e2⟩ := map_at hmapj k hq
        exact ⟨hq, by rw [← e2, e1]⟩
      have hll : Hid (ps.length = qs.length) := by unfold Hid; have := congrArg List.length (hmap.trans hmapj.symm); simpa using this
      have hle : ((ps.length : Int) != (qs.length : Int)) = false := by rw [hll.out]; simp
      have hp41 : ps.length ≤ 41 := by rw [hll.out]; exact hqlen
      clear hmap hmapj HMAP HMJ
      go_wp2_with fail
      have hbW : Below w3.heap.size w3 (w3.alloc (.cells #[.slice (some ⟨gj, 0, none⟩) qs.length cj, .int .i64 (-1)] 30)) := (Below.refl _ _).alloc (Nat.le_refl _) _
      have hkb : Blk (w3.alloc (.cells #[.slice (some ⟨gj, 0, none⟩) qs.length cj, .int .i64 (-1)] 30)) w3.heap.size 30 #[.slice (some ⟨gj, 0, none⟩) qs.length cj, .int .i64 (-1)] := Blk.new w3 _ _
      have hw3 : w3.heap.size < (w3.alloc (.cells #[.slice (some ⟨gj, 0, none⟩) qs.length cj, .int .i64 (-1)] 30)).heap.size := by simp
      generalize w3.alloc (.cells #[.slice (some ⟨gj, 0, none⟩) qs.length cj, .int .i64 (-1)] 30) = W at *
      have HBW := Lib.hid (HB3.out.trans (hbW.mono HB3.out.size))
      have HCW := Lib.hid (((HROW.out.below HB13.out).below hbW).rd)
      have HJW := Lib.hid (HRJ.out.below hbW)
      have HKB := Lib.hid hkb
      clear hbW hkb HROW HRJ HB13 HB12 HB1 HB2 HB3
      go_loopw [44] (fun i wr => ∃ k : Nat, k ≤ ps.length ∧ i = .int .i64 k ∧ Hid (Below W.heap.size W wr)) (fun i _ => ps.length - (intOf i).toNat)
      case atStart => exact ⟨0, Nat.zero_le _, rfl, Below.refl _ _⟩
      case round =>
        obtain ⟨k, hk, rfl, hq⟩ := hrel
        obtain ⟨wo, rfl⟩ : ∃ wo : World, wo = wr := ⟨_, rfl⟩
        by_cases hlt : k < ps.length
        · obtain ⟨hkq, hee⟩ := HE.out k hlt
          obtain ⟨g, off, c', hV, hgl, q0, q1, q2, q3, q4, q5⟩ := HCW.out.get hlt
          injection hV with hA _ hcc
          subst hA hcc
          obtain ⟨g2, c2', hV2, _, hg2, r0, r1, r2, r3, r4, r5⟩ := HJW.out.get (List.getElem?_eq_getElem hkq)
          injection hV2 with hA2 _ hcc2
          injection hA2 with hA2
          injection hA2 with hA2 _ _
          subst hA2
          clear hcc2
          have hrp := HCW.out.own _ (List.getElem_mem hlt)
          have hrq := Rd.of_own (HJW.out.own _ (List.getElem_mem hkq))
          have hok := HJW.out.ok _ (List.getElem_mem hkq)
          generalize ps[k] = p at *
          generalize qs[k] = q at *
          obtain ⟨cf, s1⟩ := p
          obtain ⟨cf', s2⟩ := q
          simp only at hee
          subst hee
          obtain ⟨_, A1, c1', hs1, _, _⟩ := id hrp
          obtain ⟨_, A2, c2'', hs2, _, _⟩ := id hrq
          simp only at hs1 hs2 hrp hrq hok q0 q1 q2 q3 q4 q5 r0 r1 r2 r3 r4 r5
          subst hs1 hs2
          have hg4 := (check_bounds hok).2.2.1
          have hj0 : W.cell? ⟨w3.heap.size, 0, none⟩ = some (.slice (some ⟨gj, 0, none⟩) qs.length cj) := HKB.out.cell 0
          have HSS : Hid (∀ w', Below wo.heap.size wo w' → w'.cell? ⟨g, off + k * 6, none⟩ = some (.int .i64 cf'.num) ∧ w'.cell? ⟨g, off + k * 6 + 1, none⟩ = some (.slice A1 cf'.gs.length c1') ∧ w'.cell? ⟨g, off + k * 6 + 2, none⟩ = some (.int .i64 cf'.o.a) ∧ w'.cell? ⟨g, off + k * 6 + 3, none⟩ = some (.int .i64 cf'.o.b) ∧ w'.cell? ⟨g, off + k * 6 + 4, none⟩ = some (.int .i64 cf'.o.c) ∧ w'.cell? ⟨g, off + k * 6 + 5, none⟩ = some (.int .i64 cf'.o.d) ∧
              w'.cell? ⟨w3.heap.size, 0, none⟩ = some (.slice (some ⟨gj, 0, none⟩) qs.length cj) ∧ w'.cell? ⟨gj, k * 6, none⟩ = some (.int .i64 cf'.num) ∧ w'.cell? ⟨gj, k * 6 + 1, none⟩ = some (.slice A2 cf'.gs.length c2'') ∧ w'.cell? ⟨gj, k * 6 + 2, none⟩ = some (.int .i64 cf'.o.a) ∧ w'.cell? ⟨gj, k * 6 + 3, none⟩ = some (.int .i64 cf'.o.b) ∧ w'.cell? ⟨gj, k * 6 + 4, none⟩ = some (.int .i64 cf'.o.c) ∧ w'.cell? ⟨gj, k * 6 + 5, none⟩ = some (.int .i64 cf'.o.d)) := fun w' h => by
            have hh := hq.out.trans (h.mono hq.out.size)
            exact ⟨(hh.cell (p := ⟨g, off + k * 6, none⟩) hgl).trans q0, (hh.cell (p := ⟨g, off + k * 6 + 1, none⟩) hgl).trans q1, (hh.cell (p := ⟨g, off + k * 6 + 2, none⟩) hgl).trans q2, (hh.cell (p := ⟨g, off + k * 6 + 3, none⟩) hgl).trans q3, (hh.cell (p := ⟨g, off + k * 6 + 4, none⟩) hgl).trans q4, (hh.cell (p := ⟨g, off + k * 6 + 5, none⟩) hgl).trans q5,
              (hh.cell (p := ⟨w3.heap.size, 0, none⟩) hw3).trans hj0, (hh.cell (p := ⟨gj, k * 6, none⟩) hg2).trans r0, (hh.cell (p := ⟨gj, k * 6 + 1, none⟩) hg2).trans r1, (hh.cell (p := ⟨gj, k * 6 + 2, none⟩) hg2).trans r2, (hh.cell (p := ⟨gj, k * 6 + 3, none⟩) hg2).trans r3, (hh.cell (p := ⟨gj, k * 6 + 4, none⟩) hg2).trans r4, (hh.cell (p := ⟨gj, k * 6 + 5, none⟩) hg2).trans r5⟩
          have HSM : Hid (∀ w', Below wo.heap.size wo w' → Calls Try.prog 11 #[.agg #[.int .i64 cf'.num, .slice A1 cf'.gs.length c1', .int .i64 cf'.o.a, .int .i64 cf'.o.b, .int .i64 cf'.o.c, .int .i64 cf'.o.d], .agg #[.int .i64 cf'.num, .slice A2 cf'.gs.length c2'', .int .i64 cf'.o.a, .int .i64 cf'.o.b, .int .i64 cf'.o.c, .int .i64 cf'.o.d]] w' fun e w'' => e = .returned (.bool true) ∧ Below w'.heap.size w' w'') := fun w' h => by
            have hh := hq.out.trans (h.mono hq.out.size)
            have := same28_any cf' cf' A1 c1' A2 c2'' w' W.heap.size hh.size (hrp.below hh) (hrq.below hh) (by omega) (by omega)
            rwa [cfgEqB_refl] at this
          have hkz : (k : Int) < (qs.length : Int) := by omega
          have hk0 : (0 : Int) ≤ (k : Int) := by omega
          have hk1 : (k : Int) < (ps.length : Int) := by omega
          clear q0 q1 q2 q3 q4 q5 r0 r1 r2 r3 r4 r5 hrp hrq hok hj0
          go_upto_region 12 with fail
          go_region_held3 (fun w' => w'.cell? ⟨g, off + k * 6, none⟩ = some (.int .i64 cf'.num) ∧ w'.cell? ⟨g, off + k * 6 + 1, none⟩ = some (.slice A1 cf'.gs.length c1') ∧ w'.cell? ⟨g, off + k * 6 + 2, none⟩ = some (.int .i64 cf'.o.a) ∧ w'.cell? ⟨g, off + k * 6 + 3, none⟩ = some (.int .i64 cf'.o.b) ∧ w'.cell? ⟨g, off + k * 6 + 4, none⟩ = some (.int .i64 cf'.o.c) ∧ w'.cell? ⟨g, off + k * 6 + 5, none⟩ = some (.int .i64 cf'.o.d) ∧
              w'.cell? ⟨w3.heap.size, 0, none⟩ = some (.slice (some ⟨gj, 0, none⟩) qs.length cj) ∧ w'.cell? ⟨gj, k * 6, none⟩ = some (.int .i64 cf'.num) ∧ w'.cell? ⟨gj, k * 6 + 1, none⟩ = some (.slice A2 cf'.gs.length c2'') ∧ w'.cell? ⟨gj, k * 6 + 2, none⟩ = some (.int .i64 cf'.o.a) ∧ w'.cell? ⟨gj, k * 6 + 3, none⟩ = some (.int .i64 cf'.o.b) ∧ w'.cell? ⟨gj, k * 6 + 4, none⟩ = some (.int .i64 cf'.o.c) ∧ w'.cell? ⟨gj, k * 6 + 5, none⟩ = some (.int .i64 cf'.o.d))
            ((refine HSS.out _ ?_; simp only [bl_drew, bl_refl, *]))
            (first
              | (go_at_call 12; refine Calls.mono (config_any cf' A1 cf'.gs.length c1' _) ?_; rintro e w5 ⟨rfl, hb5⟩; have hbl5 : Below wo.heap.size wo w5 := below_then (by simp only [bl_drew, bl_refl]) hb5; clear hb5; unfold Cfg.val)
              | (go_at_call 11; refine Calls.mono (HSM.out _ (by simp only [bl_drew, bl_refl, hbl5])) ?_; rintro e w6 ⟨rfl, hb6⟩; have hbl6 : Below wo.heap.size wo w6 := below_then (by simp only [bl_drew, bl_refl, hbl5]) hb6; clear hb6))
          all_goals
            have hfin := Lib.hid (hq.out.trans (hbl6.mono hq.out.size))
            clear hbl5 hbl6
            go_wp2_with fail
            go_roundw
            case rel => exact ⟨k + 1, by omega, by go_num, hfin.out⟩
            case measure => simp [intOf]; omega
        · obtain rfl : k = ps.length := by omega
          go_wp2_with fail
          refine (two_any _).mono ?_
          rintro e w5 ⟨rfl, hb5⟩
          go_wp2_with fail
          go_ret
          exact ⟨rfl, HBW.out.trans ((hq.out.trans (hb5.mono hq.out.size)).mono HBW.out.size)⟩
    · simp only [if_pos h0] at hch
      go_enter Try.func3, Try.ntmps3
      go_wp2_with fail
      refine hch.mono ?_
      rintro e w1 ⟨vc, ps, rfl, hrow, hmap, hb1⟩
      have HROW := Lib.hid hrow
      have HB1 := Lib.hid hb1
      have HMAP := Lib.hid hmap
      obtain ⟨Ac, c1, rfl⟩ := own_shape hrow.row
      clear hrow hb1 hmap hch
      go_wp2_with fail
      refine (HRU.out w1 HB1.out).mono ?_
      rintro e w2 ⟨vr, rfl, hown2, hb2⟩
      have HB2 := Lib.hid (HB1.out.trans (hb2.mono HB1.out.size))
      have HB12 := Lib.hid hb2
      have hjg := HJG.out vr w2 (Rd.of_own hown2)
      obtain ⟨Ar, c2, rfl⟩ := own_shape hown2
      clear hown2 hb2
      go_wp2_with fail
      refine hjg.mono ?_
      rintro e w3 ⟨vj, qs, rfl, hrowj, hmapj, hqlen, hb3⟩
      have HB3 := Lib.hid (HB2.out.trans (hb3.mono HB2.out.size))
      have HB13 := Lib.hid (HB12.out.trans (hb3.mono HB12.out.size))
      have HRJ := Lib.hid hrowj
      have HMJ := Lib.hid hmapj
      obtain ⟨gj, cj, rfl, _, _⟩ := hrowj.row.form hrowj.pos
      clear hrowj hb3 hmapj hjg HJG HRU
      have hp0 : Hid (ps.length = 0) := by unfold Hid; have := HMAP.out; simpa using this
      have hp1 : ((ps.length : Int) == 0) = true := by rw [hp0.out]; rfl
      go_wp2_with fail
      refine (two_any _).mono ?_
      rintro e w4 ⟨rfl, hb4⟩
      go_wp2_with fail
      go_ret
      exact ⟨rfl, HB3.out.trans ((((Below.refl _ w3).alloc (Nat.le_refl _) _).trans (hb4.mono (by simp))).mono HB3.out.size)⟩

end Go.Proofs.Ytgelgjjhpioihaa
