/- ReeveBegins, walked. -/
import Derived.Test.YtgelgjjhpioihaaVl
namespace Go.Proofs.Ytgelgjjhpioihaa
open Go.RowKit Go.Shelf
set_option linter.unusedVariables false
set_option linter.unusedSimpArgs false

theorem rd_take6 {w : World} {B : Nat} {A : Option Addr} {c : Nat} {l : List Rul} (h : Rd w B 6 (.slice A l.length c) l.length (cellsU l)) (k : Nat) (hk : k ≤ l.length) : Rd w B 6 (.slice A k c) (l.take k).length (cellsU (l.take k)) := by
  obtain ⟨_, A', c', hv, hc, h0⟩ := h
  injection hv with hA _ hcc
  subst hA hcc
  have hl : (l.take k).length = k := by rw [List.length_take]; omega
  refine ⟨cellsU_length _, A, c, by rw [hl], by omega, ?_⟩
  rcases h0 with h0 | ⟨g, off, rfl, hg, hcell⟩
  · left; omega
  · right
    refine ⟨g, off, rfl, hg, fun j u hu => hcell j u ?_⟩
    have e : cellsU l = cellsU (l.take k) ++ cellsU (l.drop k) := by rw [← cellsU_append, List.take_append_drop]
    rw [e]
    rw [List.getElem?_append_left]
    · exact hu
    · rcases Nat.lt_or_ge j (cellsU (l.take k)).length with h | h
      · exact h
      · rw [List.getElem?_eq_none h] at hu; cases hu

set_option maxHeartbeats 4000000 in
set_option maxRecDepth 100000 in
/-- From 'd, f := reeve.Chain(l[:n])' on: n is the number of rulings taken. -/
theorem begins_check (l : List Rul) (n : Nat) (hn : n ≤ l.length) (hj : (judgeS [cfg0] l 0).2 = -1) :
    (judgeS [cfg0] (l.take n) 0).2 = -1 ∧ (judgeS [cfg0] (l.take n) 0).1 <+: (judgeS [cfg0] l 0).1 ∧ checkS l (judgeS [cfg0] (l.take n) 0).1 = (0, 0) := by
  have h1 := judge_take l [cfg0] 0 n hj
  refine ⟨h1.1, h1.2, ?_⟩
  unfold checkS
  rw [if_neg (by omega)]
  exact seen_good _ _ _ (begins_good h1.2 (judge_good l [cfg0] 0 good0 (by simp) (by simp)))

set_option maxHeartbeats 4000000 in
set_option maxRecDepth 100000 in
theorem reeveBegins_any (l : List Rul) (v : Value) (n : Int) (w : World) (hr : Rd w w.heap.size 6 v l.length (cellsU l)) (hm : l.length ≤ 9223372036854775807) :
    Calls Try.prog 6 #[v, .int .i64 n] w fun e w' => e = .returned (.bool true) ∧ Below w.heap.size w w' := by
  have HR := Lib.hid hr
  obtain ⟨_, A, cc, rfl, hncc, _⟩ := hr
  by_cases hbig : 100 < l.length
  · have hb2 : (100 : Int) < (l.length : Int) := by omega
    go_enter Try.func6, Try.ntmps6
    go_wp2_with fail
    refine (two_any w).mono ?_
    rintro e w1 ⟨rfl, hb⟩
    go_wp2_with fail
    go_ret
    exact ⟨rfl, hb⟩
  · have hb2 : decide ((100 : Int) < (l.length : Int)) = false := by rw [decide_eq_false_iff_not]; omega
    have hm2 : l.length ≤ 100 := by omega
    have hlo : (judgeS [cfg0] l 0).2 = -1 ∨ 0 ≤ (judgeS [cfg0] l 0).2 := by rcases judge_at l [cfg0] 0 with h | h <;> omega
    have hch := chain_any l _ w HR.out hm2
    unfold ChainPost at hch
    rcases hlo with h1 | h0
    · obtain ⟨nn, hnl, hcase⟩ : ∃ nn : Nat, nn ≤ l.length ∧ ((n < 0 ∧ nn = l.length) ∨ (0 ≤ n ∧ (l.length : Int) < n ∧ nn = l.length) ∨ n = (nn : Int)) := by
        by_cases ha : n < 0
        · exact ⟨l.length, Nat.le_refl _, .inl ⟨ha, rfl⟩⟩
        · by_cases hb : (l.length : Int) < n
          · exact ⟨l.length, Nat.le_refl _, .inr (.inl ⟨by omega, hb, rfl⟩)⟩
          · exact ⟨n.toNat, by omega, .inr (.inr (by omega))⟩
      obtain ⟨b1, b2, b3⟩ := begins_check l nn hnl h1
      have HCK : Hid (∀ (vs : Value) (qs : List CfgV) (w' : World), Below w.heap.size w w' → CRd w' w'.heap.size vs qs → qs.map (·.1) = (judgeS [cfg0] (l.take nn) 0).1 → Calls Try.prog 17 #[.slice A l.length cc, vs] w' (CheckPost w' (0, 0))) := fun vs qs w' hb hs hq => by
        have hg := judge_good (l.take nn) [cfg0] 0 good0 (by simp) (by simp)
        have hln := (judge_len (l.take nn) [cfg0] 0 (by simp) (by simp)).1
        have h := check28_any l _ vs qs w' ((HR.out.below hb).more hb.size) hm2 hs (by have := congrArg List.length hq; rw [List.length_map] at this; omega) (fun p hp => by
          have : p.1 ∈ (judgeS [cfg0] (l.take nn) 0).1 := by rw [← hq]; exact List.mem_map.2 ⟨p, hp, rfl⟩
          have := (check_bounds (hg.1 _ this)).2.2.1
          omega)
        rw [hq, b3] at h
        exact h
      have HCH : Hid (∀ w' : World, Below w.heap.size w w' → Calls Try.prog 8 #[.slice A nn cc] w' fun e w'' => ∃ v' ps', e = .returned (.tuple #[v', .int .i64 0]) ∧ RowC w'.heap.size w'' v' ps' ∧ ps'.map (·.1) = (judgeS [cfg0] (l.take nn) 0).1 ∧ Below w'.heap.size w' w'') := fun w' hb => by
        have h := chain_any (l.take nn) (.slice A nn cc) w' (((rd_take6 HR.out nn hnl).below hb).more hb.size) (by rw [List.length_take]; omega)
        unfold ChainPost at h
        simp only [b1, show ¬ (0 : Int) ≤ -1 by omega, if_false] at h
        exact h
      have hgood := judge_good l [cfg0] 0 good0 (by simp) (by simp)
      have hlen := (judge_len l [cfg0] 0 (by simp) (by simp)).1
      rw [h1] at hch
      simp only [show ¬ (0 : Int) ≤ -1 by omega, if_false] at hch
      generalize (judgeS [cfg0] (l.take nn) 0).1 = ds at *
      generalize (judgeS [cfg0] l 0).1 = cs at *
      have HPF := Lib.hid b2
      have HGD := Lib.hid hgood
      have HCK0 := Lib.hid hch
      have hdl : ds.length ≤ cs.length := b2.length_le
      clear b1 b2 b3 h1 hgood hch hbig
      have hk0 : (0 : Int) ≤ (nn : Int) := by omega
      have hk1 : (nn : Int) ≤ (l.length : Int) := by omega
      have hk2 : (nn : Int) ≤ (cc : Int) := by omega
      rcases hcase with ⟨hn1, rfl⟩ | ⟨hn0, hn1, rfl⟩ | rfl
      case' inr.inl => have hn2 : decide (n < 0) = false := by rw [decide_eq_false_iff_not]; omega
      case' inr.inr =>
        have hn2 : decide ((nn : Int) < 0) = false := by rw [decide_eq_false_iff_not]; omega
        have hn3 : decide ((l.length : Int) < (nn : Int)) = false := by rw [decide_eq_false_iff_not]; omega
        have hn4 : decide (l.length < nn) = false := by rw [decide_eq_false_iff_not]; omega
      all_goals
        go_enter Try.func6, Try.ntmps6
        go_wp2_with fail
        refine HCK0.out.mono ?_
        rintro e w1 ⟨vc, ps, rfl, hrow, hmap, hb1⟩
        have HROW := Lib.hid hrow
        have HB1 := Lib.hid hb1
        have HMAP := Lib.hid hmap
        obtain ⟨Ac, c1, rfl⟩ := own_shape hrow.row
        clear hrow hb1 hmap HCK0
        go_wp2_with fail
        refine (HCH.out w1 HB1.out).mono ?_
        rintro e w2 ⟨vd, qs, rfl, hrow, hmap, hb2⟩
        have HB2 := Lib.hid (HB1.out.trans (hb2.mono HB1.out.size))
        have HROWC := Lib.hid (HROW.out.below hb2)
        have HROWD := Lib.hid hrow
        have HMAPD := Lib.hid hmap
        obtain ⟨Ad, d1, rfl⟩ := own_shape hrow.row
        have hlq : Hid (ps.length = cs.length ∧ qs.length = ds.length) := ⟨by have := congrArg List.length HMAP.out; simpa using this, by have := congrArg List.length hmap; simpa using this⟩
        have hql : (qs.length : Int) ≤ (ps.length : Int) := by have := hlq.out; omega
        have hqd : decide ((ps.length : Int) < (qs.length : Int)) = false := by rw [decide_eq_false_iff_not]; omega
        have hqn : decide (ps.length < qs.length) = false := by rw [decide_eq_false_iff_not]; omega
        have HE : Hid (∀ k (h : k < qs.length), ∃ h2 : k < ps.length, ps[k].1 = qs[k].1) := fun k h => by
          obtain ⟨hc, e1⟩ := map_at HMAPD.out k h
          obtain ⟨hb, e2⟩ := prefix_get HPF.out k hc
          have h2 : k < ps.length := by have := hlq.out.1; omega
          obtain ⟨_, e3⟩ := map_at HMAP.out k h2
          exact ⟨h2, by rw [← e3, e2, e1]⟩
        have HOK : Hid (∀ k (h : k < qs.length), qs[k].1.gs.length ≤ 4) := fun k h => by
          obtain ⟨h2, e⟩ := HE.out k h
          rw [← e]
          have : ps[k].1 ∈ cs := by rw [← HMAP.out]; exact List.mem_map.2 ⟨ps[k], List.getElem_mem h2, rfl⟩
          exact (check_bounds (HGD.out.1 _ this)).2.2.1
        have HCC := Lib.hid (HCK.out _ qs w2 HB2.out HROWD.out.rd HMAPD.out)
        have hq41 : qs.length ≤ 41 := by have := hlq.out; omega
        clear hrow hmap hb2 HROW HCH HCK
        go_wp2_with fail
        refine HCC.out.mono ?_
        rintro e w3 ⟨rfl, hb3⟩
        have HBW := Lib.hid (HB2.out.trans (hb3.mono HB2.out.size))
        have HCW := Lib.hid (HROWC.out.below hb3).rd
        have HDW := Lib.hid (HROWD.out.below hb3).rd
        clear hb3 HROWC HROWD HCC
        go_wp2_with fail
        go_loopw [60] (fun i wr => ∃ k : Nat, k ≤ qs.length ∧ i = .int .i64 k ∧ Hid (Below w3.heap.size w3 wr)) (fun i _ => qs.length - (intOf i).toNat)
        case atStart => exact ⟨0, Nat.zero_le _, rfl, Below.refl _ _⟩
        case round =>
          obtain ⟨k, hk, rfl, hq⟩ := hrel
          obtain ⟨wo, rfl⟩ : ∃ wo : World, wo = wr := ⟨_, rfl⟩
          by_cases hlt : k < qs.length
          · obtain ⟨hkq, hee⟩ := HE.out k hlt
            obtain ⟨g, off, c', hV, hgl, q0, q1, q2, q3, q4, q5⟩ := HDW.out.get hlt
            injection hV with hA _ hcc
            subst hA hcc
            obtain ⟨g2, off2, c2', hV2, hg2, r0, r1, r2, r3, r4, r5⟩ := HCW.out.get hkq
            injection hV2 with hA2 _ hcc2
            subst hA2 hcc2
            have hrp := HDW.out.own _ (List.getElem_mem hlt)
            have hrq := HCW.out.own _ (List.getElem_mem hkq)
            have hg4 := HOK.out k hlt
            generalize qs[k] = p at *
            generalize ps[k] = q at *
            obtain ⟨cf, s1⟩ := p
            obtain ⟨cf', s2⟩ := q
            simp only at hee
            subst hee
            obtain ⟨_, A1, c1', hs1, _, _⟩ := id hrp
            obtain ⟨_, A2, c2'', hs2, _, _⟩ := id hrq
            simp only at hs1 hs2 hrp hrq hg4 q0 q1 q2 q3 q4 q5 r0 r1 r2 r3 r4 r5
            subst hs1 hs2
            have HSS : Hid (∀ w', Below wo.heap.size wo w' → w'.cell? ⟨g, off + k * 6, none⟩ = some (.int .i64 cf'.num) ∧ w'.cell? ⟨g, off + k * 6 + 1, none⟩ = some (.slice A1 cf'.gs.length c1') ∧ w'.cell? ⟨g, off + k * 6 + 2, none⟩ = some (.int .i64 cf'.o.a) ∧ w'.cell? ⟨g, off + k * 6 + 3, none⟩ = some (.int .i64 cf'.o.b) ∧ w'.cell? ⟨g, off + k * 6 + 4, none⟩ = some (.int .i64 cf'.o.c) ∧ w'.cell? ⟨g, off + k * 6 + 5, none⟩ = some (.int .i64 cf'.o.d) ∧ w'.cell? ⟨g2, off2 + k * 6, none⟩ = some (.int .i64 cf'.num) ∧ w'.cell? ⟨g2, off2 + k * 6 + 1, none⟩ = some (.slice A2 cf'.gs.length c2'') ∧ w'.cell? ⟨g2, off2 + k * 6 + 2, none⟩ = some (.int .i64 cf'.o.a) ∧ w'.cell? ⟨g2, off2 + k * 6 + 3, none⟩ = some (.int .i64 cf'.o.b) ∧ w'.cell? ⟨g2, off2 + k * 6 + 4, none⟩ = some (.int .i64 cf'.o.c) ∧ w'.cell? ⟨g2, off2 + k * 6 + 5, none⟩ = some (.int .i64 cf'.o.d)) := fun w' h => by
              have hh := hq.out.trans (h.mono hq.out.size)
              exact ⟨(hh.cell (p := ⟨g, off + k * 6, none⟩) hgl).trans q0, (hh.cell (p := ⟨g, off + k * 6 + 1, none⟩) hgl).trans q1, (hh.cell (p := ⟨g, off + k * 6 + 2, none⟩) hgl).trans q2, (hh.cell (p := ⟨g, off + k * 6 + 3, none⟩) hgl).trans q3, (hh.cell (p := ⟨g, off + k * 6 + 4, none⟩) hgl).trans q4, (hh.cell (p := ⟨g, off + k * 6 + 5, none⟩) hgl).trans q5,
                (hh.cell (p := ⟨g2, off2 + k * 6, none⟩) hg2).trans r0, (hh.cell (p := ⟨g2, off2 + k * 6 + 1, none⟩) hg2).trans r1, (hh.cell (p := ⟨g2, off2 + k * 6 + 2, none⟩) hg2).trans r2, (hh.cell (p := ⟨g2, off2 + k * 6 + 3, none⟩) hg2).trans r3, (hh.cell (p := ⟨g2, off2 + k * 6 + 4, none⟩) hg2).trans r4, (hh.cell (p := ⟨g2, off2 + k * 6 + 5, none⟩) hg2).trans r5⟩
            have HSM : Hid (∀ w', Below wo.heap.size wo w' → Calls Try.prog 11 #[.agg #[.int .i64 cf'.num, .slice A1 cf'.gs.length c1', .int .i64 cf'.o.a, .int .i64 cf'.o.b, .int .i64 cf'.o.c, .int .i64 cf'.o.d], .agg #[.int .i64 cf'.num, .slice A2 cf'.gs.length c2'', .int .i64 cf'.o.a, .int .i64 cf'.o.b, .int .i64 cf'.o.c, .int .i64 cf'.o.d]] w' fun e w'' => e = .returned (.bool true) ∧ Below w'.heap.size w' w'') := fun w' h => by
              have hh := hq.out.trans (h.mono hq.out.size)
              have := same28_any cf' cf' A1 c1' A2 c2'' w' w3.heap.size hh.size (hrp.below hh) (hrq.below hh) (by omega) (by omega)
              rwa [cfgEqB_refl] at this
            have hkz : (k : Int) < (qs.length : Int) := by omega
            have hk0' : (0 : Int) ≤ (k : Int) := by omega
            have hk1' : (k : Int) < (ps.length : Int) := by omega
            clear q0 q1 q2 q3 q4 q5 r0 r1 r2 r3 r4 r5 hrp hrq
            go_upto_region 15 with fail
            go_region_held3 (fun w' => w'.cell? ⟨g, off + k * 6, none⟩ = some (.int .i64 cf'.num) ∧ w'.cell? ⟨g, off + k * 6 + 1, none⟩ = some (.slice A1 cf'.gs.length c1') ∧ w'.cell? ⟨g, off + k * 6 + 2, none⟩ = some (.int .i64 cf'.o.a) ∧ w'.cell? ⟨g, off + k * 6 + 3, none⟩ = some (.int .i64 cf'.o.b) ∧ w'.cell? ⟨g, off + k * 6 + 4, none⟩ = some (.int .i64 cf'.o.c) ∧ w'.cell? ⟨g, off + k * 6 + 5, none⟩ = some (.int .i64 cf'.o.d) ∧ w'.cell? ⟨g2, off2 + k * 6, none⟩ = some (.int .i64 cf'.num) ∧ w'.cell? ⟨g2, off2 + k * 6 + 1, none⟩ = some (.slice A2 cf'.gs.length c2'') ∧ w'.cell? ⟨g2, off2 + k * 6 + 2, none⟩ = some (.int .i64 cf'.o.a) ∧ w'.cell? ⟨g2, off2 + k * 6 + 3, none⟩ = some (.int .i64 cf'.o.b) ∧ w'.cell? ⟨g2, off2 + k * 6 + 4, none⟩ = some (.int .i64 cf'.o.c) ∧ w'.cell? ⟨g2, off2 + k * 6 + 5, none⟩ = some (.int .i64 cf'.o.d))
              ((refine HSS.out _ ?_; simp only [bl_drew, bl_refl, *]))
              (first
                | (go_at_call 12; refine Calls.mono (config_any cf' _ _ _ _) ?_; rintro e w5 ⟨rfl, hb5⟩; have hbl5 : Below wo.heap.size wo w5 := below_then (by simp only [bl_drew, bl_refl, *]) hb5; clear hb5; unfold Cfg.val)
                | (go_at_call 11; refine Calls.mono (HSM.out _ (by simp only [bl_drew, bl_refl, *])) ?_; rintro e w6 ⟨rfl, hb6⟩; have hbl6 : Below wo.heap.size wo w6 := below_then (by simp only [bl_drew, bl_refl, *]) hb6; clear hb6))
            all_goals
              have hfin := Lib.hid (hq.out.trans (hbl6.mono hq.out.size))
              clear hbl5 hbl6
              go_wp2_with fail
              go_roundw
              case rel => exact ⟨k + 1, by omega, by go_num, hfin.out⟩
              case measure => simp [intOf]; omega
          · obtain rfl : k = qs.length := by omega
            go_wp2_with fail
            refine (two_any _).mono ?_
            rintro e w5 ⟨rfl, hb5⟩
            go_wp2_with fail
            go_ret
            exact ⟨rfl, HBW.out.trans ((hq.out.trans (hb5.mono hq.out.size)).mono HBW.out.size)⟩
    · simp only [if_pos h0] at hch
      go_enter Try.func6, Try.ntmps6
      go_wp2_with fail
      refine hch.mono ?_
      rintro e w1 ⟨vc, ps, rfl, hrow, hmap, hb1⟩
      have HB1 := Lib.hid hb1
      obtain ⟨Ac, c1, rfl⟩ := own_shape hrow.row
      clear hrow hb1 hmap hch
      go_wp2_with fail
      refine (two_any _).mono ?_
      rintro e w4 ⟨rfl, hb4⟩
      go_wp2_with fail
      go_ret
      exact ⟨rfl, HB1.out.trans (hb4.mono HB1.out.size)⟩

end Go.Proofs.Ytgelgjjhpioihaa
