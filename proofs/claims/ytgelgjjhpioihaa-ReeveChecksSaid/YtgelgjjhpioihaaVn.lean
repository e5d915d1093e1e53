/- ReeveChecks, walked. -/
import Derived.Test.YtgelgjjhpioihaaVl
namespace Go.Proofs.Ytgelgjjhpioihaa
open Go.RowKit Go.Shelf
set_option linter.unusedVariables false
set_option linter.unusedSimpArgs false

theorem cfgEqB_comm (a b : Cfg) : cfgEqB a b = cfgEqB b a := by
  rw [Bool.eq_iff_iff, cfgEqB_iff, cfgEqB_iff]
  exact ⟨fun h => h.symm, fun h => h.symm⟩
theorem badC_out {cs : List Cfg} {c : Cfg} (h : c.num < 0 ∨ (cs.length : Int) ≤ c.num) : badC cs c = true := by
  unfold badC
  rw [getS_out cs c.num h]; rfl
theorem badC_in {cs : List Cfg} {c : Cfg} (m : Nat) (h : c.num = (m : Int)) (hm : m < cs.length) : badC cs c = !(cfgEqB c cs[m]) := by
  unfold badC
  rw [h, getS_in cs m hm, cfgEqB_comm]; rfl

set_option maxHeartbeats 4000000 in
set_option maxRecDepth 100000 in
theorem reeveChecks_any (l : List Rul) (v : Value) (ps : List CfgV) (vs : Value) (w : World) (hr : Rd w w.heap.size 6 v l.length (cellsU l)) (hm : l.length ≤ 9223372036854775807) (hs : CRd w w.heap.size vs ps) (hn : ps.length ≤ 9223372036854775807) (hg : ∀ p ∈ ps, p.1.gs.length ≤ 9223372036854775807) :
    Calls Try.prog 5 #[v, vs] w fun e w' => e = .returned (.bool true) ∧ Below w.heap.size w w' := by
  have HR := Lib.hid hr
  have HS := Lib.hid hs
  have hlg := large_any vs ps w hs hn hg
  obtain ⟨_, A, cc, rfl, hncc, _⟩ := hr
  obtain ⟨_, A0, cc0, rfl, hncc0, _⟩ := hs.row
  clear hs
  by_cases hbig : 100 < l.length
  · have hb2 : (100 : Int) < (l.length : Int) := by omega
    clear hlg
    go_enter Try.func5, Try.ntmps5
    go_wp2_with fail
    refine (two_any w).mono ?_
    rintro e w1 ⟨rfl, hb⟩
    go_wp2_with fail
    go_ret
    exact ⟨rfl, hb⟩
  · have hb2 : decide ((100 : Int) < (l.length : Int)) = false := by rw [decide_eq_false_iff_not]; omega
    have hm2 : l.length ≤ 100 := by omega
    have HLG := Lib.hid hlg
    clear hbig hlg
    cases hla : largeB (ps.map (·.1)) with
    | true =>
      rw [hla] at HLG
      go_enter Try.func5, Try.ntmps5
      go_wp2_with fail
      refine HLG.out.mono ?_
      rintro e w0 ⟨rfl, hb0⟩
      have HB0 := Lib.hid hb0
      clear hb0
      go_wp2_with fail
      refine (two_any _).mono ?_
      rintro e w1 ⟨rfl, hb⟩
      go_wp2_with fail
      go_ret
      exact ⟨rfl, HB0.out.trans (hb.mono HB0.out.size)⟩
    | false =>
      rw [hla] at HLG
      have hsm : (∀ p ∈ ps, p.1.gs.length ≤ 1000) ∧ ps.length ≤ 60 := by
        unfold largeB at hla
        rw [Bool.or_eq_false_iff, List.any_eq_false] at hla
        refine ⟨fun p hp => ?_, by have := hla.2; rw [decide_eq_false_iff_not, List.length_map] at this; omega⟩
        have := hla.1 p.1 (List.mem_map.2 ⟨p, hp, rfl⟩)
        simp at this
        omega
      have HG := Lib.hid hsm.1
      have hps := hsm.2
      clear hsm hla hg
      have hlo : (judgeS [cfg0] l 0).2 = -1 ∨ 0 ≤ (judgeS [cfg0] l 0).2 := by rcases judge_at l [cfg0] 0 with h | h <;> omega
      have HCK : Hid (∀ w' : World, Below w.heap.size w w' → Calls Try.prog 17 #[.slice A l.length cc, .slice A0 ps.length cc0] w' (CheckPost w' (checkS l (ps.map (·.1))))) := fun w' hb => check28_any l _ _ ps w' ((HR.out.below hb).more hb.size) hm2 ((HS.out.below hb).more hb.size) (by omega) HG.out
      have HJG : Hid (∀ (v' : Value) (w' : World), Rd w' w'.heap.size 4 v' l.length (cellsQ l) → Calls Try.prog 9 #[v'] w' (JgPost w' l)) := fun v' w' h => judge28_any l v' w' h (by omega)
      have HRU : Hid (∀ w' : World, Below w.heap.size w w' → Calls Try.prog 10 #[.slice A l.length cc] w' fun e w'' => ∃ v', e = .returned v' ∧ w''.ownsRow w'.heap.size 66 4 v' l.length (cellsQ l) ∧ Below w'.heap.size w' w'') := fun w' h => rulings_any l _ w' ((HR.out.below h).more h.size) (by omega)
      have hgd := judge_good l [cfg0] 0 good0 (by simp) (by simp)
      unfold JgPost at HJG
      unfold checkS at HCK
      generalize judgeS [cfg0] l 0 = r at *
      obtain ⟨cs, at'⟩ := r
      simp only at hlo HCK HJG hgd
      have HGD := Lib.hid hgd
      clear hgd
      rcases hlo with rfl | h0
      · simp only [show ¬ (0 : Int) ≤ -1 by omega, if_false] at HCK
        obtain ⟨so, hso⟩ : ∃ so, so = seenS cs (ps.map (·.1)) 0 := ⟨_, rfl⟩
        rw [← hso] at HCK
        have HSO := Lib.hid hso
        clear hso
        go_enter Try.func5, Try.ntmps5
        go_wp2_with fail
        refine HLG.out.mono ?_
        rintro e w0 ⟨rfl, hb0⟩
        have HB0 := Lib.hid hb0
        have hck := HCK.out w0 hb0
        clear hb0 HLG HCK
        go_wp2_with fail
        refine hck.mono ?_
        rintro e w1 ⟨rfl, hb1⟩
        have HB1 := Lib.hid (HB0.out.trans (hb1.mono HB0.out.size))
        clear hb1 hck
        go_wp2_with fail
        refine (HRU.out w1 HB1.out).mono ?_
        rintro e w2 ⟨vr, rfl, hown2, hb2⟩
        have HB2 := Lib.hid (HB1.out.trans (hb2.mono HB1.out.size))
        have hjg := HJG.out vr w2 (Rd.of_own hown2)
        obtain ⟨Ar, c2, rfl⟩ := own_shape hown2
        clear hown2 hb2
        go_wp2_with fail
        refine hjg.mono ?_
        rintro e w3 ⟨vj, qs, rfl, hrowj, hmapj, hqlen, hb3⟩
        have HB3 := Lib.hid (HB2.out.trans (hb3.mono HB2.out.size))
        have HRJ := Lib.hid hrowj
        have HMJ := Lib.hid hmapj
        obtain ⟨gj, cj, rfl, _, _⟩ := hrowj.row.form hrowj.pos
        clear hrowj hb3 hmapj hjg HJG HRU
        have hmq : qs.map (·.1) = cs := HMJ.out trivial
        have HMQ := Lib.hid hmq
        have hql : Hid (cs.length = qs.length) := by unfold Hid; rw [← hmq, List.length_map]
        clear hmq HMJ
        go_wp2_with fail
        have hbW : Below w3.heap.size w3 (w3.alloc (.cells #[.slice (some ⟨gj, 0, none⟩) qs.length cj, .int .i64 (-1)] 30)) := (Below.refl _ _).alloc (Nat.le_refl _) _
        have hkb : Blk (w3.alloc (.cells #[.slice (some ⟨gj, 0, none⟩) qs.length cj, .int .i64 (-1)] 30)) w3.heap.size 30 #[.slice (some ⟨gj, 0, none⟩) qs.length cj, .int .i64 (-1)] := Blk.new w3 _ _
        have hw3 : w3.heap.size < (w3.alloc (.cells #[.slice (some ⟨gj, 0, none⟩) qs.length cj, .int .i64 (-1)] 30)).heap.size := by simp
        generalize w3.alloc (.cells #[.slice (some ⟨gj, 0, none⟩) qs.length cj, .int .i64 (-1)] 30) = W at *
        have HBW := Lib.hid (HB3.out.trans (hbW.mono HB3.out.size))
        have HJW := Lib.hid (HRJ.out.below hbW)
        have HKB := Lib.hid hkb
        have hwW : w.heap.size ≤ W.heap.size := HBW.out.size
        clear hbW hkb HRJ HB1 HB2 HB3 HB0
        go_loopw [47] (fun i wr => ∃ k : Nat, k ≤ ps.length ∧ i = .int .i64 k ∧ Hid (Below W.heap.size W wr) ∧ Hid (so = seenS cs ((ps.map (·.1)).drop k) k)) (fun i _ => ps.length - (intOf i).toNat)
        case atStart => exact ⟨0, Nat.zero_le _, rfl, Below.refl _ _, HSO.out⟩
        case round =>
          obtain ⟨k, hk, rfl, hq, hS⟩ := hrel
          clear HSO
          obtain ⟨wo, rfl⟩ : ∃ wo : World, wo = wr := ⟨_, rfl⟩
          by_cases hlt : k < ps.length
          · obtain ⟨g, off, c', hV, hgl, q0, q1, q2, q3, q4, q5⟩ := HS.out.get hlt
            injection hV with hA _ hcc
            subst hA hcc
            have HPM := Lib.hid (List.getElem_mem hlt)
            have hstep : Hid (so = if badC cs ps[k].1 = true then (2, (k : Int)) else seenS cs ((ps.map (·.1)).drop (k + 1)) (k + 1)) := by
              unfold Hid
              rw [hS.out, seen_drop cs _ k (by simpa using hlt), List.getElem_map]
            have HBX := Lib.hid (HBW.out.trans (hq.out.mono hwW))
            have k0 := (HBX.out.cell (p := ⟨g, off + k * 6, none⟩) hgl).trans q0
            have k1 := (HBX.out.cell (p := ⟨g, off + k * 6 + 1, none⟩) hgl).trans q1
            have k2 := (HBX.out.cell (p := ⟨g, off + k * 6 + 2, none⟩) hgl).trans q2
            have k3 := (HBX.out.cell (p := ⟨g, off + k * 6 + 3, none⟩) hgl).trans q3
            have k4 := (HBX.out.cell (p := ⟨g, off + k * 6 + 4, none⟩) hgl).trans q4
            have k5 := (HBX.out.cell (p := ⟨g, off + k * 6 + 5, none⟩) hgl).trans q5
            clear q0 q1 q2 q3 q4 q5 hS
            generalize ps[k] = p at *
            obtain ⟨cf, sv⟩ := p
            have hg4 := HG.out _ HPM.out
            have hrp := HS.out.own _ HPM.out
            obtain ⟨_, As, cS, hsv, hcS, _⟩ := id hrp
            simp only at hsv hg4 hstep k0 k1 k2 k3 k4 k5 hrp
            subst hsv
            have HRP := Lib.hid hrp
            have hj0 : wo.cell? ⟨w3.heap.size, 0, none⟩ = some (.slice (some ⟨gj, 0, none⟩) qs.length cj) := (hq.out.cell (p := ⟨w3.heap.size, 0, none⟩) hw3).trans (HKB.out.cell 0)
            have hw3o : w3.heap.size < wo.heap.size := by have := hq.out.size; omega
            have hk0 : (0 : Int) ≤ (k : Int) := by omega
            have hk1 : (k : Int) < (ps.length : Int) := by omega
            have HBO := Lib.hid (hq.out.alloc hq.out.size (.cells #[.int .i64 cf.num, .slice As cf.gs.length cS, .int .i64 cf.o.a, .int .i64 cf.o.b, .int .i64 cf.o.c, .int .i64 cf.o.d] 40))
            clear hrp
            by_cases hneg : cf.num < 0
            · have HF : Hid (so = (2, (k : Int))) := by unfold Hid; rw [hstep.out, badC_out (.inl hneg)]; rfl
              clear hstep
              have hf := HF.out
              subst hf
              go_wp2_with fail
              go_quiet (fail)
              go_wp2_with fail
              refine (two_any _).mono ?_
              rintro e w5 ⟨rfl, hb5⟩
              go_wp2_with fail
              go_ret
              exact ⟨rfl, HBW.out.trans (((below_drewN HBO.out _).trans (hb5.mono HBO.out.size)).mono hwW)⟩
            · have hneg2 : decide (cf.num < 0) = false := by rw [decide_eq_false_iff_not]; omega
              by_cases hout : (qs.length : Int) ≤ cf.num
              · have HF : Hid (so = (2, (k : Int))) := by unfold Hid; rw [hstep.out, badC_out (.inr (by rw [hql.out]; exact hout))]; rfl
                clear hstep hneg
                have hf := HF.out
                subst hf
                go_wp2_with fail
                go_quiet (fail)
                go_wp2_with fail
                refine (two_any _).mono ?_
                rintro e w5 ⟨rfl, hb5⟩
                go_wp2_with fail
                go_ret
                exact ⟨rfl, HBW.out.trans (((below_drewN HBO.out _).trans (hb5.mono HBO.out.size)).mono hwW)⟩
              · have hout2 : decide ((qs.length : Int) ≤ cf.num) = false := by rw [decide_eq_false_iff_not]; omega
                obtain ⟨cn, cg, co⟩ := cf
                simp only at hg4 hstep k0 k1 k2 k3 k4 k5 hneg hout hneg2 hout2 HRP HBO
                obtain ⟨m, rfl⟩ : ∃ m : Nat, cn = (m : Int) := ⟨cn.toNat, by omega⟩
                have hmq : m < qs.length := by omega
                have hmc : m < cs.length := by have := hql.out; omega
                have hbad : Hid (badC cs ⟨(m : Int), cg, co⟩ = !(cfgEqB ⟨(m : Int), cg, co⟩ cs[m])) := badC_in m rfl hmc
                obtain ⟨g2, c2', hV2, _, hg2, r0, r1, r2, r3, r4, r5⟩ := HJW.out.get (List.getElem?_eq_getElem hmq)
                injection hV2 with hA2 _ hcc2
                injection hA2 with hA2
                injection hA2 with hA2 _ _
                subst hA2
                clear hcc2
                have hrq := Rd.of_own (HJW.out.own _ (List.getElem_mem hmq))
                have hok := HJW.out.ok _ (List.getElem_mem hmq)
                have hce : cs[m] = qs[m].1 := by have e := HMQ.out; subst e; simp
                rw [hce] at hbad
                generalize qs[m] = q at *
                obtain ⟨dc, s2⟩ := q
                obtain ⟨_, A2, c2'', hs2, _, _⟩ := id hrq
                simp only at hs2 hrq hok r0 r1 r2 r3 r4 r5 hbad
                subst hs2
                have hd4 := (check_bounds hok).2.2.1
                clear hce hok
                obtain ⟨bb, hbb⟩ : ∃ bb, bb = cfgEqB ⟨(m : Int), cg, co⟩ dc := ⟨_, rfl⟩
                have hkm : Blk (wo.alloc (.cells #[.int .i64 (m : Int), .slice As cg.length cS, .int .i64 co.a, .int .i64 co.b, .int .i64 co.c, .int .i64 co.d] 40)) wo.heap.size 40 (cfgCells m (.slice As cg.length cS) co) := Blk.new wo _ _
                have HRM : Hid (Below w.heap.size w (wo.alloc (.cells #[.int .i64 (m : Int), .slice As cg.length cS, .int .i64 co.a, .int .i64 co.b, .int .i64 co.c, .int .i64 co.d] 40))) := HBW.out.trans (HBO.out.mono hwW)
                have hm0 : (0 : Int) ≤ (m : Int) := by omega
                have hm1 : (m : Int) < (qs.length : Int) := by omega
                go_upto_region 12 with fail
                clear k0 k1 k2 k3 k4 k5 hj0
                generalize wo.heap.size = bx at *
                generalize wo.alloc (.cells #[.int .i64 (m : Int), .slice As cg.length cS, .int .i64 co.a, .int .i64 co.b, .int .i64 co.c, .int .i64 co.d] 40) = V at *
                have hVW : W.heap.size ≤ V.heap.size := HBO.out.size
                have HSS : Hid (∀ w', Below V.heap.size V w' → w'.cell? ⟨bx, 0, none⟩ = some (.int .i64 (m : Int)) ∧ w'.cell? ⟨bx, 1, none⟩ = some (.slice As cg.length cS) ∧ w'.cell? ⟨bx, 2, none⟩ = some (.int .i64 co.a) ∧ w'.cell? ⟨bx, 3, none⟩ = some (.int .i64 co.b) ∧ w'.cell? ⟨bx, 4, none⟩ = some (.int .i64 co.c) ∧ w'.cell? ⟨bx, 5, none⟩ = some (.int .i64 co.d) ∧ w'.cell? ⟨w3.heap.size, 0, none⟩ = some (.slice (some ⟨gj, 0, none⟩) qs.length cj) ∧ w'.cell? ⟨gj, m * 6, none⟩ = some (.int .i64 dc.num) ∧ w'.cell? ⟨gj, m * 6 + 1, none⟩ = some (.slice A2 dc.gs.length c2'') ∧ w'.cell? ⟨gj, m * 6 + 2, none⟩ = some (.int .i64 dc.o.a) ∧ w'.cell? ⟨gj, m * 6 + 3, none⟩ = some (.int .i64 dc.o.b) ∧ w'.cell? ⟨gj, m * 6 + 4, none⟩ = some (.int .i64 dc.o.c) ∧ w'.cell? ⟨gj, m * 6 + 5, none⟩ = some (.int .i64 dc.o.d)) := fun w' h => by
                  obtain ⟨e0, e1, e2, e3, e4, e5⟩ := keep6 hkm h
                  have hh := HBO.out.trans (h.mono hVW)
                  exact ⟨e0, e1, e2, e3, e4, e5, (hh.cell (p := ⟨w3.heap.size, 0, none⟩) hw3).trans (HKB.out.cell 0),
                    (hh.cell (p := ⟨gj, m * 6, none⟩) hg2).trans r0, (hh.cell (p := ⟨gj, m * 6 + 1, none⟩) hg2).trans r1, (hh.cell (p := ⟨gj, m * 6 + 2, none⟩) hg2).trans r2, (hh.cell (p := ⟨gj, m * 6 + 3, none⟩) hg2).trans r3, (hh.cell (p := ⟨gj, m * 6 + 4, none⟩) hg2).trans r4, (hh.cell (p := ⟨gj, m * 6 + 5, none⟩) hg2).trans r5⟩
                have HSM : Hid (∀ w', Below V.heap.size V w' → Calls Try.prog 11 #[.agg #[.int .i64 (m : Int), .slice As cg.length cS, .int .i64 co.a, .int .i64 co.b, .int .i64 co.c, .int .i64 co.d], .agg #[.int .i64 dc.num, .slice A2 dc.gs.length c2'', .int .i64 dc.o.a, .int .i64 dc.o.b, .int .i64 dc.o.c, .int .i64 dc.o.d]] w' fun e w'' => e = .returned (.bool bb) ∧ Below w'.heap.size w' w'') := fun w' h => by
                  have hh := HBO.out.trans (h.mono hVW)
                  have := same28_any ⟨(m : Int), cg, co⟩ dc As cS A2 c2'' w' W.heap.size hh.size ((HRP.out.below (HBW.out.trans (hh.mono hwW))).more hwW) (hrq.below hh) hg4 (by omega)
                  rwa [← hbb] at this
                have HBAD : Hid (badC cs ⟨(m : Int), cg, co⟩ = !bb) := by unfold Hid; rw [hbad.out, hbb]
                clear r0 r1 r2 r3 r4 r5 hrq hbad hbb hkm
                cases bb
                all_goals
                  go_region_held3 (fun w' => w'.cell? ⟨bx, 0, none⟩ = some (.int .i64 (m : Int)) ∧ w'.cell? ⟨bx, 1, none⟩ = some (.slice As cg.length cS) ∧ w'.cell? ⟨bx, 2, none⟩ = some (.int .i64 co.a) ∧ w'.cell? ⟨bx, 3, none⟩ = some (.int .i64 co.b) ∧ w'.cell? ⟨bx, 4, none⟩ = some (.int .i64 co.c) ∧ w'.cell? ⟨bx, 5, none⟩ = some (.int .i64 co.d) ∧ w'.cell? ⟨w3.heap.size, 0, none⟩ = some (.slice (some ⟨gj, 0, none⟩) qs.length cj) ∧ w'.cell? ⟨gj, m * 6, none⟩ = some (.int .i64 dc.num) ∧ w'.cell? ⟨gj, m * 6 + 1, none⟩ = some (.slice A2 dc.gs.length c2'') ∧ w'.cell? ⟨gj, m * 6 + 2, none⟩ = some (.int .i64 dc.o.a) ∧ w'.cell? ⟨gj, m * 6 + 3, none⟩ = some (.int .i64 dc.o.b) ∧ w'.cell? ⟨gj, m * 6 + 4, none⟩ = some (.int .i64 dc.o.c) ∧ w'.cell? ⟨gj, m * 6 + 5, none⟩ = some (.int .i64 dc.o.d))
                    ((refine HSS.out _ ?_; simp only [bl_drew, bl_refl, *]))
                    (first
                      | (go_at_call 12; refine Calls.mono (config_any ⟨(m : Int), cg, co⟩ _ _ _ _) ?_; rintro e w5 ⟨rfl, hb5⟩; have hbl5 : Below V.heap.size V w5 := below_then (by simp only [bl_drew, bl_refl, *]) hb5; clear hb5; unfold Cfg.val; simp only)
                      | (go_at_call 11; refine Calls.mono (HSM.out _ (by simp only [bl_drew, bl_refl, *])) ?_; rintro e w6 ⟨rfl, hb6⟩; have hbl6 : Below V.heap.size V w6 := below_then (by simp only [bl_drew, bl_refl, *]) hb6; clear hb6))
                case false =>
                  have HF : Hid (so = (2, (k : Int))) := by unfold Hid; rw [hstep.out, HBAD.out]; rfl
                  have hfin := Lib.hid (HBO.out.trans (hbl6.mono hVW))
                  clear hstep hbl5 hbl6
                  have hf := HF.out
                  subst hf
                  go_wp2_with fail
                  refine (two_any _).mono ?_
                  rintro e w7 ⟨rfl, hb7⟩
                  go_wp2_with fail
                  go_ret
                  exact ⟨rfl, HBW.out.trans ((hfin.out.trans (hb7.mono hfin.out.size)).mono hwW)⟩
                case true =>
                  have HF : Hid (so = seenS cs ((ps.map (·.1)).drop (k + 1)) (k + 1)) := by unfold Hid; rw [hstep.out, HBAD.out]; rfl
                  have hfin := Lib.hid (HBO.out.trans (hbl6.mono hVW))
                  clear hstep hbl5 hbl6
                  go_wp2_with fail
                  go_roundw
                  case rel => exact ⟨k + 1, by omega, by go_num, hfin.out, HF⟩
                  case measure => simp [intOf]; omega
          · obtain rfl : k = ps.length := by omega
            have HF : Hid (so = (0, 0)) := by unfold Hid; rw [hS.out, List.drop_of_length_le (by simp)]; rfl
            clear hS
            have hf := HF.out
            subst hf
            go_wp2_with fail
            refine (two_any _).mono ?_
            rintro e w5 ⟨rfl, hb5⟩
            go_wp2_with fail
            go_ret
            exact ⟨rfl, HBW.out.trans ((hq.out.trans (hb5.mono hq.out.size)).mono hwW)⟩
      · simp only [if_pos h0] at HCK
        go_enter Try.func5, Try.ntmps5
        go_wp2_with fail
        refine HLG.out.mono ?_
        rintro e w0 ⟨rfl, hb0⟩
        have HB0 := Lib.hid hb0
        have hck := HCK.out w0 hb0
        clear hb0 HLG HCK
        go_wp2_with fail
        refine hck.mono ?_
        rintro e w1 ⟨rfl, hb1⟩
        have HB1 := Lib.hid (HB0.out.trans (hb1.mono HB0.out.size))
        clear hb1 hck
        go_wp2_with fail
        refine (HRU.out w1 HB1.out).mono ?_
        rintro e w2 ⟨vr, rfl, hown2, hb2⟩
        have HB2 := Lib.hid (HB1.out.trans (hb2.mono HB1.out.size))
        have hjg := HJG.out vr w2 (Rd.of_own hown2)
        obtain ⟨Ar, c2, rfl⟩ := own_shape hown2
        clear hown2 hb2
        go_wp2_with fail
        refine hjg.mono ?_
        rintro e w3 ⟨vj, qs, rfl, hrowj, hmapj, hqlen, hb3⟩
        have HB3 := Lib.hid (HB2.out.trans (hb3.mono HB2.out.size))
        have HRJ := Lib.hid hrowj
        have HMJ := Lib.hid hmapj
        obtain ⟨gj, cj, rfl, _, _⟩ := hrowj.row.form hrowj.pos
        clear hrowj hb3 hmapj hjg HJG HRU
        go_wp2_with fail
        refine (two_any _).mono ?_
        rintro e w4 ⟨rfl, hb4⟩
        go_wp2_with fail
        go_ret
        exact ⟨rfl, HB3.out.trans ((((Below.refl _ w3).alloc (Nat.le_refl _) _).trans (hb4.mono (by simp))).mono HB3.out.size)⟩

end Go.Proofs.Ytgelgjjhpioihaa
