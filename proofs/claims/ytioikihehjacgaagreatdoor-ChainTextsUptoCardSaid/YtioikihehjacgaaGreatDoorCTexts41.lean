/- The configuration of a text: the program's. -/
import Derived.Test.YtioikihehjacgaaGreatDoorCTexts40
set_option linter.unusedVariables false
set_option linter.unusedSimpArgs false
set_option linter.unnecessarySimpa false
namespace Go.Proofs.YtioikihehjacgaaGreatDoor
open Go.RowKit Go.Shelf

theorem rd_fourT {w : World} {B : Nat} {v : Value} {a b c d : Bs} (h : Rd w B 1 v 4 (strs [a, b, c, d])) :
    ∃ g off cap, v = .slice (some ⟨g, off, none⟩) 4 cap ∧ g < B ∧ w.cell? ⟨g, off, none⟩ = some (.string ⟨a.toArray⟩) ∧ w.cell? ⟨g, off + 1, none⟩ = some (.string ⟨b.toArray⟩) ∧ w.cell? ⟨g, off + 2, none⟩ = some (.string ⟨c.toArray⟩) ∧ w.cell? ⟨g, off + 3, none⟩ = some (.string ⟨d.toArray⟩) := by
  obtain ⟨_, A, cap, rfl, _, h0 | ⟨g, off, rfl, hg, hc⟩⟩ := h
  · omega
  · exact ⟨g, off, cap, rfl, hg, hc 0 _ rfl, hc 1 _ rfl, hc 2 _ rfl, hc 3 _ rfl⟩
theorem rd_int4 {w : World} {B : Nat} {v : Value} {a b c d : Int} (h : Rd w B 1 v 4 (ints [a, b, c, d])) :
    ∃ g off cap, v = .slice (some ⟨g, off, none⟩) 4 cap ∧ 4 ≤ cap ∧ g < B ∧ w.cell? ⟨g, off, none⟩ = some (.int .i64 a) ∧ w.cell? ⟨g, off + 1, none⟩ = some (.int .i64 b) ∧ w.cell? ⟨g, off + 2, none⟩ = some (.int .i64 c) ∧ w.cell? ⟨g, off + 3, none⟩ = some (.int .i64 d) := by
  obtain ⟨_, A, cap, rfl, hnc, h0 | ⟨g, off, rfl, hg, hc⟩⟩ := h
  · omega
  · exact ⟨g, off, cap, rfl, hnc, hg, hc 0 _ rfl, hc 1 _ rfl, hc 2 _ rfl, hc 3 _ rfl⟩
theorem arr_at (a : Option Addr) (cap : Nat) (w : World) : (Instr.arrayAt 23 (.slice a 4 cap)).run Tryz.prog w = .ok (.pointer a) w := by
  simp [Instr.arrayAt, run_underlying Tryz.underlying23]
attribute [go_sem] arr_at
theorem four_of {α : Type} (l : List α) (h : l.length = 4) : ∃ a b c d, l = [a, b, c, d] := by
  match l, h with
  | [a, b, c, d], _ => exact ⟨a, b, c, d, rfl⟩
theorem cfgRd_bad (t : Bs) (h : ¬ (unpackB t).2 = 0) : cfgRd t = (cfg00, 4) := by
  rw [show cfgRd t = match (unpackB t).1 with | [a, b, c, d] => if (unpackB t).2 = 0 then cfgL a b c d else (cfg00, 4) | _ => (cfg00, 4) from rfl]
  split
  · rw [if_neg h]
  · rfl
theorem cfgRd_not4 (t : Bs) (h : ¬ (unpackB t).1.length = 4) : cfgRd t = (cfg00, 4) := by
  rw [show cfgRd t = match (unpackB t).1 with | [a, b, c, d] => if (unpackB t).2 = 0 then cfgL a b c d else (cfg00, 4) | _ => (cfg00, 4) from rfl]
  split
  · rename_i hx; rw [hx] at h; exact absurd rfl h
  · rfl
theorem cfgRd_four {t a b c d : Bs} (h : (unpackB t).2 = 0) (h4 : (unpackB t).1 = [a, b, c, d]) : cfgRd t = cfgL a b c d := by
  unfold cfgRd
  rw [h4]
  simp only
  rw [if_pos h]
theorem cfgO_bad (n : Int) (gs o : List Int) (h : ¬ o.length = 4) : cfgO n gs o = (cfg00, 4) := by
  unfold cfgO
  split
  · exact absurd rfl h
  · rfl
/-- What a reader of configurations answers. -/
def CfgPost (r : Cfg × Int) (w : World) (e : Ending) (w' : World) : Prop := ∃ s', e = .returned (.tuple #[r.1.val s', .int .i64 r.2]) ∧ w'.ownsRow w.heap.size 3 1 s' r.1.gs.length (ints r.1.gs) ∧ Below w.heap.size w w'
theorem blkZ {w w1 : World} {t : TypeId} (hb : Below (w.alloc (.cells #[.int .i64 0, .slice none 0 0, .int .i64 0, .int .i64 0, .int .i64 0, .int .i64 0] t)).heap.size (w.alloc (.cells #[.int .i64 0, .slice none 0 0, .int .i64 0, .int .i64 0, .int .i64 0, .int .i64 0] t)) w1) : Blk w1 w.heap.size t (cfgCells 0 (.slice none 0 0) ⟨0, 0, 0, 0⟩) := Blk.below (Blk.new w t _) hb (by simp)
theorem fr6 {W : World} {b : Nat} {t : TypeId} {cs : Array Value} (h : Blk W b t cs) : W.frozen? ⟨b, 0, none⟩ = false ∧ W.frozen? ⟨b, 1, none⟩ = false ∧ W.frozen? ⟨b, 2, none⟩ = false ∧ W.frozen? ⟨b, 3, none⟩ = false ∧ W.frozen? ⟨b, 4, none⟩ = false ∧ W.frozen? ⟨b, 5, none⟩ = false := ⟨h.frozen 0, h.frozen 1, h.frozen 2, h.frozen 3, h.frozen 4, h.frozen 5⟩
theorem blk_c6 {W : World} {b : Nat} {t : TypeId} {num : Int} {s : Value} {o : Own} (h : Blk W b t (cfgCells num s o)) : W.cell? ⟨b, 0, none⟩ = some (.int .i64 num) ∧ W.cell? ⟨b, 1, none⟩ = some s ∧ W.cell? ⟨b, 2, none⟩ = some (.int .i64 o.a) ∧ W.cell? ⟨b, 3, none⟩ = some (.int .i64 o.b) ∧ W.cell? ⟨b, 4, none⟩ = some (.int .i64 o.c) ∧ W.cell? ⟨b, 5, none⟩ = some (.int .i64 o.d) := ⟨h.cell 0, h.cell 1, h.cell 2, h.cell 3, h.cell 4, h.cell 5⟩

set_option maxHeartbeats 8000000 in
set_option maxRecDepth 100000 in
theorem cread_any (t : Bs) (ht : t.length ≤ 1000000000) (w : World) (hl : Lay w) :
    Calls Tryz.prog 8 #[.string ⟨t.toArray⟩] w (CfgPost (cfgRd t) w) := by
  have hal := (Below.refl w.heap.size w).alloc (Nat.le_refl _) (.cells #[.int .i64 0, .slice none 0 0, .int .i64 0, .int .i64 0, .int .i64 0, .int .i64 0] 25)
  have hU := unpack_any t (by omega) _ (hl.later hal)
  have hsm := unpackB_small t
  have HAL := Lib.hid hal
  clear hal
  by_cases he : (unpackB t).2 = 0
  · rw [he] at hU
    by_cases h4 : (unpackB t).1.length = 4
    · obtain ⟨a, b, c, d, hl4⟩ := four_of _ h4
      rw [hl4] at hU hsm
      have hbl := hsm.2 b (by simp)
      have hcl := hsm.2 c (by simp)
      have hdl := hsm.2 d (by simp)
      rw [cfgRd_four he hl4]
      clear he h4 hl4 hsm
      by_cases ha : a = wCfg
      · have ha2 : a.toArray = #[99, 111, 110, 102, 105, 103] := by rw [ha]; rfl
        have HLc : Hid (cfgL a b c d = if (toNumB b).2 = 0 ∧ (listedB c).2 = 0 ∧ (listedB d).2 = 0 then cfgO (toNumB b).1 (listedB c).1 (listedB d).1 else (cfg00, 4)) := by
          unfold Hid cfgL
          by_cases hq : (toNumB b).2 = 0 ∧ (listedB c).2 = 0 ∧ (listedB d).2 = 0
          · rw [if_pos hq, if_pos ⟨ha, hq⟩]
          · rw [if_neg hq, if_neg (fun h => hq h.2)]
        clear ha
        go_enter Tryz.func8, Tryz.ntmps8
        go_wp2_with fail
        refine hU.mono ?_
        rintro e W1 ⟨v, rfl, hv, hb1⟩
        have hz1 := Lib.hid (blkZ hb1)
        have HB1 := Lib.hid (HAL.out.trans (hb1.mono HAL.out.size))
        obtain ⟨g, off, cap, rfl, hg, c0, c1, c2, c3⟩ := rd_fourT (Rd.of_own hv)
        rw [ha2] at c0
        have hl1 := hl.later HB1.out
        clear hU hv hb1
        go_wp2_with fail
        refine (toNum_any b (by omega) _ hl1).mono ?_
        rintro e W2 ⟨rfl, hb2⟩
        have d2 := (hb2.cell (p := ⟨g, off + 2, none⟩) hg).trans c2
        have d3 := (hb2.cell (p := ⟨g, off + 3, none⟩) hg).trans c3
        have hg2 := Nat.lt_of_lt_of_le hg hb2.size
        have HB2 := Lib.hid (HB1.out.trans (hb2.mono HB1.out.size))
        have hz2 := Lib.hid (hz1.out.below hb2 hz1.out.lt)
        have hl2 := hl.later HB2.out
        clear c0 c1 c2 c3 hb2 hg hz1
        go_wp2_with fail
        refine (listed_any c (by omega) _ hl2).mono ?_
        rintro e W3 ⟨vc, rfl, hvc, hb3⟩
        have e3 := (hb3.cell (p := ⟨g, off + 3, none⟩) hg2).trans d3
        have HB3 := Lib.hid (HB2.out.trans (hb3.mono HB2.out.size))
        have hz3 := Lib.hid (hz2.out.below hb3 hz2.out.lt)
        have hl3 := hl.later HB3.out
        have HVC := Lib.hid (own_weaken hvc HB2.out.size)
        obtain ⟨Ac, ccap, rfl⟩ := own_shape hvc
        clear d2 d3 hb3 hz2 hvc hl2 hl1
        go_wp2_with fail
        refine (listed_any d (by omega) _ hl3).mono ?_
        rintro e W4 ⟨vd, rfl, hvd, hb4⟩
        have HB4 := Lib.hid (HB3.out.trans (hb4.mono HB3.out.size))
        have hz4 := Lib.hid (hz3.out.below hb4 hz3.out.lt)
        have HVC4 := Lib.hid (own_below HVC.out hb4)
        have HRD := Lib.hid (Rd.of_own hvd)
        obtain ⟨Ad, dcap, rfl⟩ := own_shape hvd
        clear e3 hb4 hz3 hvd hl3 HVC
        have hgc := listedB_count c
        generalize toNumB b = nb at *
        generalize listedB c = lc at *
        generalize listedB d = ld at *
        obtain ⟨n, en⟩ := nb
        obtain ⟨gs, eg⟩ := lc
        obtain ⟨os, eo⟩ := ld
        simp only at HLc HVC4 HRD hgc ⊢
        obtain ⟨z0, z1, z2, z3, z4, z5⟩ := blk_c6 hz4.out
        obtain ⟨f0, f1, f2, f3, f4, f5⟩ := fr6 hz4.out
        by_cases hgd : en = 0 ∧ eg = 0 ∧ eo = 0 ∧ os.length = 4
        · obtain ⟨rfl, rfl, rfl, h4⟩ := hgd
          obtain ⟨o0, o1, o2, o3, rfl⟩ := four_of _ h4
          obtain ⟨g5, off5, cap5, hV, hc5, hg5, q0, q1, q2, q3⟩ := rd_int4 HRD.out
          injection hV with hA _ hcc
          subst hA hcc
          clear h4
          have hLc : cfgL a b c d = cfgO n gs [o0, o1, o2, o3] := by rw [HLc.out, if_pos ⟨rfl, rfl, rfl⟩]
          have hW5 := (Below.refl W4.heap.size W4).alloc (Nat.le_refl _) (.cells #[.int .i64 n, .slice Ac gs.length ccap, .int .i64 o0, .int .i64 o1, .int .i64 o2, .int .i64 o3] 25)
          have hK5 : Blk (W4.alloc (.cells #[.int .i64 n, .slice Ac gs.length ccap, .int .i64 o0, .int .i64 o1, .int .i64 o2, .int .i64 o3] 25)) W4.heap.size 25 (cfgCells n (.slice Ac gs.length ccap) ⟨o0, o1, o2, o3⟩) := Blk.new W4 _ _
          have hC := check_any ⟨n, gs, ⟨o0, o1, o2, o3⟩⟩ (.slice Ac gs.length ccap) _ W4.heap.size hW5.size ((Rd.of_own HVC4.out).below hW5) (by simp only; omega)
          have HW5 := Lib.hid hW5
          have HK5 := Lib.hid hK5
          have hO : cfgO n gs [o0, o1, o2, o3] = if checkB ⟨n, gs, ⟨o0, o1, o2, o3⟩⟩ = true then (⟨n, gs, ⟨o0, o1, o2, o3⟩⟩, 0) else (cfg00, 4) := rfl
          have HO := Lib.hid (hLc.trans hO)
          clear hLc hO hW5 hK5 HLc
          cases hck : checkB ⟨n, gs, ⟨o0, o1, o2, o3⟩⟩ with
          | false =>
            have HF : Hid (cfgL a b c d = (cfg00, 4)) := by unfold Hid; rw [HO.out, hck]; rfl
            rw [hck] at hC
            clear hck HO
            go_wp2_with fail
            refine hC.mono ?_
            rintro e W6 ⟨rfl, hb6⟩
            have hz6 := (hz4.out.below HW5.out hz4.out.lt).below hb6 (Nat.lt_of_lt_of_le hz4.out.lt HW5.out.size)
            obtain ⟨z0, z1, z2, z3, z4, z5⟩ := blk_c6 hz6
            obtain ⟨f0, f1, f2, f3, f4, f5⟩ := fr6 hz6
            have HB6 := Lib.hid ((HB4.out.trans (HW5.out.mono HB4.out.size)).trans (hb6.mono (Nat.le_trans HB4.out.size HW5.out.size)))
            simp only [errC]
            clear hz6 hb6
            go_wp2
            refine bodyPost_ret (v := .tuple #[cfg00.val (.slice none 0 0), .int .i64 4]) (by simp [results, Tryz.results8, go_sem, z0, z1, z2, z3, z4, z5, Cfg.val, cfg00]) rfl ⟨_, by rw [HF.out], by rw [HF.out]; exact World.ownsRow_nil _ _ _ _, six_below HB6.out (Nat.le_refl _) _ _ _ _ _ _⟩
          | true =>
            have HF : Hid (cfgL a b c d = (⟨n, gs, ⟨o0, o1, o2, o3⟩⟩, 0)) := by unfold Hid; rw [HO.out, hck]; rfl
            rw [hck] at hC
            clear hck HO
            go_wp2_with fail
            refine hC.mono ?_
            rintro e W6 ⟨rfl, hb6⟩
            have hz6 := (hz4.out.below HW5.out hz4.out.lt).below hb6 (Nat.lt_of_lt_of_le hz4.out.lt HW5.out.size)
            have hk6 := HK5.out.below hb6 HK5.out.lt
            obtain ⟨z0, z1, z2, z3, z4, z5⟩ := blk_c6 hz6
            obtain ⟨f0, f1, f2, f3, f4, f5⟩ := fr6 hz6
            obtain ⟨k0, k1, k2, k3, k4, k5⟩ := blk_c6 hk6
            have HB6 := Lib.hid ((HB4.out.trans (HW5.out.mono HB4.out.size)).trans (hb6.mono (Nat.le_trans HB4.out.size HW5.out.size)))
            have HV6 := Lib.hid (own_below (own_below HVC4.out HW5.out) hb6)
            have HZ6 := Lib.hid hz6
            simp only [errC]
            clear hz6 hb6 hk6
            go_wp2
            refine bodyPost_ret (v := .tuple #[Cfg.val ⟨n, gs, ⟨o0, o1, o2, o3⟩⟩ (.slice Ac gs.length ccap), .int .i64 0]) (by simp [results, Tryz.results8, go_sem, z0, z1, z2, z3, z4, z5, Cfg.val]) rfl ⟨_, by rw [HF.out], ?_, six_below HB6.out (Nat.le_refl _) _ _ _ _ _ _⟩
            rw [HF.out]
            exact six_own HZ6.out HV6.out _ _ _ _ _ _
        · have HF : Hid (cfgL a b c d = (cfg00, 4)) := by
            unfold Hid
            rw [HLc.out]
            split
            · rename_i h
              exact cfgO_bad _ _ _ (fun h4 => hgd ⟨h.1, h.2.1, h.2.2, h4⟩)
            · rfl
          have hbad : ¬ en = 0 ∨ (en = 0 ∧ ¬ eg = 0) ∨ (en = 0 ∧ eg = 0 ∧ ¬ eo = 0) ∨ (en = 0 ∧ eg = 0 ∧ eo = 0 ∧ ¬ (os.length : Int) = 4) := by omega
          clear hgd HLc
          rcases hbad with h1 | ⟨h1, h2⟩ | ⟨h1, h2, h3⟩ | ⟨h1, h2, h3, h4⟩
          all_goals
            go_wp2
            refine bodyPost_ret (v := .tuple #[cfg00.val (.slice none 0 0), .int .i64 4]) (by simp [results, Tryz.results8, go_sem, z0, z1, z2, z3, z4, z5, Cfg.val, cfg00]) rfl ⟨_, by rw [HF.out], by rw [HF.out]; exact World.ownsRow_nil _ _ _ _, six_below HB4.out (Nat.le_refl _) _ _ _ _ _ _⟩
      · have HF : Hid (cfgL a b c d = (cfg00, 4)) := by unfold Hid cfgL; rw [if_neg (fun h => ha h.1)]
        have ha3 : (a == [99, 111, 110, 102, 105, 103]) = false := by simpa [wCfg] using ha
        go_enter Tryz.func8, Tryz.ntmps8
        go_wp2_with fail
        refine hU.mono ?_
        rintro e W1 ⟨v, rfl, hv, hb1⟩
        obtain ⟨z0, z1, z2, z3, z4, z5⟩ := blk_c6 (blkZ hb1)
        obtain ⟨f0, f1, f2, f3, f4, f5⟩ := fr6 (blkZ hb1)
        have HB1 := Lib.hid (HAL.out.trans (hb1.mono HAL.out.size))
        obtain ⟨g, off, cap, rfl, hg, c0, c1, c2, c3⟩ := rd_fourT (Rd.of_own hv)
        clear hU hv hb1
        go_wp2
        refine bodyPost_ret (v := .tuple #[cfg00.val (.slice none 0 0), .int .i64 4]) (by simp [results, Tryz.results8, go_sem, z0, z1, z2, z3, z4, z5, Cfg.val, cfg00]) rfl ⟨_, by rw [HF.out], by rw [HF.out]; exact World.ownsRow_nil _ _ _ _, six_below HB1.out (Nat.le_refl _) _ _ _ _ _ _⟩
    · have HF := Lib.hid (cfgRd_not4 t h4)
      have h4' : ¬ ((unpackB t).1.length : Int) = 4 := by omega
      go_enter Tryz.func8, Tryz.ntmps8
      go_wp2_with fail
      refine hU.mono ?_
      rintro e W1 ⟨v, rfl, hv, hb1⟩
      obtain ⟨A, c, rfl⟩ := own_shape hv
      obtain ⟨z0, z1, z2, z3, z4, z5⟩ := blk_c6 (blkZ hb1)
      obtain ⟨f0, f1, f2, f3, f4, f5⟩ := fr6 (blkZ hb1)
      have HB1 := Lib.hid (HAL.out.trans (hb1.mono HAL.out.size))
      clear hU hv hb1
      go_wp2
      refine bodyPost_ret (v := .tuple #[cfg00.val (.slice none 0 0), .int .i64 4]) (by simp [results, Tryz.results8, go_sem, z0, z1, z2, z3, z4, z5, Cfg.val, cfg00]) rfl ⟨_, by rw [HF.out], by rw [HF.out]; exact World.ownsRow_nil _ _ _ _, six_below HB1.out (Nat.le_refl _) _ _ _ _ _ _⟩
  · have HF := Lib.hid (cfgRd_bad t he)
    have h2 := unpackB_four t he
    rw [h2] at hU
    go_enter Tryz.func8, Tryz.ntmps8
    go_wp2_with fail
    refine hU.mono ?_
    rintro e W1 ⟨v, rfl, hv, hb1⟩
    obtain ⟨A, c, rfl⟩ := own_shape hv
    obtain ⟨z0, z1, z2, z3, z4, z5⟩ := blk_c6 (blkZ hb1)
    obtain ⟨f0, f1, f2, f3, f4, f5⟩ := fr6 (blkZ hb1)
    have HB1 := Lib.hid (HAL.out.trans (hb1.mono HAL.out.size))
    clear hU hv hb1
    go_wp2
    refine bodyPost_ret (v := .tuple #[cfg00.val (.slice none 0 0), .int .i64 4]) (by simp [results, Tryz.results8, go_sem, z0, z1, z2, z3, z4, z5, Cfg.val, cfg00]) rfl ⟨_, by rw [HF.out], by rw [HF.out]; exact World.ownsRow_nil _ _ _ _, six_below HB1.out (Nat.le_refl _) _ _ _ _ _ _⟩

end Go.Proofs.YtioikihehjacgaaGreatDoor
