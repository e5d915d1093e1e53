/- MarkSteps: the document's Adopt. -/
import Derived.Test.YtogpbldipmcbdaaDoorKr
set_option linter.unusedVariables false
set_option linter.unusedSimpArgs false
set_option linter.unnecessarySimpa false
namespace Go.Proofs.YtogpbldipmcbdaaDoor
open Go.RowKit Go.Shelf

set_option maxHeartbeats 4000000 in
set_option maxRecDepth 100000 in
theorem radopt_any (B : Nat) (r : RMk) (ct : Bs) (cg : Int) (tags : List TagV) (A : Option Addr) (cap : Nat) (w : World) (h : RMkAt w B r) (hct : ct.length ≤ 1000000000) (ho : w.ownsRow 0 95 2 (.slice A tags.length cap) tags.length (cellsT tags)) :
    Calls Tryd.prog 20 #[.pointer (some ⟨B, 0, none⟩), .agg #[.string ⟨ct.toArray⟩, .int .i64 cg, .slice A tags.length cap]] w fun e w' =>
      e = .returned (.tuple #[.bool (radoptS r ⟨ct, cg, tags⟩).ok, .int .i64 (radoptS r ⟨ct, cg, tags⟩).e]) ∧ RMkAt w' B (radoptS r ⟨ct, cg, tags⟩).m ∧ Chg (fun k => k = B) w w' := by
  have hf0 := h.ok.1
  have hf3 := h.ok.2
  have hb0 := below_alloc1 w (.cells #[.string ⟨ct.toArray⟩, .int .i64 cg, .slice A tags.length cap] 60)
  have hB0 := Blk.new w 60 #[.string ⟨ct.toArray⟩, .int .i64 cg, .slice A tags.length cap]
  have hM0 := h.below hb0
  have hO0 := own_below ho hb0
  have hBl := h.lt
  go_enter Tryd.func20, Tryd.ntmps20
  go_wp2_with fail
  refine (rmread_any ct hct _).mono ?_
  rintro e w1 ⟨rfl, hb1⟩
  have hb01 := hb0.trans (hb1.mono (by simp))
  have hb02 := Lib.hid (hb01.alloc hb01.size (.cells #[.int .i64 (mrkR ct).g, .int .i64 (mrkR ct).n, .string ⟨(mrkR ct).s.toArray⟩] 46))
  have hB1 := Lib.hid ((hB0.below hb1 hB0.lt).alloc (.cells #[.int .i64 (mrkR ct).g, .int .i64 (mrkR ct).n, .string ⟨(mrkR ct).s.toArray⟩] 46))
  have hM1 := (hM0.below hb1).below (below_alloc1 w1 (.cells #[.int .i64 (mrkR ct).g, .int .i64 (mrkR ct).n, .string ⟨(mrkR ct).s.toArray⟩] 46))
  have hO1 := Lib.hid ((own_below hO0 hb1).alloc (.cells #[.int .i64 (mrkR ct).g, .int .i64 (mrkR ct).n, .string ⟨(mrkR ct).s.toArray⟩] 46))
  have hS1 := Lib.hid (Blk.new w1 46 #[.int .i64 (mrkR ct).g, .int .i64 (mrkR ct).n, .string ⟨(mrkR ct).s.toArray⟩])
  have hsz : w.heap.size < w1.heap.size := by have := hb1.size; simp at this; omega
  clear hb0 hB0 hM0 hO0 hb01 hb1 ho h
  go_upto_region 2 with (fail)
  have HC1 : Hid (Chg (fun k => k = B) w _) := Chg.of_below hb02.out
  clear hb02
  generalize w1.alloc (.cells #[.int .i64 (mrkR ct).g, .int .i64 (mrkR ct).n, .string ⟨(mrkR ct).s.toArray⟩] 46) = W at *
  generalize w1.heap.size = S at *
  obtain ⟨A3, c3, A4, c4, h1, h2, h3⟩ := hM1.own
  have b0 : W.cell? ⟨B, 0, none⟩ = some (.int .i64 r.g) := h1.cell 0
  have x1 : W.cell? ⟨w.heap.size, 1, none⟩ = some (.int .i64 cg) := hB1.out.cell 1
  have s0 : W.cell? ⟨S, 0, none⟩ = some (.int .i64 (mrkR ct).g) := hS1.out.cell 0
  have H1 := Lib.hid h1
  have H2 := Lib.hid h2
  have H3 := Lib.hid h3
  have HM := Lib.hid hM1
  clear h1 h2 h3 hM1
  by_cases hgd : (mrkR ct).e = 0 ∧ (mrkR ct).g = r.g ∧ cg = r.g
  · obtain ⟨g1, g2, g3⟩ := hgd
    have ev0 : Hid (radoptS r ⟨ct, cg, tags⟩ = if (mrkR ct).n ≤ r.n then ⟨r, false, 0⟩ else ⟨{ r with sg := (mrkR ct).g, n := (mrkR ct).n, s := (mrkR ct).s, c := ⟨ct, cg, tags⟩ }, true, 0⟩) := if_pos ⟨g1, g2, g3⟩
    rw [g2] at s0
    rw [g3] at x1
    rename (∀ (a : Act) (w : World), Code.wp _ _ _ a w → _) => ha
    go_quiet (fail)
    refine ha _ _ ?_
    clear b0 x1 s0 ha g2 g3
    replace HM := Lib.hid (HM.out.below (below_drewN (Below.refl _ _) nq))
    replace HC1 := Lib.hid (HC1.out.drewN nq)
    replace hB1 := Lib.hid (hB1.out.drewN nq)
    replace hS1 := Lib.hid (hS1.out.drewN nq)
    replace hO1 : Hid (World.ownsRow (W.drewN nq) _ _ _ _ _ _) := hO1.out
    replace H1 := Lib.hid (H1.out.drewN nq)
    replace H2 : Hid (World.ownsRow (W.drewN nq) _ _ _ _ _ _) := H2.out
    replace H3 : Hid (World.ownsRow (W.drewN nq) _ _ _ _ _ _) := H3.out
    go_upto_region 4 with (fail)
    generalize W.drewN nq = W2 at *
    have s1 : W2.cell? ⟨S, 1, none⟩ = some (.int .i64 (mrkR ct).n) := hS1.out.cell 1
    have b4 : W2.cell? ⟨B, 4, none⟩ = some (.int .i64 r.n) := H1.out.cell 4
    by_cases hle : (mrkR ct).n ≤ r.n
    · have ev1 : Hid (radoptS r ⟨ct, cg, tags⟩ = ⟨r, false, 0⟩) := by unfold Hid; rw [ev0.out, if_pos hle]
      rename (∀ (a : Act) (w : World), Code.wp _ _ _ a w → _) => ha
      go_quiet (fail)
      refine ha _ _ ?_
      go_wp2
      go_ret2
      exact ⟨by rw [ev1.out]; rfl, by rw [ev1.out]; exact HM.out.below (below_drewN (Below.refl _ _) _), HC1.out.drewN _⟩
    · have ev1 : Hid (radoptS r ⟨ct, cg, tags⟩ = ⟨{ r with sg := (mrkR ct).g, n := (mrkR ct).n, s := (mrkR ct).s, c := ⟨ct, cg, tags⟩ }, true, 0⟩) := by unfold Hid; rw [ev0.out, if_neg hle]
      rename (∀ (a : Act) (w : World), Code.wp _ _ _ a w → _) => ha
      go_quiet (fail)
      refine ha _ _ ?_
      clear s1 b4 ha HM
      go_upto_region 6 with (fail)
      have gB := H1.out.drewN nq
      have gX := Lib.hid (hB1.out.drewN nq)
      have gS := hS1.out.drewN nq
      have gO : Hid (World.ownsRow (W2.drewN nq) _ _ _ _ _ _) := hO1.out
      have g2' : Hid (World.ownsRow (W2.drewN nq) _ _ _ _ _ _) := H2.out
      have gC := Lib.hid (HC1.out.drewN nq)
      clear H1 hB1 hS1 hO1 H2 H3 HC1
      generalize W2.drewN nq = W3 at *
      have s0 : W3.cell? ⟨S, 0, none⟩ = some (.int .i64 (mrkR ct).g) := gS.cell 0
      have s1 : W3.cell? ⟨S, 1, none⟩ = some (.int .i64 (mrkR ct).n) := gS.cell 1
      have s2 : W3.cell? ⟨S, 2, none⟩ = some (.string ⟨(mrkR ct).s.toArray⟩) := gS.cell 2
      have b3 : W3.cell? ⟨B, 3, none⟩ = some (.int .i64 r.sg) := gB.cell 3
      have b4 : W3.cell? ⟨B, 4, none⟩ = some (.int .i64 r.n) := gB.cell 4
      have b5 : W3.cell? ⟨B, 5, none⟩ = some (.string ⟨r.s.toArray⟩) := gB.cell 5
      have f3 := gB.frozen 3
      have f4 := gB.frozen 4
      have f5 := gB.frozen 5
      have hNB : w.heap.size ≠ B := by omega
      have GB := Lib.hid gB
      clear gB gS
      go_upto_region 7 with (fail)
      have kB := ((GB.out.set_ 3 (.int .i64 (mrkR ct).g)).set_ 4 (.int .i64 (mrkR ct).n)).set_ 5 (.string ⟨(mrkR ct).s.toArray⟩)
      have kX := (((gX.out.far (p := ⟨B, 3, none⟩) hNB (.int .i64 (mrkR ct).g)).far (p := ⟨B, 4, none⟩) hNB (.int .i64 (mrkR ct).n)).far (p := ⟨B, 5, none⟩) hNB (.string ⟨(mrkR ct).s.toArray⟩))
      have cc := ((((Chg.refl (fun k => k = B) W3).setCell (p := ⟨B, 3, none⟩) (fun _ => rfl) (.int .i64 (mrkR ct).g)).setCell (p := ⟨B, 4, none⟩) (fun _ => rfl) (.int .i64 (mrkR ct).n)).setCell (p := ⟨B, 5, none⟩) (fun _ => rfl) (.string ⟨(mrkR ct).s.toArray⟩))
      have kC := Lib.hid (gC.out.trans cc (fun i _ e => e))
      have k2 := Lib.hid (cc.owns g2'.out (fun g hg e => own_blk_ne g2'.out GB.out (by decide) (by rw [hg, e])))
      have kO := Lib.hid (cc.owns gO.out (fun g hg e => own_blk_ne gO.out GB.out (by decide) (by rw [hg, e])))
      clear cc s0 s1 s2 b3 b4 b5 f3 f4 f5 GB gX gO g2' gC
      generalize ((W3.setCell ⟨B, 3, none⟩ (.int .i64 (mrkR ct).g)).setCell ⟨B, 4, none⟩ (.int .i64 (mrkR ct).n)).setCell ⟨B, 5, none⟩ (.string ⟨(mrkR ct).s.toArray⟩) = W4 at *
      have x0 : W4.cell? ⟨w.heap.size, 0, none⟩ = some (.string ⟨ct.toArray⟩) := kX.cell 0
      have x1 : W4.cell? ⟨w.heap.size, 1, none⟩ = some (.int .i64 cg) := kX.cell 1
      have x2 : W4.cell? ⟨w.heap.size, 2, none⟩ = some (.slice A tags.length cap) := kX.cell 2
      have b6 : W4.cell? ⟨B, 6, none⟩ = some (.string ⟨r.c.t.toArray⟩) := kB.cell 6
      have b7 : W4.cell? ⟨B, 7, none⟩ = some (.int .i64 r.c.g) := kB.cell 7
      have b8 : W4.cell? ⟨B, 8, none⟩ = some (.slice A4 r.c.tags.length c4) := kB.cell 8
      have f6 := kB.frozen 6
      have f7 := kB.frozen 7
      have f8 := kB.frozen 8
      have KB := Lib.hid kB
      clear kB kX
      go_wp2
      go_ret2
      have cc := ((((Chg.refl (fun k => k = B) W4).setCell (p := ⟨B, 6, none⟩) (fun _ => rfl) (.string ⟨ct.toArray⟩)).setCell (p := ⟨B, 7, none⟩) (fun _ => rfl) (.int .i64 cg)).setCell (p := ⟨B, 8, none⟩) (fun _ => rfl) (.slice A tags.length cap))
      have hgb := ((KB.out.set_ 6 (.string ⟨ct.toArray⟩)).set_ 7 (.int .i64 cg)).set_ 8 (.slice A tags.length cap)
      refine ⟨by rw [ev1.out]; rfl, ?_, kC.out.trans cc (fun i _ e => e)⟩
      rw [ev1.out]
      refine ⟨⟨_, _, _, _, hgb, ?_, ?_⟩, hf0, hf3⟩
      · exact cc.owns k2.out (fun g hg e => own_blk_ne k2.out KB.out (by decide) (by rw [hg, e]))
      · exact cc.owns kO.out (fun g hg e => own_blk_ne kO.out KB.out (by decide) (by rw [hg, e]))
  · have ev0 : Hid (radoptS r ⟨ct, cg, tags⟩ = ⟨r, false, 4⟩) := if_neg hgd
    have hbad : ¬ (mrkR ct).e = 0 ∨ ((mrkR ct).e = 0 ∧ ¬ (mrkR ct).g = r.g) ∨ ((mrkR ct).e = 0 ∧ (mrkR ct).g = r.g ∧ ¬ cg = r.g) := by omega
    clear hgd
    rcases hbad with h1 | ⟨h1, h2⟩ | ⟨h1, h2, h3⟩
    all_goals
      try rw [h2] at s0
      rename (∀ (a : Act) (w : World), Code.wp _ _ _ a w → _) => ha
      go_quiet (fail)
      refine ha _ _ ?_
      go_wp2
      go_ret2
      exact ⟨by rw [ev0.out]; rfl, by rw [ev0.out]; exact HM.out.below (below_drewN (Below.refl _ _) _), HC1.out.drewN _⟩

end Go.Proofs.YtogpbldipmcbdaaDoor
