/- Marks: a certificate adopted. -/
import Derived.Test.YtogpbldipmcbdaaDoorKh
set_option linter.unusedVariables false
set_option linter.unusedSimpArgs false
set_option linter.unnecessarySimpa false
namespace Go.Proofs.YtogpbldipmcbdaaDoor
open Go.RowKit Go.Shelf

def CrtV.crt (c : CrtV) : Crt := ⟨c.t, c.g, c.tags⟩
def adoptS (m : Mks) (c : Crt) : VoteR :=
  if (mrkR c.t).e = 0 ∧ (mrkR c.t).g = m.g ∧ c.g = m.g then
    (if (mrkR c.t).n ≤ m.n then ⟨m, false, 0⟩ else ⟨{ m with n := (mrkR c.t).n, s := (mrkR c.t).s, c := c }, true, 0⟩)
  else ⟨m, false, 4⟩

set_option maxHeartbeats 4000000 in
set_option maxRecDepth 100000 in
theorem madopt_any (B V : Nat) (m : Mks) (c : CrtV) (w : World) (hl : Lay w) (h : MkAt w B V m) (hc : c.Ok w) :
    Calls Tryd.prog 17 #[.pointer (some ⟨B, 0, none⟩), .agg c.cells.toArray] w fun e w' =>
      e = .returned (.tuple #[.bool (adoptS m c.crt).ok, .int .i64 (adoptS m c.crt).e]) ∧ MkAt w' B V (adoptS m c.crt).m ∧ Chg (fun k => k = B ∨ k = V) w w' := by
  obtain ⟨ct, cg, tags, A, cap⟩ := c
  have hrd := hc.rd
  have htl := hc.tl
  have hct := hc.t
  simp only at hrd htl hct
  clear hc
  simp only [CrtV.cells, CrtV.crt]
  have hb0 := below_alloc1 w (.cells #[.string ⟨ct.toArray⟩, .int .i64 cg, .slice A tags.length cap] 35)
  have hB0 := Blk.new w 35 #[.string ⟨ct.toArray⟩, .int .i64 cg, .slice A tags.length cap]
  have hM0 := h.below hb0
  have hR0 := hrd.below hb0
  have hl0 := hl.later hb0
  go_enter Tryd.func17, Tryd.ntmps17
  go_wp2_with fail
  refine (mread_any ct (by omega) _ hl0).mono ?_
  rintro e w1 ⟨rfl, hb1⟩
  have hb01 := hb0.trans (hb1.mono (by simp))
  have hB1 := hB0.below hb1 hB0.lt
  have hM1 := hM0.below hb1
  have hR1 := hR0.below (hb1.mono (by simp))
  have hc1 := Chg.of_below (F := fun k => k = B ∨ k = V) hb01
  obtain ⟨At, ctt, h1, h2⟩ := hM1.own
  have b0 : w1.cell? ⟨B, 0, none⟩ = some (.int .i64 m.g) := h1.cell 0
  have b3 : w1.cell? ⟨B, 3, none⟩ = some (.int .i64 m.n) := h1.cell 3
  have x1 : w1.cell? ⟨w.heap.size, 1, none⟩ = some (.int .i64 cg) := hB1.cell 1
  have x2 : w1.cell? ⟨w.heap.size, 2, none⟩ = some (.slice A tags.length cap) := hB1.cell 2
  have HM := Lib.hid hM1
  have HC := Lib.hid hc1
  have HB := Lib.hid hB1
  have HR := Lib.hid hR1
  have H1 := Lib.hid h1
  have H2 := Lib.hid h2
  clear hM1 hc1 hB1 hR1 h1 h2 hM0 hR0 hB0 hrd hb0 hb01 hb1
  by_cases hgd : (mrkR ct).e = 0 ∧ (mrkR ct).g = m.g ∧ cg = m.g
  · obtain ⟨g1, g2, g3⟩ := hgd
    subst g3
    have ev0 : Hid (adoptS m ⟨ct, m.g, tags⟩ = if (mrkR ct).n ≤ m.n then ⟨m, false, 0⟩ else ⟨{ m with n := (mrkR ct).n, s := (mrkR ct).s, c := ⟨ct, m.g, tags⟩ }, true, 0⟩) := if_pos ⟨g1, g2, rfl⟩
    go_upto_region 4 with (fail)
    rename (∀ (a : Act) (w : World), Code.wp _ _ _ a w → _) => ha
    go_quiet (fail)
    refine ha _ _ ?_
    clear b0 x1 x2 b3 ha
    replace HM := Lib.hid (HM.out.below (below_drewN (Below.refl _ _) nq))
    replace HC := Lib.hid (HC.out.drewN nq)
    replace HB := Lib.hid (HB.out.drewN nq)
    replace HR : Hid (Rd (w1.drewN nq) _ _ _ _ _) := HR.out
    replace H1 := Lib.hid (H1.out.drewN nq)
    generalize w1.drewN nq = w2 at *
    have b3 : w2.cell? ⟨B, 3, none⟩ = some (.int .i64 m.n) := H1.out.cell 3
    have x2 : w2.cell? ⟨w.heap.size, 2, none⟩ = some (.slice A tags.length cap) := HB.out.cell 2
    by_cases hle : (mrkR ct).n ≤ m.n
    · have ev1 : Hid (adoptS m ⟨ct, m.g, tags⟩ = ⟨m, false, 0⟩) := by unfold Hid; rw [ev0.out, if_pos hle]
      go_wp2
      go_ret2
      exact ⟨by rw [ev1.out]; rfl, by rw [ev1.out]; exact HM.out, HC.out⟩
    · have ev1 : Hid (adoptS m ⟨ct, m.g, tags⟩ = ⟨{ m with n := (mrkR ct).n, s := (mrkR ct).s, c := ⟨ct, m.g, tags⟩ }, true, 0⟩) := by unfold Hid; rw [ev0.out, if_neg hle]
      go_wp2_with fail
      refine (cloneT_any _ tags _ w.heap.size (Nat.le_of_lt HB.out.lt) HR.out htl).mono ?_
      rintro e w3 ⟨v', rfl, hown, hb3⟩
      obtain ⟨A', c', rfl⟩ := own_shape hown
      have k1 := Lib.hid (H1.out.below hb3 H1.out.lt)
      have kB := Lib.hid (HB.out.below hb3 HB.out.lt)
      have kC := Lib.hid (HC.out.below hb3)
      have kV := Lib.hid (HM.out.vs.below hb3 HM.out.vs.lt)
      have kO := Lib.hid hown
      have hne : B ≠ w.heap.size := fun e => by rw [e] at H1; exact H1.out.ne_ HB.out (by decide) rfl
      have hBV : B ≠ V := H1.out.ne_ HM.out.vs (by decide)
      have hXV : V ≠ w.heap.size := fun e => by have := HM.out.vs; rw [e] at this; exact this.ne_ HB.out (by decide) rfl
      have hXl : w.heap.size < w2.heap.size := HB.out.lt
      have hBl : B < w2.heap.size := H1.out.lt
      have HOK := Lib.hid HM.out.ok
      clear HB HC H1 H2 HM HR b3 x2 hown hb3 ev0
      have yX : w3.cell? ⟨w.heap.size, 2, none⟩ = some (.slice A tags.length cap) := kB.out.cell 2
      have fX := kB.out.frozen 2
      go_upto_region 9 with (fail)
      have cX := fun (F : Nat → Prop) (hF : F w.heap.size) => (Chg.refl F w3).setCell (p := ⟨w.heap.size, 2, none⟩) (fun _ => hF) (.slice A' tags.length c')
      have gX := kB.out.set_ 2 (.slice A' tags.length c')
      have gM := kB.out
      have g1' := Blk.chg k1.out (cX (fun k => k = w.heap.size) rfl) hne
      have gV := Lib.hid (Blk.chg kV.out (cX (fun k => k = w.heap.size) rfl) hXV)
      have gO := Lib.hid ((cX (fun k => k = w.heap.size) rfl).owns kO.out (fun g hg e => by have := (kO.out.lt g hg).1; omega))
      have gC : Hid (Chg (fun k => k = B ∨ k = V ∨ k = w.heap.size) w (w3.setCell ⟨w.heap.size, 2, none⟩ (.slice A' tags.length c'))) := (kC.out.mono (F' := fun k => k = B ∨ k = V ∨ k = w.heap.size) (fun i _ e => by rcases e with e | e <;> simp [e])).trans (cX (fun k => k = w.heap.size) rfl) (fun i _ e => .inr (.inr e))
      clear k1 kB kC kV kO yX fX cX gM
      generalize w3.setCell ⟨w.heap.size, 2, none⟩ (.slice A' tags.length c') = w5 at *
      have x0 : w5.cell? ⟨w.heap.size, 0, none⟩ = some (.string ⟨ct.toArray⟩) := gX.cell 0
      have x1 : w5.cell? ⟨w.heap.size, 1, none⟩ = some (.int .i64 m.g) := gX.cell 1
      have x2 : w5.cell? ⟨w.heap.size, 2, none⟩ = some (.slice A' tags.length c') := gX.cell 2
      have z3 : w5.cell? ⟨B, 3, none⟩ = some _ := g1'.cell 3
      have z4 : w5.cell? ⟨B, 4, none⟩ = some _ := g1'.cell 4
      have z5 : w5.cell? ⟨B, 5, none⟩ = some _ := g1'.cell 5
      have z6 : w5.cell? ⟨B, 6, none⟩ = some _ := g1'.cell 6
      have z7 : w5.cell? ⟨B, 7, none⟩ = some _ := g1'.cell 7
      have f3 := g1'.frozen 3
      have f4 := g1'.frozen 4
      have f5 := g1'.frozen 5
      have f6 := g1'.frozen 6
      have f7 := g1'.frozen 7
      have hXB : w.heap.size ≠ B := fun e => hne e.symm
      have G1 := Lib.hid g1'
      clear gX g1'
      go_big_region
      all_goals
        go_wp2
        go_ret2
        have cc := fun (F : Nat → Prop) (hF : F B) => ((((((Chg.refl F w5).setCell (p := ⟨B, 3, none⟩) (fun _ => hF) (.int .i64 (mrkR ct).n)).setCell (p := ⟨B, 4, none⟩) (fun _ => hF) (.string ⟨(mrkR ct).s.toArray⟩)).setCell (p := ⟨B, 5, none⟩) (fun _ => hF) (.string ⟨ct.toArray⟩)).setCell (p := ⟨B, 6, none⟩) (fun _ => hF) (.int .i64 m.g)).setCell (p := ⟨B, 7, none⟩) (fun _ => hF) (.slice A' tags.length c')).drew
        refine ⟨by rw [ev1.out]; rfl, ?_, (gC.out.trans (cc (fun k => k = B) rfl) (fun i _ e => .inl e)).mono (fun i hi e => by rcases e with e | e | e <;> simp [e] <;> omega)⟩
        rw [ev1.out]
        have hgb := ((((G1.out.set_ 3 (.int .i64 (mrkR ct).n)).set_ 4 (.string ⟨(mrkR ct).s.toArray⟩)).set_ 5 (.string ⟨ct.toArray⟩)).set_ 6 (.int .i64 m.g)).set_ 7 (.slice A' tags.length c')
        refine ⟨⟨A', c', hgb, ?_⟩, ?_, HOK.out⟩
        · exact own_weaken ((cc (fun k => k = B) rfl).owns gO.out (fun g hg e => by have := (gO.out.lt g hg).1; omega)) (Nat.zero_le _)
        · exact Blk.chg gV.out (cc (fun k => k = B) rfl) (Ne.symm hBV)
  · have ev0 : Hid (adoptS m ⟨ct, cg, tags⟩ = ⟨m, false, 4⟩) := if_neg hgd
    have hbad : ¬ (mrkR ct).e = 0 ∨ ((mrkR ct).e = 0 ∧ ¬ (mrkR ct).g = m.g) ∨ ((mrkR ct).e = 0 ∧ (mrkR ct).g = m.g ∧ ¬ cg = m.g) := by omega
    clear hgd
    rcases hbad with h1 | ⟨h1, h2⟩ | ⟨h1, h2, h3⟩
    all_goals
      go_upto_region 4 with (fail)
      rename (∀ (a : Act) (w : World), Code.wp _ _ _ a w → _) => ha
      go_quiet (fail)
      refine ha _ _ ?_
      go_wp2
      go_ret2
      refine ⟨by rw [ev0.out]; rfl, ?_, HC.out.drewN _⟩
      rw [ev0.out]
      exact HM.out.below (below_drewN (Below.refl _ _) _)

end Go.Proofs.YtogpbldipmcbdaaDoor
