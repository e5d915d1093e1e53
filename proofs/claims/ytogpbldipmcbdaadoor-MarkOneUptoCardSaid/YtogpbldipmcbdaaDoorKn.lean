/- MarkOne: what was told, opened; the law's walk. -/
import Derived.Test.YtogpbldipmcbdaaDoorKm
import Derived.Test.YtogpbldipmcbdaaDoorHb
set_option linter.unusedVariables false
set_option linter.unusedSimpArgs false
set_option linter.unnecessarySimpa false
namespace Go.Proofs.YtogpbldipmcbdaaDoor
open Go.RowKit Go.Shelf Go.ChangeShapes Go.WideShapes Go.Deep

structure TolV where
  set : Int
  h : Bs
  a : List Bs
  A : Option Addr
  ca : Nat
  b : List Bs
  B : Option Addr
  cb : Nat
def TolV.cells (o : TolV) : List Value := [.int .i64 o.set, .string ⟨o.h.toArray⟩, .slice o.A o.a.length o.ca, .slice o.B o.b.length o.cb]
structure TolV.Ok (w : World) (o : TolV) : Prop where
  h : o.h.length ≤ 1048576
  a : Rd w w.heap.size 1 (.slice o.A o.a.length o.ca) o.a.length (strs o.a)
  la : o.a.length ≤ 1048576
  sa : ∀ s ∈ o.a, s.length ≤ 1048576
  b : Rd w w.heap.size 1 (.slice o.B o.b.length o.cb) o.b.length (strs o.b)
  lb : o.b.length ≤ 1048576
  sb : ∀ s ∈ o.b, s.length ≤ 1048576
theorem cells_told : Tryd.prog.cellsOf 24 = 4 := by kernel_rfl
theorem cells_strs : Tryd.prog.cellsOf 22 = 1 := by kernel_rfl
section
variable {H : Type} {enc : TypeId × Value → H} {w : World} {base : Nat} {spare : Nat → Bool} {held : Bool}
theorem slice_shape {n : Nat} {t e : TypeId} (ht : Tryd.prog.underlying t = some (.slice e)) {v : Value} {y : DataW H × List MemPlace} (h : DataW.trod enc Tryd.prog w base spare held n t [v] = some y) : ∃ A len cap, v = .slice A len cap := by
  rcases Go.Deep.open_slice ht h with ⟨e, _⟩ | ⟨a, l, c, _, _, _, _, e, _⟩
  · simp at e; exact ⟨_, _, _, e⟩
  · simp at e; exact ⟨_, _, _, e⟩
theorem open_told (n : Nat) (cs : List Value) (y : DataW H × List MemPlace) (h : DataW.trod enc Tryd.prog w base spare held n 24 cs = some y) (hb : Rows.uptoBulk y.1 ≤ 1048576) :
    ∃ o : TolV, cs = o.cells ∧ o.Ok w := by
  have hcl := trod_cells Tryd.underlying24 h
  rw [cells_told] at hcl
  obtain ⟨v0, v1, v2, v3, rfl⟩ : ∃ a b c d, cs = [a, b, c, d] := by match cs, hcl with | [a, b, c, d], _ => exact ⟨a, b, c, d, rfl⟩
  obtain ⟨_, y0, t0, b0⟩ := trod_field Tryd.underlying24 h hb 0 _ rfl
  obtain ⟨_, y1, t1, b1⟩ := trod_field Tryd.underlying24 h hb 1 _ rfl
  obtain ⟨_, y2, t2, b2⟩ := trod_field Tryd.underlying24 h hb 2 _ rfl
  obtain ⟨_, y3, t3, b3⟩ := trod_field Tryd.underlying24 h hb 3 _ rfl
  replace t0 : DataW.trod enc Tryd.prog w base spare held _ 3 (([v0, v1, v2, v3].drop 0).take (Tryd.prog.cellsOf 3)) = some y0 := t0
  replace t1 : DataW.trod enc Tryd.prog w base spare held _ 9 (([v0, v1, v2, v3].drop 1).take (Tryd.prog.cellsOf 9)) = some y1 := t1
  replace t2 : DataW.trod enc Tryd.prog w base spare held _ 22 (([v0, v1, v2, v3].drop 2).take (Tryd.prog.cellsOf 22)) = some y2 := t2
  replace t3 : DataW.trod enc Tryd.prog w base spare held _ 22 (([v0, v1, v2, v3].drop 3).take (Tryd.prog.cellsOf 22)) = some y3 := t3
  simp only [cells_i, cells_s, cells_strs, List.drop_zero, List.drop_succ_cons, List.take_succ_cons, List.take_zero] at t0 t1 t2 t3
  obtain ⟨n0, e0, _⟩ := trod_i64 Tryd.underlying3 t0
  obtain ⟨s1, e1, h1⟩ := trod_str Tryd.underlying9 t1 b1
  obtain ⟨A2, l2, c2, rfl⟩ := slice_shape Tryd.underlying22 t2
  obtain ⟨A3, l3, c3, rfl⟩ := slice_shape Tryd.underlying22 t3
  obtain ⟨x2, hx2, hr2, hm2, hg2⟩ := open_texts t2 b2
  obtain ⟨x3, hx3, hr3, hm3, hg3⟩ := open_texts t3 b3
  simp at e0 e1
  subst e0 e1 hx2 hx3
  exact ⟨⟨n0, s1, x2, A2, c2, x3, A3, c3⟩, rfl, h1, hr2, hm2, hg2, hr3, hm3, hg3⟩
end

theorem mk_apart {w : World} {B V : Nat} {m : Mks} (h : MkAt w B V m) : MApart w (fun k => k = B ∨ k = V) := by
  obtain ⟨A, c, h1, _⟩ := h.own
  rintro i _ (rfl | rfl)
  · exact ⟨_, _, h1, by decide⟩
  · exact ⟨_, _, h.vs, by decide⟩
theorem MkAt.lt {w : World} {B V : Nat} {m : Mks} (h : MkAt w B V m) : B < w.heap.size ∧ V < w.heap.size := by
  obtain ⟨A, c, h1, _⟩ := h.own
  exact ⟨h1.lt, h.vs.lt⟩
theorem LayN.chg {w w' : World} {F : Nat → Prop} {N : Nat} (h : LayN w) (hb : Below N w w') (hN : ∀ g, Tryd.prog.globalNamed "internal/strconv.uint64pow10" = some g → g < N) : LayN w' := ⟨var_keep h.tab hb hN⟩

set_option maxHeartbeats 8000000 in
set_option maxRecDepth 100000 in
theorem mone_law (f : Int) (o : TolV) (w : World) (hl : LayN w) (hg : o.Ok w) :
    Calls Tryd.prog 3 #[.int .i64 f, .agg o.cells.toArray] w fun e w' => e = .returned (.bool true) ∧ Below w.heap.size w w' := by
  have hb0 := below_alloc1 w (.cells o.cells.toArray 24)
  have hT := Blk.new w 24 o.cells.toArray
  obtain ⟨st, H, la, A, ca, lb, Bb, cb⟩ := o
  have hH := hg.h
  have hla := hg.la
  have hlb := hg.lb
  have HA := Lib.hid hg.a
  have HBB := Lib.hid hg.b
  have HSA := Lib.hid hg.sa
  have HSB := Lib.hid hg.sb
  clear hg
  simp only [TolV.cells] at hT hb0 hH hla hlb HA HBB HSA HSB ⊢
  by_cases hf : 0 ≤ f ∧ f ≤ 3
  · obtain ⟨hf0, hf3⟩ := hf
    go_enter Tryd.func3, Tryd.ntmps3
    go_wp2_with fail
    refine (mnew_ok 1 f (by omega) ⟨hf0, hf3⟩ _).mono ?_
    rintro e w1 ⟨rfl, hM, hb1⟩
    have hb01 := hb0.trans (hb1.mono hb0.size)
    go_wp2_with fail
    refine (mnew_ok 1 f (by omega) ⟨hf0, hf3⟩ _).mono ?_
    rintro e w2 ⟨rfl, hM2, hb2⟩
    have hb02 := hb01.trans (hb2.mono hb01.size)
    have hMa := hM.below hb2
    have hT2 := (hT.below hb1 hT.lt).below hb2 (Nat.lt_of_lt_of_le hT.lt hb1.size)
    rw [World.size_alloc] at hMa
    have s1 : w.heap.size + 1 ≤ w1.heap.size := by have := hb1.size; simpa using this
    have s2 := hMa.lt
    have s3 : w.heap.size + 3 ≤ w1.heap.size := by have := hM.lt; simp at this; omega
    clear hM hT hb0 hb1 hb2 hb01
    generalize w1.heap.size = V2 at *
    go_wp2_with fail
    go_loopw [9, 10, 11] (fun i x y wr => ∃ (j : Nat) (ma mb : Mks), (j : Int) ≤ 3 * f + 1 ∧ i = .int .i64 j ∧ Hid (OneM st f H j ma) ∧ Hid (OneM st f H j mb) ∧ Hid (MkAt wr (w.heap.size + 1 + 1) (w.heap.size + 1) ma) ∧ Hid (MkAt wr (V2 + 1) V2 mb) ∧
      Hid (Blk wr w.heap.size 24 #[.int .i64 st, .string ⟨H.toArray⟩, .slice A la.length ca, .slice Bb lb.length cb]) ∧ Hid (Below w.heap.size w wr)) (fun i _ _ _ => (3 * f + 1).toNat - (intOf i).toNat)
    case atStart => exact ⟨0, m0 1 f, m0 1 f, by omega, rfl, one_start st f hf0 H, one_start st f hf0 H, hMa, hM2, hT2, hb02⟩
    case round =>
      obtain ⟨j, ma, mb, hj, rfl, HOa, HOb, HMa, HMb, HT, HB⟩ := hrel
      have hTw := HT.out
      by_cases hlt : (j : Int) ≤ 3 * f
      · have c0 : wr.cell? ⟨w.heap.size, 0, none⟩ = some (.int .i64 st) := hTw.cell 0
        have c1 : wr.cell? ⟨w.heap.size, 1, none⟩ = some (.string ⟨H.toArray⟩) := hTw.cell 1
        have c2 : wr.cell? ⟨w.heap.size, 2, none⟩ = some (.slice A la.length ca) := hTw.cell 2
        have c3 : wr.cell? ⟨w.heap.size, 3, none⟩ = some (.slice Bb lb.length cb) := hTw.cell 3
        clear hTw
        go_upto_if 63 with (go_at_call 10; refine (fails_any st f j (by omega) _).mono ?_; rintro e w' ⟨rfl, rfl⟩)
        go_cut [10, 11] (fun x y wc => ∃ xs ys : Bs, x = .string ⟨xs.toArray⟩ ∧ y = .string ⟨ys.toArray⟩ ∧ (failsB st f j = true ∨ xs = H) ∧ (failsB st f j = true ∨ ys = H) ∧ xs.length ≤ 1048576 ∧ ys.length ≤ 1048576 ∧ wc = wr)
        case first =>
          cases hfl : failsB st f j with
          | false =>
            go_wp2
            go_meet
            case rel => exact ⟨H, H, rfl, rfl, .inr rfl, .inr rfl, hH, hH, rfl⟩
          | true =>
            by_cases ha : j < la.length
            · obtain ⟨ga, oa, caa, hVa, hga, hca⟩ := rd_gets (HA.out.below HB.out) ha
              injection hVa with hAa _ hcc
              subst hAa
              clear hcc
              have hsa := HSA.out la[j] (List.getElem_mem ha)
              by_cases hb : j < lb.length
              · obtain ⟨gb, ob, cbb, hVb, hgb, hcb⟩ := rd_gets (HBB.out.below HB.out) hb
                injection hVb with hAb _ hcc
                subst hAb
                clear hcc
                have hsb := HSB.out lb[j] (List.getElem_mem hb)
                go_wp2
                go_meet
                case rel => exact ⟨la[j], lb[j], rfl, rfl, .inl hfl, .inl hfl, hsa, hsb, rfl⟩
              · go_wp2
                go_meet
                case rel => exact ⟨la[j], [], rfl, rfl, .inl hfl, .inl hfl, hsa, by simp, rfl⟩
            · by_cases hb : j < lb.length
              · obtain ⟨gb, ob, cbb, hVb, hgb, hcb⟩ := rd_gets (HBB.out.below HB.out) hb
                injection hVb with hAb _ hcc
                subst hAb
                clear hcc
                have hsb := HSB.out lb[j] (List.getElem_mem hb)
                go_wp2
                go_meet
                case rel => exact ⟨[], lb[j], rfl, rfl, .inl hfl, .inl hfl, by simp, hsb, rfl⟩
              · go_wp2
                go_meet
                case rel => exact ⟨[], [], rfl, rfl, .inl hfl, .inl hfl, by simp, by simp, rfl⟩
        case rest =>
          obtain ⟨xs, ys, rfl, rfl, hx, hy, hxl, hyl, hwc⟩ := hcut
          subst hwc
          clear c0 c1 c2 c3
          go_wp2_with fail
          refine (mvoteN_any _ _ ma j 4 xs tag16 (by omega) (by decide) _ (hl.later HB.out) HMa.out).mono ?_
          rintro e w3 ⟨rfl, hMa3, hc3⟩
          have hMb3 := Lib.hid (HMb.out.chg hc3 (mk_apart HMa.out) (by omega) (by omega))
          have hT3 := HT.out.chg hc3 (by omega)
          have hB3 := HB.out.trans (hc3.to_below (fun i hi e => by omega) HB.out.size)
          have hMa3' := Lib.hid hMa3
          clear hMa3
          go_wp2_with fail
          refine (mvoteN_any _ _ mb j 4 ys tag16 (by omega) (by decide) _ (hl.later hB3) hMb3.out).mono ?_
          rintro e w4 ⟨rfl, hMb4, hc4⟩
          have hMa4 := hMa3'.out.chg hc4 (mk_apart hMb3.out) (by omega) (by omega)
          have hT4 := hT3.chg hc4 (by omega)
          have hB4 := hB3.trans (hc4.to_below (fun i hi e => by omega) hB3.size)
          go_wp2
          exact ⟨⟨j + 1, _, _, by omega, by simp, one_step hf0 hf3 HOa.out xs tag16 hx, one_step hf0 hf3 HOb.out ys tag16 hy, hMa4, hMb4, hT4, hB4⟩, by simp [intOf]; omega⟩
      · go_wp2_with fail
        refine (mstable_any _ _ ma _ HMa.out HOa.out.tags).mono ?_
        rintro e w3 ⟨A3, c3, rfl, hown3, hb3⟩
        have hMb3 := HMb.out.below hb3
        have hT3 := HT.out.below hb3 HT.out.lt
        have hB3 := HB.out.trans (hb3.mono HB.out.size)
        have hbX := below_alloc1 w3 (.cells #[.string ⟨ma.c.t.toArray⟩, .int .i64 ma.c.g, .slice A3 ma.c.tags.length c3] 35)
        have hMb4 := hMb3.below hbX
        have hT4 := hT3.below hbX hT3.lt
        have hB4 := hB3.trans (hbX.mono hB3.size)
        clear hMb3 hT3 hB3 hown3 hb3 hTw
        go_wp2_with fail
        refine (mstable_any _ _ mb _ hMb4 HOb.out.tags).mono ?_
        rintro e w5 ⟨A5, c5, rfl, hown5, hb5⟩
        have hT5 := hT4.below hb5 hT4.lt
        have hB5 := hB4.trans (hb5.mono hB4.size)
        have hT6 : ∀ o, (w5.alloc o).cell? ⟨w.heap.size, 1, none⟩ = some (.string ⟨H.toArray⟩) := fun o => (hT5.alloc o).cell 1
        have hB6 := Lib.hid (hB5.alloc hB5.size (.cells #[.string ⟨mb.c.t.toArray⟩, .int .i64 mb.c.g, .slice A5 mb.c.tags.length c5] 35))
        clear hT4 hT5 hB4 hB5 hMb4 hown5 hb5 hbX
        have ha := HOa.out.st
        have hb := HOb.out.st
        obtain ⟨ga, fa, va, na, sa, ca'⟩ := ma
        obtain ⟨gb, fb, vb, nb, sb, cb'⟩ := mb
        simp only at ha hb
        rcases ha with ha | ⟨ha, ha'⟩ <;> rcases hb with hb | ⟨hb, hb'⟩
        all_goals
          subst ha hb
          try subst ha'
          try subst hb'
          go_wp2_with fail
          refine (oneN_any _ (hl.later hB6.out)).mono ?_
          rintro e w6 ⟨rfl, hb7⟩
          go_wp2
          go_ret
          exact ⟨rfl, hB6.out.trans (hb7.mono hB6.out.size)⟩
  · have hfb : f < 0 ∨ (0 ≤ f ∧ 3 < f) := by omega
    clear hf
    rcases hfb with h | ⟨h, h'⟩
    all_goals
      go_enter Tryd.func3, Tryd.ntmps3
      go_wp2_with fail
      refine (oneN_any _ (hl.later hb0)).mono ?_
      rintro e w2 ⟨rfl, hb2⟩
      go_wp2
      go_ret
      exact ⟨rfl, hb0.trans (hb2.mono hb0.size)⟩

end Go.Proofs.YtogpbldipmcbdaaDoor
