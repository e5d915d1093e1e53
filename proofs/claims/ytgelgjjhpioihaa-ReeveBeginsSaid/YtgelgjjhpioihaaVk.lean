/- The reference's Judge. -/
import Derived.Test.YtgelgjjhpioihaaVj
namespace Go.Proofs.Ytgelgjjhpioihaa
open Go.RowKit Go.Shelf
set_option linter.unusedVariables false
set_option linter.unusedSimpArgs false

theorem keepq {W w' : World} {b : Nat} {v0 v1 v2 v3 : Value} {g m : Nat} {p : CfgV} {base : Nat} {v : Value} {ps : List CfgV} (hx : Blk W b 66 #[v0, v1, v2, v3]) (hp : RowP base W v ps) (hv : ∃ n c, v = .slice (some ⟨g, 0, none⟩) n c) (hm : ps[m]? = some p) (h : Below W.heap.size W w') :
    w'.cell? ⟨b, 0, none⟩ = some v0 ∧ w'.cell? ⟨b, 1, none⟩ = some v1 ∧ w'.cell? ⟨b, 2, none⟩ = some v2 ∧ w'.cell? ⟨b, 3, none⟩ = some v3 ∧
    w'.cell? ⟨g, m * 6, none⟩ = some (.int .i64 p.1.num) ∧ w'.cell? ⟨g, m * 6 + 1, none⟩ = some p.2 ∧ w'.cell? ⟨g, m * 6 + 2, none⟩ = some (.int .i64 p.1.o.a) ∧ w'.cell? ⟨g, m * 6 + 3, none⟩ = some (.int .i64 p.1.o.b) ∧ w'.cell? ⟨g, m * 6 + 4, none⟩ = some (.int .i64 p.1.o.c) ∧ w'.cell? ⟨g, m * 6 + 5, none⟩ = some (.int .i64 p.1.o.d) := by
  have h2 := hx.below h hx.lt
  obtain ⟨g', c', hv', _, hg', e0, e1, e2, e3, e4, e5⟩ := hp.get hm
  obtain ⟨n, c, hv⟩ := hv
  rw [hv] at hv'
  injection hv' with hv' _ _
  injection hv' with hv'
  injection hv' with hv' _ _
  subst hv'
  have k := fun (i : Nat) (u : Value) (e : W.cell? ⟨g, i, none⟩ = some u) => (h.cell (p := ⟨g, i, none⟩) hg').trans e
  exact ⟨h2.cell 0, h2.cell 1, h2.cell 2, h2.cell 3, k _ _ e0, k _ _ e1, k _ _ e2, k _ _ e3, k _ _ e4, k _ _ e5⟩

theorem jg_ret {w wc : World} {v a b u0 u1 : Value} {ps : List CfgV} (hp : RowP w.heap.size wc v ps) (hz : Blk wc w.heap.size 30 #[a, b]) (hb : Below w.heap.size w wc) :
    RowP w.heap.size ((wc.setCell ⟨w.heap.size, 0, none⟩ u0).setCell ⟨w.heap.size, 1, none⟩ u1) v ps ∧ Below w.heap.size w ((wc.setCell ⟨w.heap.size, 0, none⟩ u0).setCell ⟨w.heap.size, 1, none⟩ u1) :=
  have hc : Chg (fun i => i = w.heap.size) wc ((wc.setCell ⟨w.heap.size, 0, none⟩ u0).setCell ⟨w.heap.size, 1, none⟩ u1) := ((Chg.refl (fun i => i = w.heap.size) wc).setCell (p := ⟨w.heap.size, 0, none⟩) (fun _ => rfl) _).setCell (p := ⟨w.heap.size, 1, none⟩) (fun _ => rfl) _
  ⟨hp.chg hc (fun i hi e => ⟨_, _, e ▸ hz, by decide, by decide⟩), ((Chg.of_below hb).trans (F := fun i => i = w.heap.size) hc (fun i _ h => h)).to_below (by intro i hi; omega) (Nat.le_refl _)⟩

def JgAt (w : World) (l : List Rul) (k : Nat) (v : Value) (wr : World) : Prop := ∃ ps, RowP w.heap.size wr v ps ∧ judgeS [cfg0] l 0 = judgeS (ps.map (·.1)) (l.drop k) k ∧ ps.length ≤ 41 ∧ Below w.heap.size w wr
def JgPost (w : World) (l : List Rul) (e : Ending) (w' : World) : Prop :=
  ∃ v' ps, e = .returned (.agg #[v', .int .i64 (judgeS [cfg0] l 0).2]) ∧ RowP w.heap.size w' v' ps ∧ ((judgeS [cfg0] l 0).2 = -1 → ps.map (·.1) = (judgeS [cfg0] l 0).1) ∧ ps.length ≤ 41 ∧ Below w.heap.size w w'
theorem row_len {w : World} {base : Nat} {v : Value} {ps : List CfgV} (h : RowP base w v ps) : ps.length ≤ 1000000000 ∨ True := .inr trivial
theorem rowp_chg {base : Nat} {w w' : World} {v : Value} {ps : List CfgV} {b : Nat} {cs : Array Value} (hp : RowP base w v ps) (hb : Blk w b 30 cs) (hc : Chg (fun i => i = b) w w') : RowP base w' v ps :=
  hp.chg hc (fun i hi e => ⟨_, _, e ▸ hb, by decide, by decide⟩)

set_option maxHeartbeats 4000000 in
set_option maxRecDepth 100000 in
theorem judge28_any (l : List Rul) (v : Value) (w : World) (hr : Rd w w.heap.size 4 v l.length (cellsQ l)) (hm : l.length ≤ 1000) :
    Calls Try.prog 9 #[v] w (JgPost w l) := by
  have HR := Lib.hid hr
  obtain ⟨_, A, cc, rfl, hncc, _⟩ := hr
  have hz : Blk (w.alloc (.cells #[.slice none 0 0, .int .i64 0] 30)) w.heap.size 30 #[.slice none 0 0, .int .i64 0] := Blk.new w _ _
  have hstart : Hid (∃ W : World, W = (w.alloc (.cells #[.slice none 0 0, .int .i64 0] 30)) ∧ Blk (W.alloc (.cells #[.int .i64 0, .slice none 0 0, .int .i64 0, .int .i64 0, .int .i64 0, .int .i64 0] 38)) w.heap.size 30 #[.slice none 0 0, .int .i64 0] ∧ JgAt w l 0 (.slice (some ⟨w.heap.size + 1, 0, none⟩) 1 1) (W.alloc (.cells #[.int .i64 0, .slice none 0 0, .int .i64 0, .int .i64 0, .int .i64 0, .int .i64 0] 38))) := by
    refine ⟨_, rfl, hz.alloc _, [(cfg0, .slice none 0 0)], ⟨?_, ?_, ?_, by simp⟩, rfl, by simp, ((Below.refl _ _).alloc (Nat.le_refl _) _).alloc (by simp) _⟩
    · exact ⟨by simp [cellsP, CfgV.cells, cfgCells], .inr ⟨w.heap.size + 1, 1, #[.int .i64 0, .slice none 0 0, .int .i64 0, .int .i64 0, .int .i64 0, .int .i64 0], rfl, by omega, by have := heap_alloc_new (w.alloc (.cells #[.slice none 0 0, .int .i64 0] 30)) (.cells #[.int .i64 0, .slice none 0 0, .int .i64 0, .int .i64 0, .int .i64 0, .int .i64 0] 38); simpa using this, by simp, by unfold maxLen; omega, by simp, by simp [cellsP, CfgV.cells, cfgCells, cfg0]⟩⟩
    · intro p hp
      simp at hp
      subst hp
      exact World.ownsRow_nil _ _ _ _
    · intro p hp
      simp at hp
      subst hp
      rfl
  clear hz
  go_enter Try.func9, Try.ntmps9
  go_wp2_with fail
  go_loopw [3, 12] (fun v i wr => ∃ k : Nat, k ≤ l.length ∧ i = .int .i64 k ∧ Hid (JgAt w l k v wr) ∧ Hid (Blk wr w.heap.size 30 #[.slice none 0 0, .int .i64 0])) (fun _ i _ => l.length - (intOf i).toNat)
  case atStart => obtain ⟨W, rfl, h1, h2⟩ := hstart.out; exact ⟨0, Nat.zero_le _, rfl, h2, h1⟩
  case round =>
    obtain ⟨k, hk, rfl, hJ, hZ⟩ := hrel
    obtain ⟨ps, hp, hjd, hl41, hbw⟩ := hJ.out
    clear hstart hJ
    by_cases hlt : k < l.length
    · obtain ⟨g0, off0, c0, hV, hg0, x0, x1, x2, x3⟩ := rd_rul4 HR.out hlt
      injection hV with hA _ hcc
      subst hA hcc
      have y0 := (hbw.cell (p := ⟨g0, off0 + k * 4, none⟩) hg0).trans x0
      have y1 := (hbw.cell (p := ⟨g0, off0 + k * 4 + 1, none⟩) hg0).trans x1
      have y2 := (hbw.cell (p := ⟨g0, off0 + k * 4 + 2, none⟩) hg0).trans x2
      have y3 := (hbw.cell (p := ⟨g0, off0 + k * 4 + 3, none⟩) hg0).trans x3
      have hk0 : (0 : Int) ≤ (k : Int) := by omega
      have hk1 : (k : Int) < (l.length : Int) := by omega
      have hstep : Hid (judgeS (ps.map (·.1)) (l.drop k) k = if (doS (ps.map (·.1)) l[k].x).2 ≠ l[k].err then ((doS (ps.map (·.1)) l[k].x).1, (k : Int)) else judgeS (doS (ps.map (·.1)) l[k].x).1 (l.drop (k + 1)) (k + 1)) := judge_drop _ l k hlt
      clear x0 x1 x2 x3
      generalize l[k] = r at *
      obtain ⟨rc, rn0, x, rerr⟩ := r
      simp only at y0 y1 y2 y3 hstep
      have hpos := hp.pos
      obtain ⟨m, hmm⟩ : ∃ m, ps.length = m + 1 := ⟨ps.length - 1, by omega⟩
      have hml : m < ps.length := by omega
      have hget : Hid (ps[m]? = some ps[m]) := List.getElem?_eq_getElem hml
      have elast : (ps.map (·.1)).getLastD cfg0 = ps[m].1 := by
        rw [List.getLastD_eq_getLast?, List.getLast?_eq_getElem?, List.length_map, hmm, Nat.add_sub_cancel, List.getElem?_map, List.getElem?_eq_getElem hml]; rfl
      have hdo : Hid (doS (ps.map (·.1)) x = if (nextS ps[m].1 x).2 ≠ 0 then (ps.map (·.1), (nextS ps[m].1 x).2) else if 40 < ps.length then (ps.map (·.1), 151) else (ps.map (·.1) ++ [(nextS ps[m].1 x).1], 0)) := by
        unfold Hid doS; rw [elast, List.length_map]
      have hg4 : ps[m].1.gs.length ≤ 4 := (check_bounds (hp.ok _ (List.getElem_mem hml))).2.2.1
      have HPM := Lib.hid (List.getElem_mem hml)
      generalize hps : ps[m] = p at *
      clear hps elast
      obtain ⟨cf, sv⟩ := p
      obtain ⟨As, cs, hsv⟩ := own_shape (hp.own _ HPM.out)
      simp only at hsv hg4
      subst hsv
      have HRN : Hid (∀ w1 : World, Rd w1 w1.heap.size 1 (.slice As cf.gs.length cs) cf.gs.length (ints cf.gs) → Calls Try.prog 23 #[.agg #[.int .i64 cf.num, .slice As cf.gs.length cs, .int .i64 cf.o.a, .int .i64 cf.o.b, .int .i64 cf.o.c, .int .i64 cf.o.d], .agg #[.int .i64 x.kind, .int .i64 x.group, .int .i64 x.shard]] w1 fun e w' =>
        ∃ s', e = .returned (.tuple #[(nextS cf x).1.val s', .int .i64 (nextS cf x).2]) ∧ w'.ownsRow w1.heap.size 3 1 s' (nextS cf x).1.gs.length (ints (nextS cf x).1.gs) ∧ Below w1.heap.size w1 w') := fun w1 h => rnext_any cf x _ w1 h (by omega)
      have HOK : Hid ((nextS cf x).2 = 0 → checkB (nextS cf x).1 = true) := next_check
      simp only at hdo
      generalize nextS cf x = r at *
      obtain ⟨⟨rn, rg, ro⟩, re⟩ := r
      simp only at HRN hdo HOK
      have hpW := hp.below ((Below.refl _ wr).alloc (Nat.le_refl _) (.cells #[.int .i64 x.kind, .int .i64 x.group, .int .i64 x.shard, .int .i64 rerr] 66))
      have hxW : Blk (wr.alloc (.cells #[.int .i64 x.kind, .int .i64 x.group, .int .i64 x.shard, .int .i64 rerr] 66)) wr.heap.size 66 #[.int .i64 x.kind, .int .i64 x.group, .int .i64 x.shard, .int .i64 rerr] := Blk.new wr _ _
      have hbW := hbw.alloc hbw.size (.cells #[.int .i64 x.kind, .int .i64 x.group, .int .i64 x.shard, .int .i64 rerr] 66)
      have hzW := hZ.out.alloc (.cells #[.int .i64 x.kind, .int .i64 x.group, .int .i64 x.shard, .int .i64 rerr] 66)
      have HP := Lib.hid hpW
      have HX := Lib.hid hxW
      have HB := Lib.hid hbW
      have HZ := Lib.hid hzW
      have HJD := Lib.hid hjd
      obtain ⟨gv, cv, rfl, hbg, hgv⟩ := hpW.row.form hpos
      clear hpW hxW hbW hp hbw hjd hzW hZ
      go_upto_region 5 with fail
      clear y0 y1 y2 y3
      generalize wr.heap.size = bx at *
      generalize wr.alloc (.cells #[.int .i64 x.kind, .int .i64 x.group, .int .i64 x.shard, .int .i64 rerr] 66) = W at *
      have hcvn : ps.length ≤ cv := (own_form HP.out.row).2.1
      have HPm : Hid (RowP w.heap.size W (.slice (some ⟨gv, 0, none⟩) (m + 1) cv) ps) := by have := HP.out; rw [hmm] at this; exact this
      have hcvm : m + 1 ≤ cv := by omega
      rw [hmm]
      have hsub : IntKind.i64.wrap (m : Int) = (m : Int) := by rw [IntKind.wrap_i64]; omega
      have hm0 : (0 : Int) ≤ (m : Int) := by omega
      have hm1 : (m : Int) < (m : Int) + 1 := by omega
      have HMM := Lib.hid hmm
      have hm41 : m ≤ 40 := by omega
      have HRX : Hid (∀ W' : World, Below W.heap.size W W' → Rd W' W'.heap.size 1 (.slice As cf.gs.length cs) cf.gs.length (ints cf.gs)) := fun W' h => Rd.of_own ((HP.out.below h).own _ HPM.out)
      go_cut [6, 7] (fun vc ve wc => NxMid W (⟨rn, rg, ro⟩, re) vc ve wc)
      case first =>
        go_region_held3 (fun w' => w'.cell? ⟨bx, 0, none⟩ = some (.int .i64 x.kind) ∧ w'.cell? ⟨bx, 1, none⟩ = some (.int .i64 x.group) ∧ w'.cell? ⟨bx, 2, none⟩ = some (.int .i64 x.shard) ∧ w'.cell? ⟨bx, 3, none⟩ = some (.int .i64 rerr) ∧
          w'.cell? ⟨gv, m * 6, none⟩ = some (.int .i64 cf.num) ∧ w'.cell? ⟨gv, m * 6 + 1, none⟩ = some (.slice As cf.gs.length cs) ∧ w'.cell? ⟨gv, m * 6 + 2, none⟩ = some (.int .i64 cf.o.a) ∧ w'.cell? ⟨gv, m * 6 + 3, none⟩ = some (.int .i64 cf.o.b) ∧ w'.cell? ⟨gv, m * 6 + 4, none⟩ = some (.int .i64 cf.o.c) ∧ w'.cell? ⟨gv, m * 6 + 5, none⟩ = some (.int .i64 cf.o.d))
          ((refine keepq HX.out HPm.out ⟨_, _, rfl⟩ hget.out ?_; simp only [bl_drew, bl_alloc, bl_refl, bl_six, *, Nat.le_refl]))
          ((go_at_call 23; refine Calls.mono (HRN.out _ (HRX.out _ (by simp only [bl_drew, bl_alloc, bl_refl]))) ?_; rintro e w3 ⟨s3, rfl, hown3, hb3⟩; have hbl2 : Below W.heap.size W w3 := below_then (by simp only [bl_drew, bl_alloc, bl_refl]) hb3; have hls2 := hbl2.size; have hown4 := own_weaken (base' := W.heap.size) hown3 (by simp); obtain ⟨A3, c3, rfl⟩ := own_shape hown3; (try (with_reducible have hzB := rblkC hb3)); (try (obtain ⟨z0, z1, z2, z3, z4, z5⟩ := keep6 hzB (Below.refl _ _); have f0 := hzB.frozen 0; have f1 := hzB.frozen 1; have f2 := hzB.frozen 2; have f3 := hzB.frozen 3; have f4 := hzB.frozen 4; have f5 := hzB.frozen 5)); (try (have HZB := Lib.hid hzB; clear hzB)); have HOWN3 := Lib.hid hown4; clear hown3 hown4; unfold Cfg.val))
        · go_wp2_with fail
          go_meet
          case rel => exact ⟨_, _, rfl, rfl, below_al hbl2 _, hls2, Blk.new w3 _ _, HOWN3.out.alloc _⟩
        · go_wp2_with fail
          go_meet
          case rel => exact ⟨_, _, rfl, rfl, six_below hbl2 (Nat.le_refl _) _ _ _ _ _ _, Nat.le_refl _, blk6 HZB.out rn _ ro, rsix_own HZB.out HOWN3.out _ _ _ _ _ _⟩
      case rest =>
        clear HRN HRX hmm
        obtain ⟨b, s2, rfl, rfl, hbW, hWb, hkb, hown⟩ := hcut
        obtain ⟨A2, c2, rfl⟩ := own_shape hown
        obtain ⟨k0, k1, k2, k3, k4, k5⟩ := keep6 hkb (Below.refl _ _)
        have HPC := Lib.hid (HPm.out.below hbW)
        have HB2 := Lib.hid (HB.out.trans (hbW.mono HB.out.size))
        have HOWN := Lib.hid hown
        have hzc := HZ.out.below hbW HZ.out.lt
        have z0 := hzc.cell 0
        have z1 := hzc.cell 1
        have f0 := hzc.frozen 0
        have f1 := hzc.frozen 1
        have HZC := Lib.hid hzc
        have e3 : wc.cell? ⟨bx, 3, none⟩ = some (.int .i64 rerr) := (HX.out.below hbW HX.out.lt).cell 3
        have hwc : w.heap.size ≤ wc.heap.size := HB2.out.size
        have hww : w.heap.size ≤ W.heap.size := HB.out.size
        clear hbW hkb hown HP HPm HZ hzc HX
        cases hre : (re == 0) with
        | false =>
          have hre' : re ≠ 0 := by simpa using hre
          have hd : Hid (doS (ps.map (·.1)) x = (ps.map (·.1), re)) := by unfold Hid; rw [hdo.out, if_pos hre']
          clear hre' hdo
          cases hq : (re != rerr) with
          | true =>
            have HF : Hid (judgeS [cfg0] l 0 = (ps.map (·.1), (k : Int))) := by unfold Hid; rw [HJD.out, hstep.out, hd.out, if_pos (by simpa using hq)]
            clear hstep hd HJD
            go_wp2_with fail
            refine bodyPost_ret (v := .agg #[.slice (some ⟨gv, 0, none⟩) (m + 1) cv, .int .i64 (k : Int)]) (by simp [results, Try.results9, go_sem, z0, z1]) rfl ?_
            refine ⟨_, ps, ?_, (jg_ret HPC.out HZC.out HB2.out).1, ?_, hl41, (jg_ret HPC.out HZC.out HB2.out).2⟩
            · rw [HF.out]
            · rw [HF.out]; intro h; simp only at h; omega
          | false =>
            have HF : Hid (judgeS [cfg0] l 0 = judgeS (ps.map (·.1)) (l.drop (k + 1)) (k + 1)) := by unfold Hid; rw [HJD.out, hstep.out, hd.out, if_neg (by simpa using hq)]
            clear hstep hd HJD
            have hfin : Hid (JgAt w l (k + 1) (.slice (some ⟨gv, 0, none⟩) (m + 1) cv) wc) := ⟨ps, HPC.out, HF.out, hl41, HB2.out⟩
            go_wp2_with fail
            go_roundw
            case rel => exact ⟨k + 1, by omega, by go_num, hfin, HZC.out⟩
            case measure => simp [intOf]; omega
        | true =>
          obtain rfl : re = 0 := by simpa using hre
          by_cases h40 : 40 < ps.length
          · have hd : Hid (doS (ps.map (·.1)) x = (ps.map (·.1), 151)) := by unfold Hid; rw [hdo.out, if_neg (by simp), if_pos h40]
            have h40' : (40 : Int) < (m : Int) + 1 := by have := HMM.out; omega
            clear hdo h40
            cases hq : ((151 : Int) != rerr) with
            | true =>
              have HF : Hid (judgeS [cfg0] l 0 = (ps.map (·.1), (k : Int))) := by unfold Hid; rw [HJD.out, hstep.out, hd.out, if_pos (by simpa using hq)]
              clear hstep hd HJD
              go_wp2_with fail
              refine bodyPost_ret (v := .agg #[.slice (some ⟨gv, 0, none⟩) (m + 1) cv, .int .i64 (k : Int)]) (by simp [results, Try.results9, go_sem, z0, z1]) rfl ?_
              refine ⟨_, ps, ?_, (jg_ret HPC.out HZC.out HB2.out).1, ?_, hl41, (jg_ret HPC.out HZC.out HB2.out).2⟩
              · rw [HF.out]
              · rw [HF.out]; intro h; simp only at h; omega
            | false =>
              have HF : Hid (judgeS [cfg0] l 0 = judgeS (ps.map (·.1)) (l.drop (k + 1)) (k + 1)) := by unfold Hid; rw [HJD.out, hstep.out, hd.out, if_neg (by simpa using hq)]
              clear hstep hd HJD
              have hfin : Hid (JgAt w l (k + 1) (.slice (some ⟨gv, 0, none⟩) (m + 1) cv) wc) := ⟨ps, HPC.out, HF.out, hl41, HB2.out⟩
              go_wp2_with fail
              go_roundw
              case rel => exact ⟨k + 1, by omega, by go_num, hfin, HZC.out⟩
              case measure => simp [intOf]; omega
          · have hd : Hid (doS (ps.map (·.1)) x = (ps.map (·.1) ++ [⟨rn, rg, ro⟩], 0)) := by unfold Hid; rw [hdo.out, if_neg (by simp), if_neg h40]
            have h40' : decide ((40 : Int) < (m : Int) + 1) = false := by rw [decide_eq_false_iff_not]; have := HMM.out; omega
            have hm40 : m ≤ 39 := by have := HMM.out; omega
            clear hdo h40
            cases hq : ((0 : Int) != rerr) with
            | true =>
              have HF : Hid ((judgeS [cfg0] l 0).2 = (k : Int)) := by unfold Hid; rw [HJD.out, hstep.out, hd.out, if_pos (by simpa using hq)]
              clear hstep hd HJD
              go_wp2_with fail
              refine bodyPost_ret (v := .agg #[.slice (some ⟨gv, 0, none⟩) (m + 1) cv, .int .i64 (k : Int)]) (by simp [results, Try.results9, go_sem, z0, z1]) rfl ?_
              refine ⟨_, ps, ?_, (jg_ret HPC.out HZC.out HB2.out).1, ?_, hl41, (jg_ret HPC.out HZC.out HB2.out).2⟩
              · rw [HF.out]
              · rw [HF.out]; intro h; omega
            | false =>
              have HF : Hid (judgeS [cfg0] l 0 = judgeS (ps.map (·.1) ++ [⟨rn, rg, ro⟩]) (l.drop (k + 1)) (k + 1)) := by unfold Hid; rw [HJD.out, hstep.out, hd.out, if_neg (by simpa using hq)]
              clear hstep hd HJD
              obtain ⟨i0, hi0, hz0, hz1, hz2⟩ := info_parts rcfg_info
              have hone : Hid (∀ u ∈ CfgV.cells (⟨rn, rg, ro⟩, .slice A2 rg.length c2), u.oneCell' = true) := by intro u hu; simp [CfgV.cells, cfgCells] at hu; rcases hu with rfl | rfl | rfl | rfl | rfl | rfl <;> rfl
              have HO : Hid (∀ o, (wc.alloc o).ownsRow w.heap.size 38 6 (.slice (some ⟨gv, 0, none⟩) (m + 1) cv) (m + 1) (cellsP ps)) := fun o => by
                have := HPC.out.row
                rw [HMM.out] at this
                exact this.alloc o
              go_wp2_with (at_builtin; refine wpList_append_lies _ rfl (.tmp 45) (.tmp 47) _ rfl w.heap.size 38 i0 _ 6 64 Try.underlying28 hi0 hz0 hz1 hz2 rfl (by omega) (.slice (some ⟨gv, 0, none⟩) (m + 1) cv) (m + 1) (cellsP ps) rfl (HO.out _) ⟨wc.heap.size, 0, none⟩ 1 1 (CfgV.cells (⟨rn, rg, ro⟩, .slice A2 rg.length c2)) rfl rfl (news_box (by simp)) hone.out (by omega) (by unfold maxLen; omega) (by omega) (by simp; omega) (wc.heap.size + 1) (by simp) ?_; intro g2 cap2 w4 hown4 hg4 hat4 hlt4)
              have hfin : Hid (JgAt w l (k + 1) (.slice (some ⟨g2, 0, none⟩) (m + 1 + 1) cap2) w4) := by
                have hp4 := row_push HPC.out (⟨rn, rg, ro⟩, .slice A2 rg.length c2) (own_weaken HOWN.out (by omega)) (HOK.out rfl) hg4 (by rw [HMM.out]; exact hown4)
                refine ⟨_, hp4, by rw [HF.out]; simp, by have := HMM.out; simp; omega, (((Chg.of_below (F := fun i => w.heap.size ≤ i) HB2.out).alloc _).grown hg4 (fun j hj _ => ?_)).to_below (fun i hi h => by omega) (Nat.le_refl _)⟩
                exact ((HO.out (.cells #[] 0)).lt j hj).1
              have hzf : Hid (Blk w4 w.heap.size 30 #[.slice none 0 0, .int .i64 0]) := (HZC.out.alloc _).grown hg4 (fun e => own_blk_ne HPC.out.row HZC.out (by decide) e.symm)
              clear hown4 hg4 hat4 hlt4
              go_wp2_with fail
              go_roundw
              case rel => exact ⟨k + 1, by omega, by go_num, hfin, hzf.out⟩
              case measure => simp [intOf]; omega
    · obtain rfl : k = l.length := by omega
      have HF : Hid (judgeS [cfg0] l 0 = (ps.map (·.1), -1)) := by unfold Hid; rw [hjd, List.drop_of_length_le (Nat.le_refl _)]; rfl
      have z0 := hZ.out.cell 0
      have z1 := hZ.out.cell 1
      have f0 := hZ.out.frozen 0
      have f1 := hZ.out.frozen 1
      have HP := Lib.hid hp
      have HB := Lib.hid hbw
      obtain ⟨gv, cv, rfl, hbg, hgv⟩ := hp.row.form hp.pos
      have HZC := Lib.hid hZ.out
      clear hp hbw hjd hZ
      go_wp2_with fail
      refine bodyPost_ret (v := .agg #[.slice (some ⟨gv, 0, none⟩) ps.length cv, .int .i64 (-1)]) (by simp [results, Try.results9, go_sem, z0, z1]) rfl ?_
      refine ⟨_, ps, ?_, (jg_ret HP.out HZC.out HB.out).1, ?_, hl41, (jg_ret HP.out HZC.out HB.out).2⟩
      · rw [HF.out]
      · rw [HF.out]; intro _; rfl

end Go.Proofs.Ytgelgjjhpioihaa
