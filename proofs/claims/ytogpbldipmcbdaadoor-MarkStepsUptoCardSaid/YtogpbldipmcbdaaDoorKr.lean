/- MarkSteps: the document's Vote. -/
import Derived.Test.YtogpbldipmcbdaaDoorKq
set_option linter.unusedVariables false
set_option linter.unusedSimpArgs false
set_option linter.unnecessarySimpa false
namespace Go.Proofs.YtogpbldipmcbdaaDoor
open Go.RowKit Go.Shelf

theorem blw_refl (B : Nat) (W : World) : Below B W W = True := eq_true (Below.refl _ _)
theorem blw_drew (B : Nat) (W w1 : World) : Below B W w1.drew = Below B W w1 := propext ⟨fun h => ⟨h.os, h.tape, h.output, h.size, h.block⟩, fun h => h.drew⟩
theorem blw_drewN (B : Nat) (W w1 : World) (n : Nat) : Below B W (w1.drewN n) = Below B W w1 := propext ⟨fun h => ⟨h.os, h.tape, h.output, h.size, h.block⟩, fun h => below_drewN h n⟩
theorem keepv {w : World} {B N : Nat} {r : RMk} {no n : Int} {s t : Bs} (hm : RMkAt w B r) (hx : Blk w N 66 #[.int .i64 no, .int .i64 n, .string ⟨s.toArray⟩, .string ⟨t.toArray⟩]) :
    w.cell? ⟨B, 0, none⟩ = some (.int .i64 r.g) ∧ w.cell? ⟨N, 0, none⟩ = some (.int .i64 no) ∧ w.cell? ⟨N, 1, none⟩ = some (.int .i64 n) ∧ w.cell? ⟨N, 2, none⟩ = some (.string ⟨s.toArray⟩) := by
  obtain ⟨A, c, A', c', h1, _⟩ := hm.own
  exact ⟨h1.cell 0, hx.cell 0, hx.cell 1, hx.cell 2⟩
theorem rtagN_take (n : Int) (s : Bs) (no : Int) (l : List RVot) (j : Nat) (hj : j < l.length) : rtagN n s no (l.take (j + 1)) = rtagN n s no (l.take j) ++ (if l[j].no = no ∧ l[j].n = n ∧ l[j].s = s then [(no, l[j].t)] else []) := by
  unfold rtagN
  rw [List.take_succ_eq_append_getElem hj, List.filter_append, List.map_append]
  congr 1
  by_cases h : l[j].no = no ∧ l[j].n = n ∧ l[j].s = s
  · obtain ⟨h1, h2, h3⟩ := h
    simp [h1, h2, h3]
  · rw [if_neg h]
    have : (l[j].no == no && (l[j].n == n && l[j].s == s)) = false := by
      cases hq : (l[j].no == no && (l[j].n == n && l[j].s == s)) with
      | false => rfl
      | true => simp at hq; exact absurd hq h
    simp [this]
theorem rest_take (no : Int) (l : List RVot) (j : Nat) (hj : j < l.length) : (l.take (j + 1)).filter (fun x => x.no != no) = (l.take j).filter (fun x => x.no != no) ++ (if l[j].no = no then [] else [l[j]]) := by
  rw [List.take_succ_eq_append_getElem hj, List.filter_append]
  congr 1
  by_cases h : l[j].no = no
  · simp [h]
  · have : (l[j].no != no) = true := by simpa using h
    simp [h, this]

set_option maxHeartbeats 8000000 in
set_option maxRecDepth 100000 in
theorem rvote_any (B : Nat) (r : RMk) (no n : Int) (s t : Bs) (hs : s.length ≤ 1000000000) (ht : t.length ≤ 1000000000) (w : World) (h : RMkAt w B r) (hm : r.l.length ≤ 1000) :
    Calls Tryd.prog 19 #[.pointer (some ⟨B, 0, none⟩), .agg #[.int .i64 no, .int .i64 n, .string ⟨s.toArray⟩, .string ⟨t.toArray⟩]] w fun e w' =>
      e = .returned (.tuple #[.bool (rvoteS r ⟨no, n, s, t⟩).ok, .int .i64 (rvoteS r ⟨no, n, s, t⟩).e]) ∧ RMkAt w' B (rvoteS r ⟨no, n, s, t⟩).m ∧ Chg (fun k => k = B) w w' := by
  have hf0 := h.ok.1
  have hf3 := h.ok.2
  have hw1 : IntKind.i64.wrap (3 * r.f) = 3 * r.f := by rw [IntKind.wrap_i64]; omega
  have hb0 := below_alloc1 w (.cells #[.int .i64 no, .int .i64 n, .string ⟨s.toArray⟩, .string ⟨t.toArray⟩] 66)
  have hX0 := Blk.new w 66 #[.int .i64 no, .int .i64 n, .string ⟨s.toArray⟩, .string ⟨t.toArray⟩]
  have HM0 := Lib.hid (h.below hb0)
  have hBl := h.lt
  clear h
  go_enter Tryd.func19, Tryd.ntmps19
  go_upto_region 1 with (fail)
  have HX0 := Lib.hid hX0
  have HB0 := Lib.hid hb0
  clear hX0 hb0
  generalize w.alloc (.cells #[.int .i64 no, .int .i64 n, .string ⟨s.toArray⟩, .string ⟨t.toArray⟩] 66) = W at *
  obtain ⟨A, c, A', c', h1, h2, h3⟩ := HM0.out.own
  have b1 : W.cell? ⟨B, 1, none⟩ = some (.int .i64 r.f) := h1.cell 1
  have x0 : W.cell? ⟨w.heap.size, 0, none⟩ = some (.int .i64 no) := HX0.out.cell 0
  have HC0 : Hid (Chg (fun k => k = B) w W) := Chg.of_below HB0.out
  clear h1 h2 h3
  by_cases hno : no < 0 ∨ 3 * r.f < no
  · have ev : Hid (rvoteS r ⟨no, n, s, t⟩ = ⟨r, false, 1⟩) := by unfold Hid rvoteS; rw [if_pos hno]
    have hno' : no < 0 ∨ (0 ≤ no ∧ 3 * r.f < no) := by omega
    clear hno
    rcases hno' with h0 | ⟨h0, h00⟩
    all_goals
      rename (∀ (a : Act) (w : World), Code.wp _ _ _ a w → _) => ha
      go_quiet (fail)
      refine ha _ _ ?_
      go_wp2
      go_ret2
      exact ⟨by rw [ev.out]; rfl, by rw [ev.out]; exact HM0.out.below (below_drewN (Below.refl _ _) _), HC0.out.drewN _⟩
  · have h0 : 0 ≤ no := by omega
    have h00 : no ≤ 3 * r.f := by omega
    rename (∀ (a : Act) (w : World), Code.wp _ _ _ a w → _) => ha
    go_quiet (fail)
    refine ha _ _ ?_
    clear ha b1 x0
    replace HM0 := Lib.hid (HM0.out.below (below_drewN (Below.refl _ _) nq))
    replace HX0 := Lib.hid (HX0.out.drewN nq)
    replace HC0 := Lib.hid (HC0.out.drewN nq)
    clear HB0
    go_upto_region 3 with (fail)
    generalize W.drewN nq = W1 at *
    have HMB : Hid (∀ w', Below W1.heap.size W1 w' → RMkAt w' B r) := fun w' h => HM0.out.below h
    have HXB : Hid (∀ w', Below W1.heap.size W1 w' → Blk w' w.heap.size 66 #[.int .i64 no, .int .i64 n, .string ⟨s.toArray⟩, .string ⟨t.toArray⟩]) := fun w' h => HX0.out.below h HX0.out.lt
    go_region_held3 (fun w' => w'.cell? ⟨B, 0, none⟩ = some (.int .i64 r.g) ∧ w'.cell? ⟨w.heap.size, 0, none⟩ = some (.int .i64 no) ∧ w'.cell? ⟨w.heap.size, 1, none⟩ = some (.int .i64 n) ∧ w'.cell? ⟨w.heap.size, 2, none⟩ = some (.string ⟨s.toArray⟩))
      ((refine keepv (HMB.out _ ?_) (HXB.out _ ?_) <;> (first | (simp only [blw_drew, blw_refl]; done) | with_reducible assumption | (simp only [blw_drew]; with_reducible assumption))))
      ((go_at_call 14; refine Calls.mono (rmtext_any r.g n s (by omega) _) ?_; rintro e w2 ⟨rfl, hb2⟩; have hbW : Below W1.heap.size W1 w2 := (by have := hb2; simp only [World.size_drew] at this; exact Below.trans (by simp only [blw_drew, blw_refl]) this)))
    clear hb2
    have HM2 := Lib.hid (HMB.out _ hbW)
    have HX2 := Lib.hid (HXB.out _ hbW)
    have HC2 := Lib.hid (HC0.out.below hbW)
    clear HMB HXB hbW HM0 HX0 HC0
    by_cases he : (mrkT r.g n s).2 = 0
    · by_cases ht16 : t.length = 16
      · have ev0 : Hid (rvoteS r ⟨no, n, s, t⟩ = if n ≤ rofS r.l no then ⟨r, false, 0⟩
            else if n ≤ r.n ∨ ((rtags n s (r.l.filter (fun x => x.no != no) ++ [⟨no, n, s, t⟩]) (3 * r.f + 1).toNat).length : Int) < 2 * r.f + 1 then ⟨{ r with l := r.l.filter (fun x => x.no != no) ++ [⟨no, n, s, t⟩] }, false, 0⟩
            else ⟨{ r with l := r.l.filter (fun x => x.no != no) ++ [⟨no, n, s, t⟩], sg := r.g, n := n, s := s, c := ⟨(mrkT r.g n s).1, r.g, rtags n s (r.l.filter (fun x => x.no != no) ++ [⟨no, n, s, t⟩]) (3 * r.f + 1).toNat⟩ }, true, 0⟩) := by
          unfold Hid rvoteS; rw [if_neg hno, if_neg (by simpa using he), if_neg (by simpa using ht16)]
        obtain ⟨o, HO⟩ : ∃ o, Hid (o = rofS r.l no) := ⟨_, rfl⟩
        have HOF : Hid (∀ wx, RMkAt wx B r → Calls Tryd.prog 24 #[.pointer (some ⟨B, 0, none⟩), .int .i64 no] wx fun e w' => e = .returned (.int .i64 o) ∧ Below wx.heap.size wx w') := by
          intro wx hx
          rw [HO.out]
          exact rofm_any B r no wx hx hm
        rw [← HO.out] at ev0
        clear HO hno
        have x3 : w2.cell? ⟨w.heap.size, 3, none⟩ = some (.string ⟨t.toArray⟩) := HX2.out.cell 3
        go_upto_region 8 with (fail)
        clear x3
        have HMB : Hid (∀ w', Below w2.heap.size w2 w' → RMkAt w' B r) := fun w' h => HM2.out.below h
        have HXB : Hid (∀ w', Below w2.heap.size w2 w' → Blk w' w.heap.size 66 #[.int .i64 no, .int .i64 n, .string ⟨s.toArray⟩, .string ⟨t.toArray⟩]) := fun w' h => HX2.out.below h HX2.out.lt
        go_region_held3 (fun w' => w'.cell? ⟨B, 0, none⟩ = some (.int .i64 r.g) ∧ w'.cell? ⟨w.heap.size, 0, none⟩ = some (.int .i64 no) ∧ w'.cell? ⟨w.heap.size, 1, none⟩ = some (.int .i64 n) ∧ w'.cell? ⟨w.heap.size, 2, none⟩ = some (.string ⟨s.toArray⟩))
          ((refine keepv (HMB.out _ ?_) (HXB.out _ ?_) <;> (first | (simp only [blw_drew, blw_refl]; done) | with_reducible assumption | (simp only [blw_drew]; with_reducible assumption))))
          ((go_at_call 24; refine Calls.mono (HOF.out _ (HMB.out _ (by simp only [blw_drew, blw_refl]))) ?_; rintro e w3 ⟨rfl, hb3⟩; have hbW : Below w2.heap.size w2 w3 := (by have := hb3; simp only [World.size_drew] at this; exact Below.trans (by simp only [blw_drew, blw_refl]) this)))
        have HM3 := Lib.hid (HMB.out _ hbW)
        have HX3 := Lib.hid (HXB.out _ hbW)
        have HC3 := Lib.hid (HC2.out.below hbW)
        clear HMB HXB hbW HM2 HX2 HC2 hb3 HOF
        by_cases hle : n ≤ o
        · have ev : Hid (rvoteS r ⟨no, n, s, t⟩ = ⟨r, false, 0⟩) := by unfold Hid; rw [ev0.out, if_pos hle]
          go_wp2
          go_ret2
          exact ⟨by rw [ev.out]; rfl, by rw [ev.out]; exact HM3.out, HC3.out⟩
        · rw [if_neg hle] at ev0
          obtain ⟨A3, c3, A4, c4, h1, h2, h3⟩ := HM3.out.own
          have b2 : w3.cell? ⟨B, 2, none⟩ = some (.slice A3 r.l.length c3) := h1.cell 2
          have HRL := Lib.hid (Rd.of_own h2)
          have H1 := Lib.hid h1
          have H3 := Lib.hid h3
          clear h1 h2 h3
          go_wp2_with fail
          go_loopw [8, 59] (fun v i wr => ∃ (k : Nat) (p : List RVot) (Ap : Option Addr) (cp : Nat), k ≤ r.l.length ∧ i = .int .i64 k ∧ v = .slice Ap p.length cp ∧ p.length ≤ k ∧ Hid (p = (r.l.take k).filter (fun x => x.no != no)) ∧
            Hid (wr.ownsRow w3.heap.size 66 4 (.slice Ap p.length cp) p.length (cellsRV p)) ∧ Hid (Below w3.heap.size w3 wr)) (fun _ i _ => r.l.length - (intOf i).toNat)
          case atStart => exact ⟨0, [], none, 0, Nat.zero_le _, rfl, rfl, Nat.le_refl _, rfl, World.ownsRow_nil _ _ _ _, Below.refl _ _⟩
          case round =>
            obtain ⟨k, p, Ap, cp, hk, rfl, rfl, hpl, HP, HT, HB⟩ := hrel
            obtain ⟨i0, hi0, hz0, hz1, hz2⟩ := info_parts rvote_info
            by_cases hlt : k < r.l.length
            · obtain ⟨gg, off, cq, hV, hgl, v0, v1, v2, v3⟩ := rd_rv (HRL.out.below HB.out) hlt
              injection hV with hA _ hcc
              subst hA
              clear hcc
              have HTK := Lib.hid (rest_take no r.l k hlt)
              generalize r.l[k] = x at *
              obtain ⟨xno, xn, xs, xt⟩ := x
              simp only at v0 v1 v2 v3 HTK
              have gX := HX3.out.below HB.out HX3.out.lt
              go_upto_region 14 with (fail)
              replace gX := gX.alloc (.cells #[.int .i64 xno, .int .i64 xn, .string ⟨xs.toArray⟩, .string ⟨xt.toArray⟩] 66)
              have gT := HT.out.alloc (.cells #[.int .i64 xno, .int .i64 xn, .string ⟨xs.toArray⟩, .string ⟨xt.toArray⟩] 66)
              have gY := Blk.new wr 66 #[.int .i64 xno, .int .i64 xn, .string ⟨xs.toArray⟩, .string ⟨xt.toArray⟩]
              have gB := Lib.hid (HB.out.alloc HB.out.size (.cells #[.int .i64 xno, .int .i64 xn, .string ⟨xs.toArray⟩, .string ⟨xt.toArray⟩] 66))
              clear v0 v1 v2 v3
              generalize wr.alloc (.cells #[.int .i64 xno, .int .i64 xn, .string ⟨xs.toArray⟩, .string ⟨xt.toArray⟩] 66) = w5 at *
              have x0 : w5.cell? ⟨w.heap.size, 0, none⟩ = some (.int .i64 no) := gX.cell 0
              have y0 : w5.cell? ⟨wr.heap.size, 0, none⟩ = some (.int .i64 xno) := gY.cell 0
              have y1 : w5.cell? ⟨wr.heap.size, 1, none⟩ = some (.int .i64 xn) := gY.cell 1
              have y2 : w5.cell? ⟨wr.heap.size, 2, none⟩ = some (.string ⟨xs.toArray⟩) := gY.cell 2
              have y3 : w5.cell? ⟨wr.heap.size, 3, none⟩ = some (.string ⟨xt.toArray⟩) := gY.cell 3
              have hw35 := gB.out.size
              by_cases hq : xno = no
              · subst hq
                go_wp2_with fail
                refine ⟨⟨k + 1, p, Ap, cp, by omega, by simp, rfl, by omega, ?_, gT, gB⟩, by simp [intOf]; omega⟩
                unfold Hid
                rw [HTK.out, HP.out]
                simp
              · go_wp2_with (at_builtin; refine wpList_append_own _ rfl _ _ 57 rfl w3.heap.size 66 i0 _ 4 48 Tryd.underlying57 hi0 hz0 hz1 hz2 rfl (by omega) _ _ _ rfl (gT.alloc _) ⟨w5.heap.size, 0, none⟩ 1 1 (cellsRV [⟨xno, xn, xs, xt⟩]) rfl rfl (news_box rfl) (cellsRV_one _) (by show _ ≤ 9223372036854775807; omega) (by omega) (by simp; omega) ?_; intro v' w6 hown' hgrow _; obtain ⟨g', cap', rfl⟩ := ownsRow_succ hown')
                refine ⟨⟨k + 1, p ++ [⟨xno, xn, xs, xt⟩], some ⟨g', 0, none⟩, cap', by omega, by simp, by simp, by simp; omega, ?_, ?_, ?_⟩, by simp [intOf]; omega⟩
                · unfold Hid
                  rw [HTK.out, HP.out, if_neg hq]
                · unfold Hid
                  rw [cellsRV_append, List.length_append]
                  exact hown'
                · have hg5 := ((Below.refl w3.heap.size w5).alloc hw35 (.cells #[.int .i64 xno, .int .i64 xn, .string ⟨xs.toArray⟩, .string ⟨xt.toArray⟩] 66)).grown hgrow (by simp; omega) (fun g e => (gT.lt g e).1)
                  exact gB.out.trans hg5
            · obtain rfl : k = r.l.length := by omega
              rw [List.take_length] at HP
              have gX := HX3.out.below HB.out HX3.out.lt
              have x0 : wr.cell? ⟨w.heap.size, 0, none⟩ = some (.int .i64 no) := gX.cell 0
              have x1 : wr.cell? ⟨w.heap.size, 1, none⟩ = some (.int .i64 n) := gX.cell 1
              have x2 : wr.cell? ⟨w.heap.size, 2, none⟩ = some (.string ⟨s.toArray⟩) := gX.cell 2
              have x3 : wr.cell? ⟨w.heap.size, 3, none⟩ = some (.string ⟨t.toArray⟩) := gX.cell 3
              have gT := HT.out
              have hw3r := HB.out.size
              go_upto_region 18 with (at_builtin; refine wpList_append_own _ rfl _ _ 57 rfl w3.heap.size 66 i0 _ 4 48 Tryd.underlying57 hi0 hz0 hz1 hz2 rfl (by omega) _ _ _ rfl (gT.alloc _) ⟨wr.heap.size, 0, none⟩ 1 1 (cellsRV [⟨no, n, s, t⟩]) rfl rfl (news_box rfl) (cellsRV_one _) (by show _ ≤ 9223372036854775807; omega) (by omega) (by simp; omega) ?_; intro v' w6 hown' hgrow _; obtain ⟨g', cap', rfl⟩ := ownsRow_succ hown')
              have kB := ((H1.out.below HB.out H1.out.lt).alloc (.cells #[.int .i64 no, .int .i64 n, .string ⟨s.toArray⟩, .string ⟨t.toArray⟩] 66)).grown hgrow (fun e => by have := (gT.lt _ e.symm).1; have := H1.out.lt; omega)
              have kX := (gX.alloc (.cells #[.int .i64 no, .int .i64 n, .string ⟨s.toArray⟩, .string ⟨t.toArray⟩] 66)).grown hgrow (fun e => by have := (gT.lt _ e.symm).1; have := HX3.out.lt; omega)
              have k3 := own_keep ((own_below H3.out HB.out).alloc (.cells #[.int .i64 no, .int .i64 n, .string ⟨s.toArray⟩, .string ⟨t.toArray⟩] 66)) hgrow (fun g hg e => by have := (gT.lt g e).1; have := (H3.out.lt g hg).2; omega)
              have hb36 := HB.out.trans (((Below.refl w3.heap.size wr).alloc hw3r (.cells #[.int .i64 no, .int .i64 n, .string ⟨s.toArray⟩, .string ⟨t.toArray⟩] 66)).grown hgrow (by simp; omega) (fun g e => (gT.lt g e).1))
              have kC := HC3.out.below hb36
              have hB3 := H1.out.lt
              have f2 := kB.frozen 2
              have z2 : w6.cell? ⟨B, 2, none⟩ = some (.slice A3 r.l.length c3) := kB.cell 2
              rw [← HP.out] at ev0
              obtain ⟨l', hl'⟩ : ∃ l', l' = p ++ [(⟨no, n, s, t⟩ : RVot)] := ⟨_, rfl⟩
              have hln : p.length + 1 = l'.length := by rw [hl']; simp
              have hlm : l'.length ≤ 1001 := by omega
              rw [← cellsRV_append, ← hl', hln] at hown'
              rw [← hl'] at ev0
              have HOW := Lib.hid hown'
              have KB := Lib.hid kB
              have KX := Lib.hid kX
              have K3 := Lib.hid k3
              have KC := Lib.hid kC
              have hNB : w.heap.size ≠ B := by omega
              clear hown' hgrow kB kX k3 kC hb36 gX gT x0 x1 x2 x3 HT HB HP HRL H1 H3 HM3 HX3 HC3 b2 hl'
              go_upto_region 19 with (fail)
              try simp only [hln]
              have gB := KB.out.set_ 2 (.slice (some ⟨g', 0, none⟩) l'.length cap')
              have gX := Lib.hid (KX.out.far (p := ⟨B, 2, none⟩) hNB (.slice (some ⟨g', 0, none⟩) l'.length cap'))
              have cc := (Chg.refl (fun k => k = B) w6).setCell (p := ⟨B, 2, none⟩) (fun _ => rfl) (.slice (some ⟨g', 0, none⟩) l'.length cap')
              have gL := Lib.hid (own_weaken (cc.owns HOW.out (fun g hg e => by have := (HOW.out.lt g hg).1; omega)) (Nat.zero_le _))
              have g3 := Lib.hid (cc.owns K3.out (fun g hg e => own_blk_ne K3.out KB.out (by decide) (by rw [hg, e])))
              have gC := Lib.hid (KC.out.trans cc (fun i _ e => e))
              clear cc HOW KB KX K3 KC f2 z2
              generalize w6.setCell ⟨B, 2, none⟩ (.slice (some ⟨g', 0, none⟩) l'.length cap') = w7 at *
              have GB : Hid (Blk w7 B 62 #[.int .i64 r.g, .int .i64 r.f, .slice (some ⟨g', 0, none⟩) l'.length cap', .int .i64 r.sg, .int .i64 r.n, .string ⟨r.s.toArray⟩, .string ⟨r.c.t.toArray⟩, .int .i64 r.c.g, .slice A4 r.c.tags.length c4]) := gB
              clear gB
              have b0 : w7.cell? ⟨B, 0, none⟩ = some (.int .i64 r.g) := GB.out.cell 0
              have HRL := Lib.hid (Rd.of_own gL.out)
              have hB7 := GB.out.lt
              have hN7 := gX.out.lt
              go_wp2_with fail
              go_loopw [12] (fun i wr => ∃ (k : Nat) (q : List TagV) (Aq : Option Addr) (cq : Nat), (k : Int) ≤ 3 * r.f + 1 ∧ i = .int .i64 k ∧ q.length ≤ 1001 * k ∧ Hid (q = rtags n s l' k) ∧
                Hid (Blk wr w7.heap.size 60 #[.string ⟨(mrkT r.g n s).1.toArray⟩, .int .i64 r.g, .slice Aq q.length cq]) ∧ Hid (wr.ownsRow (w7.heap.size + 1) 95 2 (.slice Aq q.length cq) q.length (cellsT q)) ∧
                Hid (Below w7.heap.size w7 wr)) (fun i _ => (3 * r.f + 1).toNat - (intOf i).toNat)
              case atStart => exact ⟨0, [], none, 0, by omega, rfl, Nat.zero_le _, rfl, Blk.new _ _ _, World.ownsRow_nil _ _ _ _, below_alloc1 _ _⟩
              case round =>
                obtain ⟨k, q, Aq, cq, hk, rfl, hql, HQ, HC, HT, HB⟩ := hrel
                have b1 : wr.cell? ⟨B, 1, none⟩ = some (.int .i64 r.f) := (GB.out.below HB.out hB7).cell 1
                by_cases hlt : (k : Int) ≤ 3 * r.f
                · have b2 : wr.cell? ⟨B, 2, none⟩ = some (.slice (some ⟨g', 0, none⟩) l'.length cap') := (GB.out.below HB.out hB7).cell 2
                  go_wp2_with fail
                  go_loopw [101] (fun i wy => ∃ (j : Nat) (q' : List TagV) (Aq' : Option Addr) (cq' : Nat), j ≤ l'.length ∧ i = .int .i64 j ∧ q'.length ≤ 1001 * k + j ∧ Hid (q' = rtags n s l' k ++ rtagN n s k (l'.take j)) ∧
                    Hid (Blk wy w7.heap.size 60 #[.string ⟨(mrkT r.g n s).1.toArray⟩, .int .i64 r.g, .slice Aq' q'.length cq']) ∧ Hid (wy.ownsRow (w7.heap.size + 1) 95 2 (.slice Aq' q'.length cq') q'.length (cellsT q')) ∧
                    Hid (Below w7.heap.size w7 wy)) (fun i _ => l'.length - (intOf i).toNat)
                  case atStart => exact ⟨0, q, Aq, cq, Nat.zero_le _, rfl, by omega, by unfold Hid; rw [HQ.out]; simp [rtagN], HC, HT, HB⟩
                  case round =>
                    obtain ⟨j, q', Aq', cq', hj, rfl, hql', HQ', HC', HT', HB'⟩ := hrel
                    clear HC HT b1 b2
                    by_cases hlj : j < l'.length
                    · obtain ⟨gg, off, cz, hV, hgl, v0, v1, v2, v3⟩ := rd_rv (HRL.out.below HB'.out) hlj
                      injection hV with hA _ hcc
                      injection hA with hA
                      injection hA with hA1 hA2 _
                      subst hA1 hA2
                      clear hcc
                      simp only [Nat.zero_add] at v0 v1 v2 v3
                      have HTK := Lib.hid (rtagN_take n s k l' j hlj)
                      generalize l'[j] = x at *
                      obtain ⟨xno, xn, xs, xt⟩ := x
                      simp only at v0 v1 v2 v3 HTK
                      go_upto_region 26 with (fail)
                      have uX := (gX.out.below HB'.out hN7).alloc (.cells #[.int .i64 xno, .int .i64 xn, .string ⟨xs.toArray⟩, .string ⟨xt.toArray⟩] 66)
                      have uC := HC'.out.alloc (.cells #[.int .i64 xno, .int .i64 xn, .string ⟨xs.toArray⟩, .string ⟨xt.toArray⟩] 66)
                      have uT := HT'.out.alloc (.cells #[.int .i64 xno, .int .i64 xn, .string ⟨xs.toArray⟩, .string ⟨xt.toArray⟩] 66)
                      have uY := Blk.new wr 66 #[.int .i64 xno, .int .i64 xn, .string ⟨xs.toArray⟩, .string ⟨xt.toArray⟩]
                      have uB := Lib.hid (HB'.out.alloc HB'.out.size (.cells #[.int .i64 xno, .int .i64 xn, .string ⟨xs.toArray⟩, .string ⟨xt.toArray⟩] 66))
                      clear v0 v1 v2 v3
                      generalize wr.alloc (.cells #[.int .i64 xno, .int .i64 xn, .string ⟨xs.toArray⟩, .string ⟨xt.toArray⟩] 66) = w5 at *
                      have u1 : w5.cell? ⟨w.heap.size, 1, none⟩ = some (.int .i64 n) := uX.cell 1
                      have u2 : w5.cell? ⟨w.heap.size, 2, none⟩ = some (.string ⟨s.toArray⟩) := uX.cell 2
                      have hw75 := uB.out.size
                      have hc5 := uC.lt
                      by_cases hq : xno = k ∧ xn = n ∧ xs = s
                      · obtain ⟨q1, q2, q3⟩ := hq
                        rw [if_pos ⟨q1, q2, q3⟩] at HTK
                        have y0 : w5.cell? ⟨wr.heap.size, 0, none⟩ = some (.int .i64 k) := by rw [← q1]; exact uY.cell 0
                        have y1 : w5.cell? ⟨wr.heap.size, 1, none⟩ = some (.int .i64 n) := by rw [← q2]; exact uY.cell 1
                        have y2 : w5.cell? ⟨wr.heap.size, 2, none⟩ = some (.string ⟨s.toArray⟩) := by rw [← q3]; exact uY.cell 2
                        have y3 : w5.cell? ⟨wr.heap.size, 3, none⟩ = some (.string ⟨xt.toArray⟩) := uY.cell 3
                        have z2 : w5.cell? ⟨w7.heap.size, 2, none⟩ = some (.slice Aq' q'.length cq') := uC.cell 2
                        clear q1 q2 q3
                        obtain ⟨i1, hi1, hy0, hy1, hy2⟩ := info_parts rtag_info
                        go_wp2_with (at_builtin; refine wpList_append_own _ rfl _ _ 58 rfl (w7.heap.size + 1) 95 i1 _ 2 24 Tryd.underlying58 hi1 hy0 hy1 hy2 rfl (by omega) _ _ _ rfl (uT.alloc _) ⟨w5.heap.size, 0, none⟩ 1 1 (cellsT [((k : Int), xt)]) rfl rfl (news_box rfl) (cellsT_one _) (by show _ ≤ 9223372036854775807; omega) (by omega) (by simp; omega) ?_; intro v' w8 hown' hgrow _; obtain ⟨g9, cap9, rfl⟩ := ownsRow_succ hown'; have uC6 := (uC.alloc (.cells #[.int .i64 k, .string ⟨xt.toArray⟩] 95)).grown hgrow (fun e => by have := (uT.lt _ e.symm).1; omega); have z6 : w8.cell? ⟨w7.heap.size, 2, none⟩ = some (.slice Aq' q'.length cq') := uC6.cell 2; have f6 := uC6.frozen 2)
                        refine ⟨⟨j + 1, q' ++ [((k : Int), xt)], some ⟨g9, 0, none⟩, cap9, by omega, by simp, by simp; omega, ?_, ?_, ?_, ?_⟩, by simp [intOf]; omega⟩
                        · unfold Hid
                          rw [HTK.out, HQ'.out]
                          simp
                        · have := uC6.set_ 2 (.slice (some ⟨g9, 0, none⟩) (q'.length + 1) cap9)
                          unfold Hid
                          simpa using this
                        · have := ((Chg.refl (fun k => k = w7.heap.size) w8).setCell (p := ⟨w7.heap.size, 2, none⟩) (fun _ => rfl) (.slice (some ⟨g9, 0, none⟩) (q'.length + 1) cap9)).owns hown' (fun g h e => by have := (hown'.lt g h).1; omega)
                          unfold Hid
                          rw [cellsT_append, List.length_append]
                          exact this
                        · have hg5 := ((Below.refl w7.heap.size w5).alloc hw75 (.cells #[.int .i64 k, .string ⟨xt.toArray⟩] 95)).grown hgrow (by simp; omega) (fun g e => by have := (uT.lt g e).1; omega)
                          exact (uB.out.trans hg5).setCell (p := ⟨w7.heap.size, 2, none⟩) (Nat.le_refl _) _
                      · rw [if_neg hq, List.append_nil] at HTK
                        have y0 : w5.cell? ⟨wr.heap.size, 0, none⟩ = some (.int .i64 xno) := uY.cell 0
                        have y1 : w5.cell? ⟨wr.heap.size, 1, none⟩ = some (.int .i64 xn) := uY.cell 1
                        have y2 : w5.cell? ⟨wr.heap.size, 2, none⟩ = some (.string ⟨xs.toArray⟩) := uY.cell 2
                        have hq3 : ¬ xno = k ∨ (xno = k ∧ ¬ xn = n) ∨ (xno = k ∧ xn = n ∧ ¬ xs = s) := by
                          by_cases a1 : xno = k
                          · by_cases a2 : xn = n
                            · exact .inr (.inr ⟨a1, a2, fun a3 => hq ⟨a1, a2, a3⟩⟩)
                            · exact .inr (.inl ⟨a1, a2⟩)
                          · exact .inl a1
                        clear hq
                        rcases hq3 with a1 | ⟨a1, a2⟩ | ⟨a1, a2, a3⟩
                        · go_wp2_with fail
                          exact ⟨⟨j + 1, q', Aq', cq', by omega, by simp, by omega, by unfold Hid; rw [HTK.out, HQ'.out], uC, uT, uB⟩, by simp [intOf]; omega⟩
                        · rw [a1] at y0
                          go_wp2_with fail
                          exact ⟨⟨j + 1, q', Aq', cq', by omega, by simp, by omega, by unfold Hid; rw [HTK.out, HQ'.out], uC, uT, uB⟩, by simp [intOf]; omega⟩
                        · rw [a1] at y0
                          rw [a2] at y1
                          have a4 : (xs == s) = false := by simpa using a3
                          go_wp2_with fail
                          exact ⟨⟨j + 1, q', Aq', cq', by omega, by simp, by omega, by unfold Hid; rw [HTK.out, HQ'.out], uC, uT, uB⟩, by simp [intOf]; omega⟩
                    · obtain rfl : j = l'.length := by omega
                      go_wp2_with fail
                      exact ⟨⟨k + 1, q', Aq', cq', by omega, by simp, by omega, by unfold Hid; rw [HQ'.out, List.take_length]; rfl, HC', HT', HB'⟩, by simp [intOf]; omega⟩
                · obtain ⟨kn, hkn⟩ : ∃ kn : Nat, kn = (3 * r.f + 1).toNat := ⟨_, rfl⟩
                  obtain rfl : k = kn := by omega
                  rw [← hkn, ← HQ.out] at ev0
                  have HKN := Lib.hid hkn
                  clear hkn b0 b1 HRL
                  have hBr := GB.out.below HB.out hB7
                  have uX := gX.out.below HB.out hN7
                  have HGC := Lib.hid (gC.out.below HB.out)
                  have HGL := Lib.hid (own_below gL.out HB.out)
                  have HG3 := Lib.hid (own_below g3.out HB.out)
                  have HGB := Lib.hid hBr
                  have x1 : wr.cell? ⟨w.heap.size, 1, none⟩ = some (.int .i64 n) := uX.cell 1
                  have b1 : wr.cell? ⟨B, 1, none⟩ = some (.int .i64 r.f) := hBr.cell 1
                  have b4 : wr.cell? ⟨B, 4, none⟩ = some (.int .i64 r.n) := hBr.cell 4
                  have z2 : wr.cell? ⟨w7.heap.size, 2, none⟩ = some (.slice Aq q.length cq) := HC.out.cell 2
                  have HUX := Lib.hid uX
                  have hw2 : IntKind.i64.wrap (2 * r.f) = 2 * r.f := by rw [IntKind.wrap_i64]; omega
                  have hw3 : IntKind.i64.wrap (2 * r.f + 1) = 2 * r.f + 1 := by rw [IntKind.wrap_i64]; omega
                  clear hBr uX gX gL g3 gC GB
                  go_upto_region 29 with (fail)
                  by_cases hfew : n ≤ r.n ∨ (q.length : Int) < 2 * r.f + 1
                  · have ev1 : Hid (rvoteS r ⟨no, n, s, t⟩ = ⟨{ r with l := l' }, false, 0⟩) := by unfold Hid; rw [ev0.out, if_pos hfew]
                    have hfew' : n ≤ r.n ∨ (¬ n ≤ r.n ∧ (q.length : Int) < 2 * r.f + 1) := by omega
                    clear hfew
                    rcases hfew' with a1 | ⟨a1, a2⟩
                    all_goals
                      rename (∀ (a : Act) (w : World), Code.wp _ _ _ a w → _) => ha
                      go_quiet (fail)
                      refine ha _ _ ?_
                      go_wp2
                      go_ret2
                      refine ⟨by rw [ev1.out]; rfl, ?_, HGC.out.drewN _⟩
                      rw [ev1.out]
                      exact ⟨⟨_, _, _, _, HGB.out.drewN _, HGL.out, HG3.out⟩, hf0, hf3⟩
                  · have ev1 : Hid (rvoteS r ⟨no, n, s, t⟩ = ⟨{ r with l := l', sg := r.g, n := n, s := s, c := ⟨(mrkT r.g n s).1, r.g, q⟩ }, true, 0⟩) := by unfold Hid; rw [ev0.out, if_neg hfew]
                    have a1 : ¬ n ≤ r.n := fun e => hfew (.inl e)
                    have a2 : ¬ (q.length : Int) < 2 * r.f + 1 := fun e => hfew (.inr e)
                    clear hfew
                    rename (∀ (a : Act) (w : World), Code.wp _ _ _ a w → _) => ha
                    go_quiet (fail)
                    refine ha _ _ ?_
                    go_upto_region 31 with (fail)
                    clear x1 b1 b4 z2 ha
                    have gB := HGB.out.drewN nq
                    have gX := HUX.out.drewN nq
                    have GC := Lib.hid (HGC.out.drewN nq)
                    have gZ := HC.out.drewN nq
                    have GL : Hid (World.ownsRow (wr.drewN nq) _ _ _ _ _ _) := HGL.out
                    have GT : Hid (World.ownsRow (wr.drewN nq) _ _ _ _ _ _) := HT.out
                    clear HGB HUX HGC HC HGL HT HG3 HB
                    generalize wr.drewN nq = w9 at *
                    have b0 : w9.cell? ⟨B, 0, none⟩ = some (.int .i64 r.g) := gB.cell 0
                    have b3 : w9.cell? ⟨B, 3, none⟩ = some (.int .i64 r.sg) := gB.cell 3
                    have b4 : w9.cell? ⟨B, 4, none⟩ = some (.int .i64 r.n) := gB.cell 4
                    have b5 : w9.cell? ⟨B, 5, none⟩ = some (.string ⟨r.s.toArray⟩) := gB.cell 5
                    have x1 : w9.cell? ⟨w.heap.size, 1, none⟩ = some (.int .i64 n) := gX.cell 1
                    have x2 : w9.cell? ⟨w.heap.size, 2, none⟩ = some (.string ⟨s.toArray⟩) := gX.cell 2
                    have f3 := gB.frozen 3
                    have f4 := gB.frozen 4
                    have f5 := gB.frozen 5
                    have hZB : w7.heap.size ≠ B := by omega
                    have HGB := Lib.hid gB
                    have HGZ := Lib.hid gZ
                    clear gB gX gZ
                    go_big_region
                    have gB := Blk.drew (((HGB.out.set_ 3 (.int .i64 r.g)).set_ 4 (.int .i64 n)).set_ 5 (.string ⟨s.toArray⟩))
                    have gZ := Blk.drew (((HGZ.out.far (p := ⟨B, 3, none⟩) hZB (.int .i64 r.g)).far (p := ⟨B, 4, none⟩) hZB (.int .i64 n)).far (p := ⟨B, 5, none⟩) hZB (.string ⟨s.toArray⟩))
                    have cc := fun (F : Nat → Prop) (hF : F B) => ((((Chg.refl F w9).setCell (p := ⟨B, 3, none⟩) (fun _ => hF) (.int .i64 r.g)).setCell (p := ⟨B, 4, none⟩) (fun _ => hF) (.int .i64 n)).setCell (p := ⟨B, 5, none⟩) (fun _ => hF) (.string ⟨s.toArray⟩)).drew
                    have gC := Lib.hid (GC.out.trans (cc (fun k => k = B) rfl) (fun i _ e => e))
                    have gL := Lib.hid ((cc (fun k => k = B) rfl).owns GL.out (fun g hg e => own_blk_ne GL.out HGB.out (by decide) (by rw [hg, e])))
                    have gT := Lib.hid ((cc (fun k => k = B) rfl).owns GT.out (fun g hg e => own_blk_ne GT.out HGB.out (by decide) (by rw [hg, e])))
                    clear cc b0 b3 b4 b5 x1 x2 f3 f4 f5 GC GL GT HGB HGZ
                    generalize (((w9.setCell ⟨B, 3, none⟩ (.int .i64 r.g)).setCell ⟨B, 4, none⟩ (.int .i64 n)).setCell ⟨B, 5, none⟩ (.string ⟨s.toArray⟩)).drew = w10 at *
                    have z0 : w10.cell? ⟨w7.heap.size, 0, none⟩ = some (.string ⟨(mrkT r.g n s).1.toArray⟩) := gZ.cell 0
                    have z1 : w10.cell? ⟨w7.heap.size, 1, none⟩ = some (.int .i64 r.g) := gZ.cell 1
                    have z2 : w10.cell? ⟨w7.heap.size, 2, none⟩ = some (.slice Aq q.length cq) := gZ.cell 2
                    have b6 : w10.cell? ⟨B, 6, none⟩ = some (.string ⟨r.c.t.toArray⟩) := gB.cell 6
                    have b7 : w10.cell? ⟨B, 7, none⟩ = some (.int .i64 r.c.g) := gB.cell 7
                    have b8 : w10.cell? ⟨B, 8, none⟩ = some (.slice A4 r.c.tags.length c4) := gB.cell 8
                    have f6 := gB.frozen 6
                    have f7 := gB.frozen 7
                    have f8 := gB.frozen 8
                    have GB := Lib.hid gB
                    clear gB gZ
                    go_wp2
                    go_ret2
                    have cc := fun (F : Nat → Prop) (hF : F B) => ((((Chg.refl F w10).setCell (p := ⟨B, 6, none⟩) (fun _ => hF) (.string ⟨(mrkT r.g n s).1.toArray⟩)).setCell (p := ⟨B, 7, none⟩) (fun _ => hF) (.int .i64 r.g)).setCell (p := ⟨B, 8, none⟩) (fun _ => hF) (.slice Aq q.length cq))
                    have hgb := ((GB.out.set_ 6 (.string ⟨(mrkT r.g n s).1.toArray⟩)).set_ 7 (.int .i64 r.g)).set_ 8 (.slice Aq q.length cq)
                    refine ⟨by rw [ev1.out]; rfl, ?_, gC.out.trans (cc (fun k => k = B) rfl) (fun i _ e => e)⟩
                    rw [ev1.out]
                    refine ⟨⟨_, _, _, _, hgb, ?_, ?_⟩, hf0, hf3⟩
                    · exact (cc (fun k => k = B) rfl).owns gL.out (fun g hg e => own_blk_ne gL.out GB.out (by decide) (by rw [hg, e]))
                    · exact own_weaken ((cc (fun k => k = B) rfl).owns gT.out (fun g hg e => own_blk_ne gT.out GB.out (by decide) (by rw [hg, e]))) (Nat.zero_le _)
      · have ev : Hid (rvoteS r ⟨no, n, s, t⟩ = ⟨r, false, 4⟩) := by unfold Hid rvoteS; rw [if_neg hno, if_neg (by simpa using he), if_pos ht16]
        have x3 : w2.cell? ⟨w.heap.size, 3, none⟩ = some (.string ⟨t.toArray⟩) := HX2.out.cell 3
        have ht17 : ¬ (t.length : Int) = 16 := by omega
        go_wp2
        go_ret2
        exact ⟨by rw [ev.out]; rfl, by rw [ev.out]; exact HM2.out, HC2.out⟩
    · have ev : Hid (rvoteS r ⟨no, n, s, t⟩ = ⟨r, false, (mrkT r.g n s).2⟩) := by unfold Hid rvoteS; rw [if_neg hno, if_pos he]
      go_wp2
      go_ret2
      exact ⟨by rw [ev.out]; rfl, by rw [ev.out]; exact HM2.out, HC2.out⟩

end Go.Proofs.YtogpbldipmcbdaaDoor
