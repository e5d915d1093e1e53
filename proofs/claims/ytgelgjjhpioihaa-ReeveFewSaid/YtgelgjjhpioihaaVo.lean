/- ReeveFew, walked. -/
import Derived.Test.YtgelgjjhpioihaaVm
import Derived.Test.YtgelgjjhpioihaaPf
namespace Go.Proofs.Ytgelgjjhpioihaa
open Go.RowKit Go.Shelf
set_option linter.unusedVariables false
set_option linter.unusedSimpArgs false

theorem urul_info : (Try.prog.info? 49).map (fun i => (i.zero, i.size, i.bytes)) = some (some (.agg #[.int .i64 0, .int .i64 0, .int .i64 0, .int .i64 0, .int .i64 0, .int .i64 0]), 6, 48) := by kernel_rfl
theorem apart_urow {w : World} {base n : Nat} {v : Value} {xs : List Value} (h : w.ownsRow base 49 6 v n xs) : Apart w (fun i => v.ownBlock = some i) := by
  intro i hi hF
  rcases h.2 with ⟨rfl, _⟩ | ⟨g, cap, cur, rfl, _, hb, _⟩
  · simp [Value.ownBlock] at hF
  · simp only [Value.ownBlock, Option.some.injEq] at hF
    subst hF
    exact ⟨_, _, hb, by decide, by decide, by decide⟩
theorem mine_urow {base : Nat} {w w' : World} {base' n : Nat} {v : Value} {xs : List Value} (h : Chg (Mine base w) w w') (ho : w.ownsRow base' 49 6 v n xs) : w'.ownsRow base' 49 6 v n xs :=
  h.owns ho (fun g hg hF => by
    obtain ⟨_, t, cs, hb, ht | ht⟩ := hF <;> subst ht
    · exact own_blk_ne ho hb (by decide) hg
    · exact own_blk_ne ho hb (by decide) hg)
theorem mine_cmd {base : Nat} {w w' : World} {b : Nat} {cs : Array Value} (h : Chg (Mine base w) w w') (hb : Blk w b 46 cs) : Blk w' b 46 cs :=
  hb.chg h (fun hF => by
    obtain ⟨_, t, cs', hb', ht | ht⟩ := hF <;> subst ht
    · exact Blk.ne_ hb hb' (by decide) rfl
    · exact Blk.ne_ hb hb' (by decide) rfl)
theorem keepc {w : World} {b : Nat} {v0 v1 v2 : Value} (h : Blk w b 46 #[v0, v1, v2]) : w.cell? ⟨b, 0, none⟩ = some v0 ∧ w.cell? ⟨b, 1, none⟩ = some v1 ∧ w.cell? ⟨b, 2, none⟩ = some v2 := ⟨h.cell 0, h.cell 1, h.cell 2⟩

/-- What holds behind k commands: the chain, what was told of it. -/
structure FewAt (w : World) (l : List Cmd) (k : Nat) (v : Value) (wr : World) : Prop where
  hc : Chn w.heap.size wr (w.heap.size + 1) (runS (l.take k))
  ho : wr.ownsRow w.heap.size 49 6 v k (cellsU ((rulsS [cfg0] l 0).take k))
  hb : Below w.heap.size w wr

set_option maxHeartbeats 4000000 in
set_option maxRecDepth 100000 in
theorem reeveFew_any (l : List Cmd) (v : Value) (w : World) (hr : Rd w w.heap.size 3 v l.length (cellsX l)) (hm : l.length ≤ 9223372036854775807) :
    Calls Try.prog 4 #[v] w fun e w' => e = .returned (.bool true) ∧ Below w.heap.size w w' := by
  have HR := Lib.hid hr
  obtain ⟨_, A, cc, rfl, hncc, _⟩ := hr
  by_cases hbig : 60 < l.length
  · have hb2 : (60 : Int) < (l.length : Int) := by omega
    go_enter Try.func4, Try.ntmps4
    go_wp2_with fail
    refine (two_any w).mono ?_
    rintro e w1 ⟨rfl, hb⟩
    go_wp2_with fail
    go_ret
    exact ⟨rfl, hb⟩
  · have hb2 : decide ((60 : Int) < (l.length : Int)) = false := by rw [decide_eq_false_iff_not]; omega
    have hm2 : l.length ≤ 60 := by omega
    clear hbig
    obtain ⟨i0, hi0, hz0, hz1, hz2⟩ := info_parts urul_info
    go_enter Try.func4, Try.ntmps4
    go_wp2_with fail
    refine (new_any w).mono ?_
    rintro e w1 ⟨rfl, hp1, hb1⟩
    have hstart : Hid (FewAt w l 0 (.slice none 0 0) w1) := ⟨hp1, World.ownsRow_nil _ _ _ _, hb1⟩
    clear hp1 hb1
    go_wp2_with fail
    go_loopw [4, 23] (fun u i wr => ∃ k : Nat, k ≤ l.length ∧ i = .int .i64 k ∧ Hid (FewAt w l k u wr)) (fun _ i _ => l.length - (intOf i).toNat)
    case atStart => exact ⟨0, Nat.zero_le _, rfl, hstart.out⟩
    case round =>
      obtain ⟨k, hk, rfl, hI⟩ := hrel
      obtain ⟨wo, rfl⟩ : ∃ wo : World, wo = wr := ⟨_, rfl⟩
      clear hstart
      obtain ⟨Au, cu, rfl⟩ := own_shape hI.out.ho
      by_cases hlt : k < l.length
      · have hltb : decide (k < l.length) = true := by rw [decide_eq_true_iff]; exact hlt
        obtain ⟨g0, off0, c0, hV, hg0, x0, x1, x2⟩ := rd_cmd HR.out hlt
        injection hV with hA _ hcc
        subst hA hcc
        have y0 := (hI.out.hb.cell (p := ⟨g0, off0 + k * 3, none⟩) hg0).trans x0
        have y1 := (hI.out.hb.cell (p := ⟨g0, off0 + k * 3 + 1, none⟩) hg0).trans x1
        have y2 := (hI.out.hb.cell (p := ⟨g0, off0 + k * 3 + 2, none⟩) hg0).trans x2
        have hrs : Hid (runS (l.take (k + 1)) = (doS (runS (l.take k)) l[k]).1) := runS_take l k hlt
        have hcx : Hid (cellsU ((rulsS [cfg0] l 0).take (k + 1)) = cellsU ((rulsS [cfg0] l 0).take k) ++ Rul.cells ⟨0, (k : Int) + 1, l[k], (doS (runS (l.take k)) l[k]).2⟩) := by unfold Hid; rw [rulsS_take l k hlt, cellsU_append]; simp [cellsU]
        have hlen := (runS_len (l.take k)).1
        clear x0 x1 x2
        generalize l[k] = x at *
        have hcW := hI.out.hc.below ((Below.refl _ wo).alloc (Nat.le_refl _) (.cells #[.int .i64 x.kind, .int .i64 x.group, .int .i64 x.shard] 46))
        have hoW := hI.out.ho.alloc (.cells #[.int .i64 x.kind, .int .i64 x.group, .int .i64 x.shard] 46)
        have hbW := hI.out.hb.alloc hI.out.hb.size (.cells #[.int .i64 x.kind, .int .i64 x.group, .int .i64 x.shard] 46)
        have hxW : Blk (wo.alloc (.cells #[.int .i64 x.kind, .int .i64 x.group, .int .i64 x.shard] 46)) wo.heap.size 46 #[.int .i64 x.kind, .int .i64 x.group, .int .i64 x.shard] := Blk.new wo _ _
        have HDO : Hid (∀ w1 : World, Chn w.heap.size w1 (w.heap.size + 1) (runS (l.take k)) → Calls Try.prog 14 #[.pointer (some ⟨w.heap.size + 1, 0, none⟩), .agg #[.int .i64 x.kind, .int .i64 x.group, .int .i64 x.shard]] w1 fun e w' =>
          e = .returned (.int .i64 (doS (runS (l.take k)) x).2) ∧ Chn w.heap.size w' (w.heap.size + 1) (doS (runS (l.take k)) x).1 ∧ Chg (Mine w.heap.size w1) w1 w') := fun w1 h => do_in _ _ _ x w1 h (by omega) hlen
        generalize hrt : runS (l.take k) = rt at *
        clear hrt
        generalize cellsU ((rulsS [cfg0] l 0).take k) = L at *
        generalize doS rt x = rr at *
        obtain ⟨cs', e'⟩ := rr
        simp only at HDO hrs hcx
        have HC := Lib.hid hcW
        have HO := Lib.hid hoW
        have HB := Lib.hid hbW
        have hwz := hI.out.hb.size
        have hk0 : (0 : Int) ≤ (k : Int) := by omega
        have hone : Hid (∀ u ∈ Rul.cells ⟨0, (k : Int) + 1, x, e'⟩, u.oneCell' = true) := by intro u hu; simp [Rul.cells] at hu; rcases hu with rfl | rfl | rfl | rfl | rfl | rfl <;> rfl
        clear hI hcW hoW hbW
        go_upto_region 8 with fail
        clear y0 y1 y2
        generalize wo.heap.size = bx at *
        generalize wo.alloc (.cells #[.int .i64 x.kind, .int .i64 x.group, .int .i64 x.shard] 46) = W at *
        have HXB : Hid (∀ w', Below W.heap.size W w' → Blk w' bx 46 #[.int .i64 x.kind, .int .i64 x.group, .int .i64 x.shard]) := fun w' h => hxW.below h hxW.lt
        have HOB : Hid (∀ w', Below W.heap.size W w' → w'.ownsRow w.heap.size 49 6 (.slice Au k cu) k L) := fun w' h => own_below HO.out h
        have hWW : w.heap.size ≤ W.heap.size := HB.out.size
        have HBB : Hid (∀ w1, Below W.heap.size W w1 → Below w.heap.size w w1) := fun w1 h => HB.out.trans (h.mono hWW)
        have hsum : IntKind.i64.wrap ((k : Int) + 1) = (k : Int) + 1 := by rw [IntKind.wrap_i64]; omega
        clear hxW
        go_region_held3 (fun w' => w'.cell? ⟨bx, 0, none⟩ = some (.int .i64 x.kind) ∧ w'.cell? ⟨bx, 1, none⟩ = some (.int .i64 x.group) ∧ w'.cell? ⟨bx, 2, none⟩ = some (.int .i64 x.shard))
          ((first | (refine keepc (HXB.out _ ?_); simp only [bl_drew, bl_refl]; done) | (with_reducible exact keepc hxa) | (with_reducible exact keepc (hxa.alloc _)) | (with_reducible exact keepc hxc)))
          (first
            | (go_at_call 14; refine Calls.mono (HDO.out _ (HC.out.below (by simp only [bl_drew, bl_refl]))) ?_; rintro e w2 ⟨rfl, hc2, hch⟩; have hxa := mine_cmd hch (HXB.out _ (by simp only [bl_drew, bl_refl])); have hoa := mine_urow hch (HOB.out _ (by simp only [bl_drew, bl_refl])); have hbc := (HBB.out _ (by simp only [bl_drew, bl_refl])).trans (mine_below hch hWW); clear hch; have hw2 := hbc.size)
            | ((refine step_append_lies _ (by rfl) (.tmp 28) (.tmp 36) _ (by rfl) w.heap.size 49 i0 _ 6 48 Try.underlying22 hi0 hz0 hz1 hz2 (by rfl) (by omega) (.slice Au k cu) k L (by simp [Act.eval]) (hoa.alloc _) ⟨w2.heap.size, 0, none⟩ 1 1 (Rul.cells ⟨0, (k : Int) + 1, x, e'⟩) (by simp [Act.eval]) (by rfl) (World.news_of_block (heap_alloc_new _ _)) hone.out (by omega) (by unfold maxLen; omega) (by omega) (by simp; omega) (w2.heap.size + 1) (by simp) ?_; intro g2 cap2 w4 hown4 hg4 hat4 hlt4; have hxc := Blk.grown (hxa.alloc _) hg4 (fun e => own_blk_ne hoa hxa (by decide) e.symm))))
        all_goals
          have hfin : Hid (FewAt w l (k + 1) (.slice (some ⟨g2, 0, none⟩) (k + 1) cap2) w4) := by
            refine ⟨?_, by rw [hcx.out]; exact hown4, ?_⟩
            · rw [hrs.out]
              exact hc2.chg ((((Chg.refl (fun i => (Value.slice Au k cu).ownBlock = some i) w2)).alloc _).grown hg4 (fun j hj _ => hj)) (apart_urow hoa)
            · exact ((((Chg.of_below (F := fun i => w.heap.size ≤ i) hbc).alloc _).grown hg4 (fun j hj _ => (hoa.lt j hj).1))).to_below (fun i hi h => by omega) (Nat.le_refl _)
          clear hown4 hg4 hat4 hlt4 hxc hxa hoa hbc hc2
          go_wp2_with fail
          go_roundw
          case rel => exact ⟨k + 1, by omega, by go_num, hfin⟩
          case measure => simp [intOf]; omega
      · obtain rfl : k = l.length := by omega
        have hI2 := hI.out
        obtain ⟨_, ho, hb⟩ := hI2
        obtain ⟨R, hR⟩ : ∃ R, R = rulsS [cfg0] l 0 := ⟨_, rfl⟩
        have hRl : R.length = l.length := by rw [hR]; exact rulsS_length _ _ _
        have hfull : (rulsS [cfg0] l 0).take l.length = R := by rw [← hR]; exact List.take_of_length_le (by omega)
        rw [hfull] at ho
        have hjr : judgeS [cfg0] R 0 = (runS l, -1) := by rw [hR]; exact judge_ruls l [cfg0] 0 0
        have hch := chain_any R (.slice Au l.length cu) wo (by rw [hRl]; exact Rd.of_own ho) (by omega)
        unfold ChainPost at hch
        rw [hjr] at hch
        simp only [show ¬ (0 : Int) ≤ -1 by omega, if_false] at hch
        have HRG : Hid (∀ j (hj : j < l.length) (hj2 : j < R.length), R[j] = ⟨0, (j : Int) + 1, l[j], (doS (runS (l.take j)) l[j]).2⟩) := fun j hj hj2 => by
          have := rulsS_get l [cfg0] 0 j hj
          subst hR
          rw [this]
          simp [runS_fold]
        have HRL := Lib.hid hRl
        have HOW := Lib.hid ho
        have HB := Lib.hid hb
        have hC41 := (runS_len l).1
        have hC0 := (runS_len l).2
        have HGD := Lib.hid (run_good l)
        obtain ⟨C, hC⟩ : ∃ C, C = runS l := ⟨_, rfl⟩
        have HCE := Lib.hid hC
        have HST := Lib.hid (few_step_at l C hC)
        rw [← hC] at hch hC41 hC0 HGD
        have HCH := Lib.hid hch
        clear hI ho hb hR hRl hfull hjr hch hC
        go_wp2_with fail
        refine HCH.out.mono ?_
        rintro e w2 ⟨vc, ps, rfl, hrow, hmap, hb2⟩
        have hpl : ps.length = C.length := by have := congrArg List.length hmap; simpa using this
        have hmv := moves_any vc ps w2 hrow.rd (by omega) (by omega) (by rw [hmap]; exact HGD.out)
        rw [hmap] at hmv
        obtain ⟨M, hM⟩ : ∃ M, M = movesS C := ⟨_, rfl⟩
        have hML : M.length = C.length - 1 := by rw [hM]; exact movesS_length C
        have HMG : Hid (∀ kk (h : kk + 1 < C.length), M[kk]? = some (mv (C[kk]'(Nat.lt_of_succ_lt h)).o (C[kk + 1]'h).o)) := fun kk h => by rw [hM]; exact movesS_get C kk h
        rw [← hM] at hmv
        have HB2 := Lib.hid (HB.out.trans (hb2.mono HB.out.size))
        have HOW2 := Lib.hid (own_below HOW.out hb2)
        have HROW := Lib.hid hrow
        have HMAP := Lib.hid hmap
        have HMV := Lib.hid hmv
        have hM1 : (1 : Int) ≤ (ps.length : Int) := by omega
        have hMZ : ((M.length : Int) != (ps.length : Int) - 1) = false := by simp; omega
        have HLL := Lib.hid (And.intro hpl hML)
        obtain ⟨Ac, c1, rfl⟩ := own_shape hrow.row
        have hp41 : ps.length ≤ 41 := by omega
        clear hrow hmap hmv hb2 hM hML hpl HCH HB HOW
        go_wp2_with fail
        refine HMV.out.mono ?_
        rintro e W ⟨vm, rfl, hownm, hb3⟩
        have HBW := Lib.hid (HB2.out.trans (hb3.mono HB2.out.size))
        have HUW := Lib.hid (Rd.of_own (own_below HOW2.out hb3))
        have HCW := Lib.hid (HROW.out.below hb3).rd
        have HMW := Lib.hid (Rd.of_own hownm)
        obtain ⟨Am, cm, rfl⟩ := own_shape hownm
        clear hownm hb3 HB2 HOW2 HROW HMV
        go_wp2_with fail
        go_loopw [11, 65] (fun kv jv wr => ∃ j kk : Nat, j ≤ l.length ∧ kk ≤ 41 ∧ jv = .int .i64 j ∧ kv = .int .i64 kk ∧ Hid ((runS (l.take j)).length = kk + 1) ∧ Hid (Below W.heap.size W wr)) (fun _ jv _ => l.length - (intOf jv).toNat)
        case atStart => exact ⟨0, 0, Nat.zero_le _, Nat.zero_le _, rfl, rfl, rfl, Below.refl _ _⟩
        case round =>
          obtain ⟨j, kk, hj, hkk, rfl, rfl, hL, hq⟩ := hrel
          obtain ⟨V0, rfl⟩ : ∃ V0 : World, V0 = wr := ⟨_, rfl⟩
          by_cases hltj : j < l.length
          · have hjR : j < R.length := by rw [HRL.out]; exact hltj
            have hru : Rd W W.heap.size 6 (.slice Au l.length cu) R.length (cellsU R) := by rw [HRL.out]; exact HUW.out
            obtain ⟨gu, ou, cu', hV, hgu, hx⟩ := rd_rul hru hjR
            rw [HRL.out] at hV
            injection hV with hA _ hcc
            subst hA hcc
            rw [HRG.out j hltj hjR] at hx
            have hst := HST.out j hltj kk hL.out
            generalize l[j] = x at *
            generalize doS (runS (l.take j)) x = rr at *
            obtain ⟨cs', e'⟩ := rr
            simp only at hst hx
            have hx' : ∀ i, i < 6 → ∀ u, (Rul.cells ⟨0, (j : Int) + 1, x, e'⟩)[i]? = some u → V0.cell? ⟨gu, ou + (j * 6 + i), none⟩ = some u := fun i hi u hu => (hq.out.cell (p := ⟨gu, ou + (j * 6 + i), none⟩) hgu).trans (hx i hi u hu)
            have y0 : V0.cell? ⟨gu, ou + j * 6, none⟩ = some (.int .i64 0) := by have := hx' 0 (by omega) _ rfl; simpa using this
            have y1 : V0.cell? ⟨gu, ou + j * 6 + 1, none⟩ = some (.int .i64 ((j : Int) + 1)) := hx' 1 (by omega) _ rfl
            have y2 : V0.cell? ⟨gu, ou + j * 6 + 2, none⟩ = some (.int .i64 x.kind) := hx' 2 (by omega) _ rfl
            have y3 : V0.cell? ⟨gu, ou + j * 6 + 3, none⟩ = some (.int .i64 x.group) := hx' 3 (by omega) _ rfl
            have y4 : V0.cell? ⟨gu, ou + j * 6 + 4, none⟩ = some (.int .i64 x.shard) := hx' 4 (by omega) _ rfl
            have y5 : V0.cell? ⟨gu, ou + j * 6 + 5, none⟩ = some (.int .i64 e') := hx' 5 (by omega) _ rfl
            have HBV := Lib.hid (hq.out.alloc hq.out.size (.cells #[.int .i64 0, .int .i64 ((j : Int) + 1), .int .i64 x.kind, .int .i64 x.group, .int .i64 x.shard, .int .i64 e'] 49))
            have hbk : Blk (V0.alloc (.cells #[.int .i64 0, .int .i64 ((j : Int) + 1), .int .i64 x.kind, .int .i64 x.group, .int .i64 x.shard, .int .i64 e'] 49)) V0.heap.size 49 #[.int .i64 0, .int .i64 ((j : Int) + 1), .int .i64 x.kind, .int .i64 x.group, .int .i64 x.shard, .int .i64 e'] := Blk.new V0 _ _
            have hj0 : (0 : Int) ≤ (j : Int) := by omega
            have hj1 : (j : Int) < (l.length : Int) := by omega
            cases he : (e' == 0) with
            | false =>
              have hl2 : Hid ((runS (l.take (j + 1))).length = kk + 1) := hst.1 (by simpa using he)
              have he2 : (e' != 0) = true := by simpa using he
              clear hst hx hx' hbk
              go_wp2_with fail
              go_roundw
              case rel => exact ⟨j + 1, kk, by omega, hkk, by go_num, by trivial, hl2, HBV.out⟩
              case measure => simp [intOf]; omega
            | true =>
              obtain rfl : e' = 0 := by simpa using he
              obtain ⟨hkC, hn0, hn1, hl2⟩ := hst.2 rfl
              have hl2 := Lib.hid hl2
              have hmg := HMG.out kk hkC
              have hkp : kk < ps.length := by rw [HLL.out.1]; omega
              have hkM : kk < M.length := by rw [HLL.out.2]; omega
              obtain ⟨gm, om, cm', hVm, hgm, hcm⟩ := rd_get1 HMW.out hkM
              injection hVm with hA _ hcc
              subst hA hcc
              have hMk : M[kk] = mv C[kk].o C[kk + 1].o := by rw [List.getElem?_eq_getElem hkM] at hmg; simpa using hmg
              rw [hMk] at hcm
              obtain ⟨gc, oc, cc', hVc, hgc, q0, q1, q2, q3, q4, q5⟩ := HCW.out.get hkp
              injection hVc with hA _ hcc
              subst hA hcc
              have hck : ps[kk].1 = C[kk] := by
                obtain ⟨_, e3⟩ := map_at HMAP.out kk hkp
                rw [e3]
              rw [hck] at q0 q2 q3 q4 q5
              have hf3 : x.kind = 3 → mv C[kk].o C[kk + 1].o = 1 := fun h => by rw [← hn1]; exact move_one hn0 h
              have hf2 : x.kind = 2 → cntK C[kk].o x.group 4 ≤ mv C[kk].o C[kk + 1].o := fun h => by rw [← hn1]; exact leave_most hn0 h
              have hmv4 := mvK_bd C[kk].o C[kk + 1].o 4
              have hmvd : mv C[kk].o C[kk + 1].o = mvK C[kk].o C[kk + 1].o 4 := rfl
              rw [← hmvd] at hmv4
              clear hmg hMk hn0 hn1 hmvd
              generalize mv C[kk].o C[kk + 1].o = q at *
              generalize C[kk].o = co at *
              clear hck
              obtain ⟨hq0, hq4⟩ := hmv4
              generalize hV1 : V0.alloc (.cells #[.int .i64 0, .int .i64 ((j : Int) + 1), .int .i64 x.kind, .int .i64 x.group, .int .i64 x.shard, .int .i64 0] 49) = V at *
              have HV1 := Lib.hid hV1
              clear hV1
              have HBK := Lib.hid hbk
              have HJ := Lib.hid (blk_j ((HBV.out.cell (p := ⟨gc, oc + kk * 6 + 2, none⟩) hgc).trans q2) ((HBV.out.cell (p := ⟨gc, oc + kk * 6 + 3, none⟩) hgc).trans q3) ((HBV.out.cell (p := ⟨gc, oc + kk * 6 + 4, none⟩) hgc).trans q4) ((HBV.out.cell (p := ⟨gc, oc + kk * 6 + 5, none⟩) hgc).trans q5))
              have hmc := (HBV.out.cell (p := ⟨gm, om + kk, none⟩) hgm).trans hcm
              have z2 := hbk.cell 2
              have z3 := hbk.cell 3
              have z5 := hbk.cell 5
              have hVlt : gc < V.heap.size := by have := HBV.out.size; omega
              have hVlm : gm < V.heap.size := by have := HBV.out.size; omega
              have hbl : V0.heap.size < V.heap.size := hbk.lt
              have hk0 : (0 : Int) ≤ (kk : Int) := by omega
              have hk1 : (kk : Int) < (M.length : Int) := by omega
              have hk2 : (kk : Int) < (ps.length : Int) := by omega
              have hq5 : decide ((4 : Int) < q) = false := by rw [decide_eq_false_iff_not]; omega
              have hmc' : V.cell? ⟨gm, om + kk, none⟩ = some (.int .i64 q) := hmc
              have hcase : (x.kind = 3 ∧ q = 1) ∨ (x.kind = 2 ∧ cntK co x.group 4 ≤ q) ∨ (x.kind ≠ 3 ∧ x.kind ≠ 2) := by
                by_cases h3 : x.kind = 3
                · exact .inl ⟨h3, hf3 h3⟩
                · by_cases h2 : x.kind = 2
                  · exact .inr (.inl ⟨h2, hf2 h2⟩)
                  · exact .inr (.inr ⟨h3, h2⟩)
              have HRG2 := Lib.hid (cntK_bd co x.group)
              clear hf3 hf2 hmc hst hx hx' hbk hgm hgc
              rcases hcase with ⟨h3, h1⟩ | ⟨h2, h1⟩ | ⟨h3, h2⟩
              case' inl =>
                have t3 : (x.kind == 3) = true := by simp [h3]
                have t2 : (x.kind == 2) = false := by simp [h3]
                have tq : (q != 1) = false := by simp [h1]
                clear h3 h1
              case' inr.inl =>
                have t3 : (x.kind == 3) = false := by simp [h2]
                have t2 : (x.kind == 2) = true := by simp [h2]
                have tl : decide (q < cntK co x.group 4) = false := by rw [decide_eq_false_iff_not]; omega
                clear h2 h1
              case' inr.inr =>
                have t3 : (x.kind == 3) = false := by simp [h3]
                have t2 : (x.kind == 2) = false := by simp [h2]
                clear h2 h3
              all_goals
                go_upto_region 18 with fail
                rw [HV1.out]
                clear y0 y1 y2 y3 y4 y5
                go_wp2_with fail
                go_loopw [14, 15] (fun lv iv wx => ∃ m : Nat, m ≤ 4 ∧ iv = .int .i64 m ∧ lv = .int .i64 (cntK co x.group m) ∧ Hid (Below V.heap.size V wx)) (fun _ iv _ => 4 - (intOf iv).toNat)
                case atStart => exact ⟨0, by omega, rfl, rfl, Below.refl _ _⟩
                case round =>
                  obtain ⟨m, hm4, rfl, rfl, hVx⟩ := hrel
                  by_cases hlt4 : m < 4
                  · have hcell := (hVx.out.cell (p := ⟨gc, oc + kk * 6 + 2 + m, none⟩) hVlt).trans (HJ.out m hlt4)
                    have z3x := (hVx.out.cell (p := ⟨V0.heap.size, 3, none⟩) hbl).trans z3
                    have hst : Hid (cntK co x.group (m + 1) = cntK co x.group m + (if co.get m = x.group then 1 else 0)) := rfl
                    obtain ⟨hb0, hb4⟩ := HRG2.out m
                    generalize co.get m = a at *
                    generalize cntK co x.group m = s at *
                    have hm0 : (0 : Int) ≤ (m : Int) := by omega
                    have hm1 : (m : Int) < 4 := by omega
                    cases ha : (a == x.group) with
                    | false =>
                      have HE : Hid (cntK co x.group (m + 1) = s) := by
                        unfold Hid; rw [hst.out, if_neg (by simpa using ha)]; omega
                      go_wp2_with fail
                      go_quiet (fail)
                      go_wp2_with fail
                      go_roundw
                      case rel => exact ⟨m + 1, by omega, by go_num, by rw [HE.out], below_drewN hVx.out _⟩
                      case measure => simp [intOf]; omega
                    | true =>
                      have HE : Hid (cntK co x.group (m + 1) = s + 1) := by
                        unfold Hid; rw [hst.out, if_pos (by simpa using ha)]
                      go_wp2_with fail
                      go_quiet (fail)
                      go_wp2_with fail
                      go_roundw
                      case rel => exact ⟨m + 1, by omega, by go_num, by rw [HE.out], below_drewN hVx.out _⟩
                      case measure => simp [intOf]; omega
                  · obtain rfl : m = 4 := by omega
                    have z2x := (hVx.out.cell (p := ⟨V0.heap.size, 2, none⟩) hbl).trans z2
                    have hmx := (hVx.out.cell (p := ⟨gm, om + kk, none⟩) hVlm).trans hmc'
                    have HBX := Lib.hid (HBV.out.trans (hVx.out.mono HBV.out.size))
                    generalize cntK co x.group 4 = s at *
                    go_wp2_with fail
                    go_roundw
                    case rel => exact ⟨j + 1, kk + 1, by omega, by omega, by go_num, by go_num, hl2.out, HBX.out⟩
                    case measure => simp [intOf]; omega
          · obtain rfl : j = l.length := by omega
            have hkM : ((kk : Int) == (M.length : Int)) = true := by
              have h1 := hL.out
              rw [List.take_of_length_le (Nat.le_refl _), ← HCE.out] at h1
              have := HLL.out
              simp; omega
            clear hL
            go_wp2_with fail
            refine (two_any _).mono ?_
            rintro e w5 ⟨rfl, hb5⟩
            go_wp2_with fail
            go_ret
            exact ⟨rfl, HBW.out.trans ((hq.out.trans (hb5.mono hq.out.size)).mono HBW.out.size)⟩

end Go.Proofs.Ytgelgjjhpioihaa
