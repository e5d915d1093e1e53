/- The configuration of a text: the document's answer. -/
import Derived.Test.YtioikihehjacgaaGreatDoorCTexts41
set_option linter.unusedVariables false
set_option linter.unusedSimpArgs false
set_option linter.unnecessarySimpa false
namespace Go.Proofs.YtioikihehjacgaaGreatDoor
open Go.RowKit Go.Shelf

theorem rsix_ownT {w : World} {b base : Nat} {cs : Array Value} (h : Blk w b 32 cs) {s : Value} {n : Nat} {xs : List Value} (ho : w.ownsRow base 3 1 s n xs) (v0 v1 v2 v3 v4 v5 : Value) :
    ((((((w.setCell ⟨b, 0, none⟩ v0).setCell ⟨b, 1, none⟩ v1).setCell ⟨b, 2, none⟩ v2).setCell ⟨b, 3, none⟩ v3).setCell ⟨b, 4, none⟩ v4).setCell ⟨b, 5, none⟩ v5).ownsRow base 3 1 s n xs :=
  (((((((Chg.refl (fun i => i = b) w).setCell (fun _ => rfl) _).setCell (fun _ => rfl) _).setCell (fun _ => rfl) _).setCell (fun _ => rfl) _).setCell (fun _ => rfl) _).setCell (fun _ => rfl) _).owns ho (fun g hg e => own_blk_ne ho h (by decide) (by rw [hg, e]))
theorem own_put_take (o : Own) (k : Nat) (hk : k < 4) (v : Int) : (o.put k v).list.take (k + 1) = o.list.take k ++ [v] := by
  have : k = 0 ∨ k = 1 ∨ k = 2 ∨ k = 3 := by omega
  rcases this with rfl | rfl | rfl | rfl <;> rfl
/-- A configuration in the making: its groups are ns. -/
structure RMk (B b : Nat) (W wr : World) (n : Int) (sv : Value) (ns : List Int) (o : Own) : Prop where
  box : Blk wr b 32 (cfgCells n sv o)
  own : wr.ownsRow B 3 1 sv ns.length (ints ns)
  bel : Below B W wr
theorem RMk.more {B b : Nat} {W wr w2 : World} {n : Int} {sv : Value} {ns : List Int} {o : Own} (h : RMk B b W wr n sv ns o) (hB : B ≤ W.heap.size) (hb : Below wr.heap.size wr w2) : RMk B b W w2 n sv ns o :=
  ⟨h.box.below hb h.box.lt, own_below h.own hb, h.bel.trans (hb.mono (Nat.le_trans hB h.bel.size))⟩
theorem RMk.push {B b : Nat} {W wr w6 : World} {n m : Int} {sv v' : Value} {ns : List Int} {o : Own} {ob : Obj} (h : RMk B b W wr n sv ns o) (hB : B ≤ wr.heap.size) (hbB : B ≤ b) (hg : (wr.alloc ob).grownBy w6 sv.ownBlock) (ho : w6.ownsRow B 3 1 v' (ns.length + 1) (ints ns ++ [.int .i64 m])) :
    RMk B b W (w6.setCell ⟨b, 1, none⟩ v') n v' (ns ++ [m]) o ∧ w6.cell? ⟨b, 1, none⟩ = some sv ∧ w6.frozen? ⟨b, 1, none⟩ = false := by
  have hne : some b ≠ sv.ownBlock := fun e => own_blk_ne h.own h.box (by decide) e.symm
  have hbox : Blk w6 b 32 (cfgCells n sv o) := (h.box.alloc ob).grown hg hne
  refine ⟨⟨hbox.set_ 1 v', ?_, ?_⟩, hbox.cell 1, hbox.frozen 1⟩
  · have := ((Chg.refl (fun i => i = b) w6).setCell (p := ⟨b, 1, none⟩) (fun _ => rfl) v').owns ho (fun k hk e => own_blk_ne ho hbox (by decide) (by rw [hk, e]))
    rw [List.length_append]
    simpa [ints] using this
  · exact ((h.bel.alloc hB ob).grown hg (by simp; omega) (fun g e => (h.own.lt g e).1)).setCell (p := ⟨b, 1, none⟩) hbB _
theorem RMk.owner {B b : Nat} {W wr : World} {n m : Int} {sv : Value} {ns : List Int} {o : Own} (h : RMk B b W wr n sv ns o) (hbB : B ≤ b) (k : Nat) (hk : k < 4) : RMk B b W (wr.setCell ⟨b, 2 + k, none⟩ (.int .i64 m)) n sv ns (o.put k m) :=
  ⟨rblk_put h.box k hk m, ((Chg.refl (fun i => i = b) wr).setCell (p := ⟨b, 2 + k, none⟩) (fun _ => rfl) _).owns h.own (fun g hg e => own_blk_ne h.own h.box (by decide) (by rw [hg, e])), h.bel.setCell (p := ⟨b, 2 + k, none⟩) hbB _⟩
theorem listedB_of {t : Bs} (h : (unpackB t).2 = 0) : listedB t = match toNums (unpackB t).1 with | some l => (l, (0 : Int)) | none => ([], 4) := by
  unfold listedB
  rw [if_pos h]
  cases toNums (unpackB t).1 <;> rfl
theorem listedB_bad {t : Bs} (h : ¬ (unpackB t).2 = 0) : listedB t = ([], 4) := by
  unfold listedB
  rw [if_neg h]

set_option maxHeartbeats 16000000 in
set_option maxRecDepth 100000 in
theorem rread_any (t : Bs) (ht : t.length ≤ 1000000000) (w : World) :
    Calls Tryz.prog 9 #[.string ⟨t.toArray⟩] w (CfgPost (cfgRd t) w) := by
  have hal := (Below.refl w.heap.size w).alloc (Nat.le_refl _) (.cells #[.int .i64 0, .slice none 0 0, .int .i64 0, .int .i64 0, .int .i64 0, .int .i64 0] 32)
  have hU := runpack_any t (by omega) (w.alloc (.cells #[.int .i64 0, .slice none 0 0, .int .i64 0, .int .i64 0, .int .i64 0, .int .i64 0] 32))
  have hsm := unpackB_small t
  have HAL := Lib.hid hal
  obtain ⟨i0, hi0, hz0, hz1, hz2⟩ := info_parts int_info
  clear hal
  by_cases he : (unpackB t).2 = 0
  · rw [he] at hU
    by_cases h4 : (unpackB t).1.length = 4
    · obtain ⟨a, b, c, d, hl4⟩ := four_of _ h4
      rw [hl4] at hU hsm
      have hbl := hsm.2 b (by simp)
      have hcl := hsm.2 c (by simp)
      have hdl := hsm.2 d (by simp)
      rw [cfgRd_four he hl4]
      clear he h4 hl4 hsm
      by_cases ha : a = wCfg
      · have ha2 : a.toArray = #[99, 111, 110, 102, 105, 103] := by rw [ha]; rfl
        have HLc : Hid (cfgL a b c d = if (toNumB b).2 = 0 ∧ (listedB c).2 = 0 ∧ (listedB d).2 = 0 then cfgO (toNumB b).1 (listedB c).1 (listedB d).1 else (cfg00, 4)) := by
          unfold Hid cfgL
          by_cases hq : (toNumB b).2 = 0 ∧ (listedB c).2 = 0 ∧ (listedB d).2 = 0
          · rw [if_pos hq, if_pos ⟨ha, hq⟩]
          · rw [if_neg hq, if_neg (fun h => hq h.2)]
        have hLok := fun (h : (unpackB c).2 = 0) => listedB_of h
        have hLno := fun (h : ¬ (unpackB c).2 = 0) => listedB_bad h
        have hDok := fun (h : (unpackB d).2 = 0) => listedB_of h
        have hDno := fun (h : ¬ (unpackB d).2 = 0) => listedB_bad h
        have hcs := unpackB_small c
        have hds := unpackB_small d
        clear ha
        go_enter Tryz.func9, Tryz.ntmps9
        go_wp2_with fail
        refine hU.mono ?_
        rintro e W1 ⟨v, rfl, hv, hb1⟩
        have hz1 := Lib.hid (blkZ hb1)
        have HB1 := Lib.hid (HAL.out.trans (hb1.mono HAL.out.size))
        obtain ⟨g, off, cap, rfl, hg, c0, c1, c2, c3⟩ := rd_fourT (Rd.of_own hv)
        rw [ha2] at c0
        have HLOK := Lib.hid hLok
        have HLNO := Lib.hid hLno
        have HDOK := Lib.hid hDok
        have HDNO := Lib.hid hDno
        have HCS := Lib.hid hcs
        have HDS := Lib.hid hds
        clear hU hv hb1 hLok hLno hDok hDno hcs hds
        go_wp2_with fail
        refine (rtoNum_any b (by omega) _).mono ?_
        rintro e W2 ⟨rfl, hb2⟩
        have d2 := (hb2.cell (p := ⟨g, off + 2, none⟩) hg).trans c2
        have d3 := (hb2.cell (p := ⟨g, off + 3, none⟩) hg).trans c3
        have hg2 := Nat.lt_of_lt_of_le hg hb2.size
        have HB2 := Lib.hid (HB1.out.trans (hb2.mono HB1.out.size))
        have hz2 := Lib.hid (hz1.out.below hb2 hz1.out.lt)
        clear c0 c1 c2 c3 hb2 hg hz1
        go_wp2_with fail
        refine (runpack_any c (by omega) _).mono ?_
        rintro e W3 ⟨vc, rfl, hvc, hb3⟩
        have e3 := (hb3.cell (p := ⟨g, off + 3, none⟩) hg2).trans d3
        have HB3 := Lib.hid (HB2.out.trans (hb3.mono HB2.out.size))
        have hz3 := Lib.hid (hz2.out.below hb3 hz2.out.lt)
        have HVC := Lib.hid (Rd.of_own hvc)
        obtain ⟨Ac, ccap, rfl⟩ := own_shape hvc
        clear d2 d3 hb3 hz2 hvc
        go_wp2_with fail
        refine (runpack_any d (by omega) _).mono ?_
        rintro e W4 ⟨vd, rfl, hvd, hb4⟩
        have HB4 := Lib.hid (HB3.out.trans (hb4.mono HB3.out.size))
        have hz4 := Lib.hid (hz3.out.below hb4 hz3.out.lt)
        have HVC4 := Lib.hid ((HVC.out.below hb4).more hb4.size)
        have HVD4 := Lib.hid (Rd.of_own hvd)
        obtain ⟨Ad, dcap, rfl⟩ := own_shape hvd
        clear e3 hb4 hz3 hvd HVC
        generalize toNumB b = nb at *
        generalize listedB c = lc at *
        generalize listedB d = ld at *
        generalize unpackB c = uc at *
        generalize unpackB d = ud at *
        obtain ⟨n, en⟩ := nb
        obtain ⟨cs, ec⟩ := uc
        obtain ⟨ds, ed⟩ := ud
        simp only at HLc HLOK HLNO HDOK HDNO HCS HDS HVC4 HVD4 ⊢
        obtain ⟨z0, z1, z2, z3, z4, z5⟩ := blk_c6 hz4.out
        obtain ⟨f0, f1, f2, f3, f4, f5⟩ := fr6 hz4.out
        by_cases hgd : en = 0 ∧ ec = 0 ∧ ed = 0 ∧ ds.length = 4
        · obtain ⟨rfl, rfl, rfl, h4⟩ := hgd
          have hd4 : (ds.length : Int) = 4 := by omega
          have HD4 := Lib.hid h4
          clear h4 z0 z1 z2 z3 z4 z5 f0 f1 f2 f3 f4 f5
          have hcl1 := HCS.out.1
          have HM0 : Hid (RMk W4.heap.size W4.heap.size W4 (W4.alloc (.cells #[.int .i64 n, .slice none 0 0, .int .i64 0, .int .i64 0, .int .i64 0, .int .i64 0] 32)) n (.slice none 0 0) [] ⟨0, 0, 0, 0⟩) := ⟨Blk.new W4 _ _, World.ownsRow_nil _ _ _ _, (Below.refl _ _).alloc (Nat.le_refl _) _⟩
          go_wp2_with fail
          go_loopw [81] (fun i wr => ∃ (k : Nat), k ≤ cs.length ∧ i = .int .i64 k ∧ Hid (∃ ns sv, ns.length = k ∧ toNums (cs.take k) = some ns ∧ RMk W4.heap.size W4.heap.size W4 wr n sv ns ⟨0, 0, 0, 0⟩)) (fun i _ => cs.length - (intOf i).toNat)
          case atStart => exact ⟨0, Nat.zero_le _, rfl, [], _, rfl, rfl, HM0.out⟩
          case round =>
            obtain ⟨k, hk, rfl, HI⟩ := hrel
            obtain ⟨ns, sv, hnl, hns, hM⟩ := HI.out
            have HNS := Lib.hid hns
            have HNL := Lib.hid hnl
            have HM := Lib.hid hM
            obtain ⟨Av, cv, rfl⟩ := own_shape hM.own
            have hsz := hM.bel.size
            clear hns hnl hM HI
            by_cases hlt : k < cs.length
            · obtain ⟨g, off, c1, hV, hg, q0⟩ := rd_gets (HVC4.out.below HM.out.bel) hlt
              injection hV with hA _ hcc
              subst hA
              clear hcc
              have hsl := HCS.out.2 cs[k] (List.getElem_mem hlt)
              have HT := Lib.hid (toNums_take cs k hlt ns HNS.out)
              have HNO := Lib.hid (toNums_none cs k hlt)
              have h4 := toNum_four cs[k]
              generalize cs[k] = s at *
              have hN := rtoNum_any s (by omega) wr
              by_cases h0 : (toNumB s).2 = 0
              · rw [h0] at hN
                have HT2 : Hid (toNums (cs.take (k + 1)) = some (ns ++ [(toNumB s).1])) := by unfold Hid; rw [HT.out, if_pos h0]
                clear HT HNO h0 h4
                generalize (toNumB s).1 = m at *
                go_wp2_with fail
                refine hN.mono ?_
                rintro e w2 ⟨rfl, hb2⟩
                have HM2 := Lib.hid (HM.out.more (Nat.le_refl _) hb2)
                have y1 : w2.cell? ⟨W4.heap.size, 1, none⟩ = some (.slice Av ns.length cv) := HM2.out.box.cell 1
                have hsz2 := HM2.out.bel.size
                have hnk : ns.length ≤ cs.length := by have := HNL.out; omega
                clear HM hb2 hN q0
                go_wp2_with (at_builtin; refine wpList_append_own _ rfl _ _ 22 rfl W4.heap.size 3 i0 _ 1 8 Tryz.underlying22 hi0 hz0 hz1 hz2 rfl (by omega) _ _ _ rfl (HM2.out.own.alloc _) ⟨w2.heap.size, 0, none⟩ 1 1 [.int .i64 m] rfl rfl (news_box (cs := #[.int .i64 m]) rfl) (by simp [Value.oneCell']) (by show _ ≤ 9223372036854775807; omega) (by omega) (by simp; omega) ?_; intro v' w6 hown' hgrow _; obtain ⟨g', cap', rfl⟩ := ownsRow_succ hown'; obtain ⟨hM6, y6, f6⟩ := HM2.out.push hsz2 (Nat.le_refl _) hgrow hown'; have HM6 := Lib.hid hM6; clear hM6)
                exact ⟨⟨k + 1, by omega, by simp, ⟨ns ++ [m], _, by simp [HNL.out], HT2.out, HM6.out⟩⟩, by simp [intOf]; omega⟩
              · have h4' := h4 h0
                rw [h4'] at hN
                have HF : Hid (cfgL a b c d = (cfg00, 4)) := by
                  unfold Hid
                  rw [HLc.out, HLOK.out (by trivial), HNO.out h0]
                  rw [if_neg (by rintro ⟨_, h, _⟩; simp at h)]
                clear h4 h0
                go_wp2_with fail
                refine hN.mono ?_
                rintro e w2 ⟨rfl, hb2⟩
                have HM2 := Lib.hid (HM.out.more (Nat.le_refl _) hb2)
                have hz := hz4.out.below HM2.out.bel hz4.out.lt
                obtain ⟨z0, z1, z2, z3, z4, z5⟩ := blk_c6 hz
                obtain ⟨f0, f1, f2, f3, f4, f5⟩ := fr6 hz
                have HB6 := Lib.hid (HB4.out.trans (HM2.out.bel.mono HB4.out.size))
                clear hz hb2
                go_wp2
                refine bodyPost_ret (v := .tuple #[cfg00.val (.slice none 0 0), .int .i64 4]) (by simp [results, Tryz.results9, go_sem, z0, z1, z2, z3, z4, z5, Cfg.val, cfg00]) rfl ⟨_, by rw [HF.out], by rw [HF.out]; exact World.ownsRow_nil _ _ _ _, six_below HB6.out (Nat.le_refl _) _ _ _ _ _ _⟩
            · obtain rfl : k = cs.length := by omega
              rw [List.take_length] at HNS
              have HLN : Hid (lc = (ns, 0)) := by unfold Hid; rw [HLOK.out (by trivial), HNS.out]
              clear HNS HLOK HLNO HM0 hlt
              go_wp2_with fail
              go_loopw [102] (fun i wx => ∃ (k : Nat), k ≤ 4 ∧ i = .int .i64 k ∧ Hid (∃ o : Own, toNums (ds.take k) = some (o.list.take k) ∧ RMk W4.heap.size W4.heap.size W4 wx n (.slice Av ns.length cv) ns o)) (fun i _ => 4 - (intOf i).toNat)
              case atStart => exact ⟨0, Nat.zero_le _, rfl, ⟨0, 0, 0, 0⟩, rfl, HM.out⟩
              case round =>
                obtain ⟨k, hk, rfl, HI⟩ := hrel
                obtain ⟨o, hns, hM⟩ := HI.out
                have HNS := Lib.hid hns
                have HM := Lib.hid hM
                have hsz := hM.bel.size
                clear hns hM HI
                by_cases hlt : k < 4
                · have hltd : k < ds.length := by omega
                  obtain ⟨g, off, c1, hV, hg, q0⟩ := rd_gets (HVD4.out.below HM.out.bel) hltd
                  injection hV with hA _ hcc
                  subst hA
                  clear hcc
                  have hsl := HDS.out.2 ds[k] (List.getElem_mem hltd)
                  have HT := Lib.hid (toNums_take ds k hltd _ HNS.out)
                  have HNO := Lib.hid (toNums_none ds k hltd)
                  have h4 := toNum_four ds[k]
                  generalize ds[k] = s at *
                  have hN := rtoNum_any s (by omega) wr
                  by_cases h0 : (toNumB s).2 = 0
                  · rw [h0] at hN
                    have HT2 : Hid (toNums (ds.take (k + 1)) = some ((o.put k (toNumB s).1).list.take (k + 1))) := by unfold Hid; rw [HT.out, if_pos h0, own_put_take o k hlt]
                    clear HT HNO h0 h4
                    generalize (toNumB s).1 = m at *
                    go_wp2_with fail
                    refine hN.mono ?_
                    rintro e w2 ⟨rfl, hb2⟩
                    have HM2 := Lib.hid (HM.out.more (Nat.le_refl _) hb2)
                    have y1 := rblk_own HM2.out.box k hlt
                    have y2 := HM2.out.box.frozen (2 + k)
                    clear HM hb2 hN q0
                    go_wp2
                    exact ⟨⟨k + 1, by omega, by simp, ⟨_, HT2.out, HM2.out.owner (Nat.le_refl _) k hlt⟩⟩, by simp [intOf]; omega⟩
                  · have h4' := h4 h0
                    rw [h4'] at hN
                    have HF : Hid (cfgL a b c d = (cfg00, 4)) := by
                      unfold Hid
                      rw [HLc.out, HDOK.out (by trivial), HNO.out h0]
                      rw [if_neg (by rintro ⟨_, _, h⟩; simp at h)]
                    clear h4 h0
                    go_wp2_with fail
                    refine hN.mono ?_
                    rintro e w2 ⟨rfl, hb2⟩
                    have HM2 := Lib.hid (HM.out.more (Nat.le_refl _) hb2)
                    have hz := hz4.out.below HM2.out.bel hz4.out.lt
                    obtain ⟨z0, z1, z2, z3, z4, z5⟩ := blk_c6 hz
                    obtain ⟨f0, f1, f2, f3, f4, f5⟩ := fr6 hz
                    have HB6 := Lib.hid (HB4.out.trans (HM2.out.bel.mono HB4.out.size))
                    clear hz hb2
                    go_wp2
                    refine bodyPost_ret (v := .tuple #[cfg00.val (.slice none 0 0), .int .i64 4]) (by simp [results, Tryz.results9, go_sem, z0, z1, z2, z3, z4, z5, Cfg.val, cfg00]) rfl ⟨_, by rw [HF.out], by rw [HF.out]; exact World.ownsRow_nil _ _ _ _, six_below HB6.out (Nat.le_refl _) _ _ _ _ _ _⟩
                · obtain rfl : k = 4 := by omega
                  have HDN : Hid (ld = (o.list, 0)) := by
                    unfold Hid
                    have h1 := HNS.out
                    rw [List.take_of_length_le (by have := HD4.out; omega), List.take_of_length_le (by simp [Own.list])] at h1
                    rw [HDOK.out (by trivial), h1]
                  have hO : cfgL a b c d = if checkB ⟨n, ns, o⟩ = true then (⟨n, ns, o⟩, 0) else (cfg00, 4) := by
                    rw [HLc.out, HLN.out, HDN.out, if_pos (by simp)]; rfl
                  have HO := Lib.hid hO
                  obtain ⟨k0, k1, k2, k3, k4, k5⟩ := blk_c6 HM.out.box
                  have hC := rcheck_any ⟨n, ns, o⟩ (.slice Av ns.length cv) wr wr.heap.size (Nat.le_refl _) (Rd.of_own HM.out.own) (by simp only; have := HNL.out; omega)
                  clear hO
                  cases hck : checkB ⟨n, ns, o⟩ with
                  | false =>
                    have HF : Hid (cfgL a b c d = (cfg00, 4)) := by unfold Hid; rw [HO.out, hck]; rfl
                    rw [hck] at hC
                    clear hck HO
                    go_wp2_with fail
                    refine hC.mono ?_
                    rintro e W6 ⟨rfl, hb6⟩
                    have HM2 := Lib.hid (HM.out.more (Nat.le_refl _) hb6)
                    have hz := hz4.out.below HM2.out.bel hz4.out.lt
                    obtain ⟨z0, z1, z2, z3, z4, z5⟩ := blk_c6 hz
                    obtain ⟨f0, f1, f2, f3, f4, f5⟩ := fr6 hz
                    have HB6 := Lib.hid (HB4.out.trans (HM2.out.bel.mono HB4.out.size))
                    simp only [errC]
                    clear hz hb6 k0 k1 k2 k3 k4 k5
                    go_wp2
                    refine bodyPost_ret (v := .tuple #[cfg00.val (.slice none 0 0), .int .i64 4]) (by simp [results, Tryz.results9, go_sem, z0, z1, z2, z3, z4, z5, Cfg.val, cfg00]) rfl ⟨_, by rw [HF.out], by rw [HF.out]; exact World.ownsRow_nil _ _ _ _, six_below HB6.out (Nat.le_refl _) _ _ _ _ _ _⟩
                  | true =>
                    have HF : Hid (cfgL a b c d = (⟨n, ns, o⟩, 0)) := by unfold Hid; rw [HO.out, hck]; rfl
                    rw [hck] at hC
                    clear hck HO
                    go_wp2_with fail
                    refine hC.mono ?_
                    rintro e W6 ⟨rfl, hb6⟩
                    have HM2 := Lib.hid (HM.out.more (Nat.le_refl _) hb6)
                    have hz := hz4.out.below HM2.out.bel hz4.out.lt
                    have HZ := Lib.hid hz
                    obtain ⟨z0, z1, z2, z3, z4, z5⟩ := blk_c6 hz
                    obtain ⟨f0, f1, f2, f3, f4, f5⟩ := fr6 hz
                    have HB6 := Lib.hid (HB4.out.trans (HM2.out.bel.mono HB4.out.size))
                    clear k0 k1 k2 k3 k4 k5
                    obtain ⟨k0, k1, k2, k3, k4, k5⟩ := blk_c6 HM2.out.box
                    simp only [errC]
                    clear hz hb6
                    go_wp2
                    refine bodyPost_ret (v := .tuple #[Cfg.val ⟨n, ns, o⟩ (.slice Av ns.length cv), .int .i64 0]) (by simp [results, Tryz.results9, go_sem, z0, z1, z2, z3, z4, z5, Cfg.val]) rfl ⟨_, by rw [HF.out], ?_, six_below HB6.out (Nat.le_refl _) _ _ _ _ _ _⟩
                    rw [HF.out]
                    exact rsix_ownT HZ.out (own_weaken HM2.out.own HB4.out.size) _ _ _ _ _ _
        · have HF : Hid (cfgL a b c d = (cfg00, 4)) := by
            unfold Hid
            rw [HLc.out]
            split
            · rename_i h
              obtain ⟨e1, e2, e3⟩ := h
              by_cases hc : ec = 0
              · by_cases hd : ed = 0
                · refine cfgO_bad _ _ _ (fun h4 => hgd ⟨e1, hc, hd, ?_⟩)
                  have hD := HDOK.out hd
                  cases hn : toNums ds with
                  | none => rw [hn] at hD; rw [hD] at e3; simp at e3
                  | some l => rw [hn] at hD; rw [hD] at h4; rw [← toNums_cnt _ _ hn]; exact h4
                · rw [HDNO.out hd] at e3; simp at e3
              · rw [HLNO.out hc] at e2; simp at e2
            · rfl
          have hbad : ¬ en = 0 ∨ (en = 0 ∧ ¬ ec = 0) ∨ (en = 0 ∧ ec = 0 ∧ ¬ ed = 0) ∨ (en = 0 ∧ ec = 0 ∧ ed = 0 ∧ ¬ (ds.length : Int) = 4) := by omega
          clear hgd HLc
          rcases hbad with h1 | ⟨h1, h2⟩ | ⟨h1, h2, h3⟩ | ⟨h1, h2, h3, h4⟩
          all_goals
            go_wp2
            refine bodyPost_ret (v := .tuple #[cfg00.val (.slice none 0 0), .int .i64 4]) (by simp [results, Tryz.results9, go_sem, z0, z1, z2, z3, z4, z5, Cfg.val, cfg00]) rfl ⟨_, by rw [HF.out], by rw [HF.out]; exact World.ownsRow_nil _ _ _ _, six_below HB4.out (Nat.le_refl _) _ _ _ _ _ _⟩
      · have HF : Hid (cfgL a b c d = (cfg00, 4)) := by unfold Hid cfgL; rw [if_neg (fun h => ha h.1)]
        have ha3 : (a == [99, 111, 110, 102, 105, 103]) = false := by simpa [wCfg] using ha
        go_enter Tryz.func9, Tryz.ntmps9
        go_wp2_with fail
        refine hU.mono ?_
        rintro e W1 ⟨v, rfl, hv, hb1⟩
        obtain ⟨z0, z1, z2, z3, z4, z5⟩ := blk_c6 (blkZ hb1)
        obtain ⟨f0, f1, f2, f3, f4, f5⟩ := fr6 (blkZ hb1)
        have HB1 := Lib.hid (HAL.out.trans (hb1.mono HAL.out.size))
        obtain ⟨g, off, cap, rfl, hg, c0, c1, c2, c3⟩ := rd_fourT (Rd.of_own hv)
        clear hU hv hb1
        go_wp2
        refine bodyPost_ret (v := .tuple #[cfg00.val (.slice none 0 0), .int .i64 4]) (by simp [results, Tryz.results9, go_sem, z0, z1, z2, z3, z4, z5, Cfg.val, cfg00]) rfl ⟨_, by rw [HF.out], by rw [HF.out]; exact World.ownsRow_nil _ _ _ _, six_below HB1.out (Nat.le_refl _) _ _ _ _ _ _⟩
    · have HF := Lib.hid (cfgRd_not4 t h4)
      have h4' : ¬ ((unpackB t).1.length : Int) = 4 := by omega
      go_enter Tryz.func9, Tryz.ntmps9
      go_wp2_with fail
      refine hU.mono ?_
      rintro e W1 ⟨v, rfl, hv, hb1⟩
      obtain ⟨A, c, rfl⟩ := own_shape hv
      obtain ⟨z0, z1, z2, z3, z4, z5⟩ := blk_c6 (blkZ hb1)
      obtain ⟨f0, f1, f2, f3, f4, f5⟩ := fr6 (blkZ hb1)
      have HB1 := Lib.hid (HAL.out.trans (hb1.mono HAL.out.size))
      clear hU hv hb1
      go_wp2
      refine bodyPost_ret (v := .tuple #[cfg00.val (.slice none 0 0), .int .i64 4]) (by simp [results, Tryz.results9, go_sem, z0, z1, z2, z3, z4, z5, Cfg.val, cfg00]) rfl ⟨_, by rw [HF.out], by rw [HF.out]; exact World.ownsRow_nil _ _ _ _, six_below HB1.out (Nat.le_refl _) _ _ _ _ _ _⟩
  · have HF := Lib.hid (cfgRd_bad t he)
    have h2 := unpackB_four t he
    rw [h2] at hU
    go_enter Tryz.func9, Tryz.ntmps9
    go_wp2_with fail
    refine hU.mono ?_
    rintro e W1 ⟨v, rfl, hv, hb1⟩
    obtain ⟨A, c, rfl⟩ := own_shape hv
    obtain ⟨z0, z1, z2, z3, z4, z5⟩ := blk_c6 (blkZ hb1)
    obtain ⟨f0, f1, f2, f3, f4, f5⟩ := fr6 (blkZ hb1)
    have HB1 := Lib.hid (HAL.out.trans (hb1.mono HAL.out.size))
    clear hU hv hb1
    go_wp2
    refine bodyPost_ret (v := .tuple #[cfg00.val (.slice none 0 0), .int .i64 4]) (by simp [results, Tryz.results9, go_sem, z0, z1, z2, z3, z4, z5, Cfg.val, cfg00]) rfl ⟨_, by rw [HF.out], by rw [HF.out]; exact World.ownsRow_nil _ _ _ _, six_below HB1.out (Nat.le_refl _) _ _ _ _ _ _⟩

end Go.Proofs.YtioikihehjacgaaGreatDoor
