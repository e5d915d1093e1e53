/- CertAdds: the law's walk. -/
import Derived.Test.YtkmhimaeakbpoaaDoorPe41
set_option linter.unusedVariables false
set_option linter.unusedSimpArgs false
set_option linter.unnecessarySimpa false
namespace Go.Proofs.YtkmhimaeakbpoaaDoor
open Go.RowKit Go.Shelf

/-- Behind a drawn call of the reference's Add. -/
def RMid (W : World) (r : Crt × Int) (vp ve : Value) (wc : World) : Prop :=
  ∃ b A cc, vp = .pointer (some ⟨b, 0, none⟩) ∧ ve = .int .i64 r.2 ∧ Below W.heap.size W wc ∧ W.heap.size ≤ b ∧ Blk wc b 36 #[.string ⟨r.1.t.toArray⟩, .int .i64 r.1.g, .slice A r.1.tags.length cc] ∧ wc.ownsRow W.heap.size 75 2 (.slice A r.1.tags.length cc) r.1.tags.length (cellsT r.1.tags)
theorem rblkZ1 {w1 w2 : World} (h : Below (w1.alloc (.cells #[.string ⟨#[]⟩, .int .i64 0, .slice none 0 0] 36)).heap.size (w1.alloc (.cells #[.string ⟨#[]⟩, .int .i64 0, .slice none 0 0] 36)) w2) : Blk w2 w1.heap.size 36 #[.string ⟨#[]⟩, .int .i64 0, .slice none 0 0] := Blk.below (Blk.new w1 _ _) h (by simp)
theorem rblkZ2 {w1 w2 : World} (h : Below (w1.alloc (.cells #[.string ⟨#[]⟩, .int .i64 0, .slice none 0 0] 36)).drew.heap.size (w1.alloc (.cells #[.string ⟨#[]⟩, .int .i64 0, .slice none 0 0] 36)).drew w2) : Blk w2 w1.heap.size 36 #[.string ⟨#[]⟩, .int .i64 0, .slice none 0 0] := Blk.below ((Blk.new w1 _ _).drew) h (by simp)
theorem keep7 {W w' : World} {bx bs : Nat} {tx ts : TypeId} {a0 a1 a2 c0 c1 c2 c3 : Value} (hx : Blk W bx tx #[a0, a1, a2]) (hs : Blk W bs ts #[c0, c1, c2, c3]) (h : Below W.heap.size W w') :
    w'.cell? ⟨bx, 0, none⟩ = some a0 ∧ w'.cell? ⟨bx, 1, none⟩ = some a1 ∧ w'.cell? ⟨bx, 2, none⟩ = some a2 ∧ w'.cell? ⟨bs, 0, none⟩ = some c0 ∧ w'.cell? ⟨bs, 1, none⟩ = some c1 ∧ w'.cell? ⟨bs, 2, none⟩ = some c2 ∧ w'.cell? ⟨bs, 3, none⟩ = some c3 :=
  ⟨(hx.below h hx.lt).cell 0, (hx.below h hx.lt).cell 1, (hx.below h hx.lt).cell 2, (hs.below h hs.lt).cell 0, (hs.below h hs.lt).cell 1, (hs.below h hs.lt).cell 2, (hs.below h hs.lt).cell 3⟩

set_option maxHeartbeats 8000000 in
set_option maxRecDepth 100000 in
theorem cadds_law (c : Crt) (A : Option Addr) (cc : Nat) (g n : Int) (text tag : Bs) (w : World) (hl : LayN w) (hr : Rd w w.heap.size 2 (.slice A c.tags.length cc) c.tags.length (cellsT c.tags)) :
    Calls Tryd.prog 3 #[.agg #[.string ⟨c.t.toArray⟩, .int .i64 c.g, .slice A c.tags.length cc], .agg #[.int .i64 g, .int .i64 n, .string ⟨text.toArray⟩, .string ⟨tag.toArray⟩]] w fun e w' => e = .returned (.bool true) ∧ Below w.heap.size w w' := by
  have HO := Lib.hid (fun w1 (h : LayN w1) => one_any w1 h)
  have HR := Lib.hid hr
  have hs1 : (w.alloc (.cells #[.string ⟨c.t.toArray⟩, .int .i64 c.g, .slice A c.tags.length cc] 24)).heap.size = w.heap.size + 1 := by simp
  generalize hW0 : (w.alloc (.cells #[.string ⟨c.t.toArray⟩, .int .i64 c.g, .slice A c.tags.length cc] 24)).alloc (.cells #[.int .i64 g, .int .i64 n, .string ⟨text.toArray⟩, .string ⟨tag.toArray⟩] 28) = W0
  have hb0 : Below w.heap.size w W0 := by rw [← hW0]; exact ((Below.refl _ w).alloc (Nat.le_refl _) _).alloc (by simp) _
  have hX0 : Blk W0 w.heap.size 24 #[.string ⟨c.t.toArray⟩, .int .i64 c.g, .slice A c.tags.length cc] := by rw [← hW0]; exact (Blk.new w _ _).alloc _
  have hS0 : Blk W0 (w.heap.size + 1) 28 #[.int .i64 g, .int .i64 n, .string ⟨text.toArray⟩, .string ⟨tag.toArray⟩] := by rw [← hW0, ← hs1]; exact Blk.new _ _ _
  have HX := Lib.hid hX0
  have HS := Lib.hid hS0
  have HB0 := Lib.hid hb0
  have x0 : W0.cell? ⟨w.heap.size, 0, none⟩ = some (.string ⟨c.t.toArray⟩) := hX0.cell 0
  have x1 : W0.cell? ⟨w.heap.size, 1, none⟩ = some (.int .i64 c.g) := hX0.cell 1
  have x2 : W0.cell? ⟨w.heap.size, 2, none⟩ = some (.slice A c.tags.length cc) := hX0.cell 2
  have hLG := large_any c A cc W0
  clear hr hs1 hb0 hX0 hS0
  cases hlg : largeS c with
  | true =>
    rw [hlg] at hLG
    clear hlg
    go_enter Tryd.func3, Tryd.ntmps3
    go_upto_region 1 with fail
    clear hW0
    go_wp2_with fail
    refine hLG.mono ?_
    rintro e w1 ⟨rfl, hb1⟩
    have HB1 := Lib.hid (HB0.out.trans (hb1.mono HB0.out.size))
    clear hb1 x0 x1 x2
    go_wp2_with fail
    refine (HO.out _ (hl.later HB1.out)).mono ?_
    rintro e w2 ⟨rfl, hb2⟩
    go_wp2
    go_ret
    exact ⟨rfl, HB1.out.trans (hb2.mono HB1.out.size)⟩
  | false =>
    have hm : c.tags.length ≤ 40 := by
      unfold largeS at hlg
      simp only [Bool.or_eq_false_iff, decide_eq_false_iff_not] at hlg
      omega
    rw [hlg] at hLG
    clear hlg
    have HAD := Lib.hid (fun (w1 : World) (h : Below w.heap.size w w1) => add_any c (.slice A c.tags.length cc) g n text tag w1 (hl.later h) w.heap.size h.size (HR.out.below h) (by omega))
    have HRF := Lib.hid (fun (w1 : World) (h : Below w.heap.size w w1) => ref_any c (.slice A c.tags.length cc) w1 w.heap.size h.size (HR.out.below h) (by omega))
    have HRA := Lib.hid (fun (w1 : World) (v : Value) (h : Rd w1 w1.heap.size 2 v c.tags.length (cellsT c.tags)) => radd_any c v g n text tag w1 w1.heap.size (Nat.le_refl _) h (by omega))
    have hrl : (addS c g n text tag).1.tags.length ≤ 41 := by
      unfold addS
      split
      · simp [crt0]
      · split
        · simp [crt0]
        · split
          · simp [crt0]
          · split
            · simp [crt0]
            · split
              · simp [crt0]
              · simp [insT]; omega
    generalize addS c g n text tag = r at *
    obtain ⟨⟨rt, rg, rl⟩, re⟩ := r
    unfold CrtOut at HAD
    unfold RefOut at HRF
    unfold RCrtOut at HRA
    simp only at HAD HRA hrl
    go_enter Tryd.func3, Tryd.ntmps3
    go_upto_region 1 with fail
    clear hW0
    go_wp2_with fail
    refine hLG.mono ?_
    rintro e w1 ⟨rfl, hb1⟩
    have HB1 := Lib.hid (HB0.out.trans (hb1.mono HB0.out.size))
    have HX1 := Lib.hid (HX.out.below hb1 HX.out.lt)
    have HS1 := Lib.hid (HS.out.below hb1 HS.out.lt)
    obtain ⟨x0, x1, x2, s0, s1, s2, s3⟩ := keep7 HX1.out HS1.out (Below.refl _ _)
    clear hb1 HX HS HB0 hLG
    go_wp2_with fail
    refine (HAD.out w1 HB1.out).mono ?_
    rintro e w2 ⟨A2, k2, rfl, ho2, hb2⟩
    have HB2 := Lib.hid (HB1.out.trans (hb2.mono HB1.out.size))
    have HX2 := Lib.hid (HX1.out.below hb2 HX1.out.lt)
    have HS2 := Lib.hid (HS1.out.below hb2 HS1.out.lt)
    have HO2 := Lib.hid ho2
    clear hb2 ho2 x0 x1 x2 s0 s1 s2 s3 HX1 HS1 HAD
    go_upto_region 4 with fail
    generalize hW : w2.alloc (.cells #[.string ⟨rt.toArray⟩, .int .i64 rg, .slice A2 rl.length k2] 24) = W at *
    have hbW : Below w2.heap.size w2 W := by rw [← hW]; exact (Below.refl _ _).alloc (Nat.le_refl _) _
    have HD : Hid (Blk W w2.heap.size 24 #[.string ⟨rt.toArray⟩, .int .i64 rg, .slice A2 rl.length k2]) := by unfold Hid; rw [← hW]; exact Blk.new _ _ _
    have HBW := Lib.hid (HB2.out.trans (hbW.mono HB2.out.size))
    have HXW := Lib.hid (HX2.out.below hbW HX2.out.lt)
    have HSW := Lib.hid (HS2.out.below hbW HS2.out.lt)
    have HOW := Lib.hid (own_below HO2.out hbW)
    have hwsz := HBW.out.size
    clear hW hbW HX2 HS2 HO2 HB2 HB1
    go_cut [7, 8] (fun vp ve wc => RMid W (⟨rt, rg, rl⟩, re) vp ve wc)
    case first =>
      go_region_held3 (fun w' => w'.cell? ⟨w.heap.size, 0, none⟩ = some (.string ⟨c.t.toArray⟩) ∧ w'.cell? ⟨w.heap.size, 1, none⟩ = some (.int .i64 c.g) ∧ w'.cell? ⟨w.heap.size, 2, none⟩ = some (.slice A c.tags.length cc) ∧ w'.cell? ⟨w.heap.size + 1, 0, none⟩ = some (.int .i64 g) ∧ w'.cell? ⟨w.heap.size + 1, 1, none⟩ = some (.int .i64 n) ∧ w'.cell? ⟨w.heap.size + 1, 2, none⟩ = some (.string ⟨text.toArray⟩) ∧ w'.cell? ⟨w.heap.size + 1, 3, none⟩ = some (.string ⟨tag.toArray⟩))
        ((refine keep7 HXW.out HSW.out ?_; simp only [bl_drew, bl_alloc, bl_refl, bl_set3, *, Nat.le_refl]))
        ((first
          | (go_at_call 11; have hq := hbl4; refine Calls.mono (HRA.out _ _ (Rd.of_own (own_below HOR.out (by simp only [bl_drew, bl_alloc, bl_refl])))) ?_; rintro e w5 ⟨A5, cc5, rfl, ho5, hb5⟩; have hbl5 : Below W.heap.size W w5 := below_then (by simp only [bl_drew, bl_alloc, hbl4]) hb5; have hls5 := hbl5.size; have hown5 := own_weaken (base' := W.heap.size) ho5 (by first | (with_reducible assumption) | (simp only [World.size_alloc]; omega)); (try (with_reducible have hzB := rblkZ1 hb5)); (try (have hzB := hzC.below hb5 hzC.lt)); (try (obtain ⟨z0, z1, z2⟩ := keep3Y hzB (Below.refl _ _); have f0 := hzB.frozen 0; have f1 := hzB.frozen 1; have f2 := hzB.frozen 2)); (try (have HZB := Lib.hid hzB; clear hzB)); (try (have HZC := Lib.hid hzC; clear hzC)); have HOWN := Lib.hid hown5; clear ho5 hown5)
          | (go_at_call 12; refine Calls.mono (HRF.out _ (HBW.out.trans (Below.mono (by simp only [bl_drew, bl_alloc, bl_refl]) hwsz))) ?_; rintro e w4 ⟨A4, cc4, rfl, ho4, hb4⟩; have hbl4 : Below W.heap.size W w4 := below_then (by simp only [bl_drew, bl_alloc, bl_refl]) hb4; have hls4 := hbl4.size; have HOR := Lib.hid ho4; (try (with_reducible have hzC := rblkZ1 hb4)); (try (with_reducible have hzC := rblkZ2 hb4)); clear ho4)))
      all_goals
        go_wp2_with fail
        go_meet
        case rel => first | exact ⟨_, _, _, rfl, rfl, below_al hbl5 _, hls5, Blk.new w5 _ _, HOWN.out.alloc _⟩ | exact ⟨_, _, _, rfl, rfl, below_set3Y hbl5 _ _ _ (by omega), by omega, blk3Y HZB.out _ _ _, rown_set3Y HZB.out HOWN.out _ _ _⟩
    case rest =>
      obtain ⟨b5, A5, k5, rfl, rfl, hbl5, hle5, hk5, ho5⟩ := hcut
      simp only at hk5 ho5
      have hd := HD.out.below hbl5 HD.out.lt
      obtain ⟨d0, d1, d2⟩ := keep3Y hd (Below.refl _ _)
      obtain ⟨e0, e1, e2⟩ := keep3Y hk5 (Below.refl _ _)
      have hr1 : Rd wc wc.heap.size 2 (.slice A2 rl.length k2) rl.length (cellsT rl) := Rd.of_own (own_below HOW.out hbl5)
      have hr2 : Rd wc wc.heap.size 2 (.slice A5 rl.length k5) rl.length (cellsT rl) := Rd.of_own ho5
      have HSM := Lib.hid (same_true ⟨rt, rg, rl⟩ A2 A5 k2 k5 wc wc.heap.size (Nat.le_refl _) hr1 hr2 (by simp only; omega))
      have HBC := Lib.hid (HBW.out.trans (hbl5.mono HBW.out.size))
      clear hd hk5 ho5 hr1 hr2 hbl5 hle5 HD HOW HXW HSW HBW HRF HRA
      go_wp2_with fail
      refine HSM.out.mono ?_
      rintro e w6 ⟨rfl, hb6⟩
      have HB6 := Lib.hid (HBC.out.trans (hb6.mono HBC.out.size))
      clear hb6
      go_wp2_with fail
      refine (HO.out _ (hl.later HB6.out)).mono ?_
      rintro e w7 ⟨rfl, hb7⟩
      go_wp2
      go_ret
      exact ⟨rfl, HB6.out.trans (hb7.mono HB6.out.size)⟩

end Go.Proofs.YtkmhimaeakbpoaaDoor
