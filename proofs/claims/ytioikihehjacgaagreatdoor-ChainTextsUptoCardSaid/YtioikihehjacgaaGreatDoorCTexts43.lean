/- ChainTexts: the law's walk. -/
import Derived.Test.YtioikihehjacgaaGreatDoorCTexts42
set_option linter.unusedVariables false
set_option linter.unusedSimpArgs false
set_option linter.unnecessarySimpa false
namespace Go.Proofs.YtioikihehjacgaaGreatDoor
open Go.RowKit Go.Shelf

theorem cfgRd_err (t : Bs) (h : ¬ (cfgRd t).2 = 0) : cfgRd t = (cfg00, 4) := by
  unfold cfgRd at h ⊢
  split at h
  · split at h
    · rename_i h0
      rw [if_pos h0]
      unfold cfgL at h ⊢
      split at h
      · rename_i hc
        rw [if_pos hc]
        unfold cfgO at h ⊢
        split at h
        · split at h
          · exact absurd rfl h
          · rename_i hk; rw [if_neg hk]
        · rfl
      · rename_i hc; rw [if_neg hc]
    · rename_i h0; rw [if_neg h0]
  · rfl
theorem cfgT_cases (c : Cfg) : (checkB c = true ∧ cfgT c = (cfgB c, 0)) ∨ (checkB c = false ∧ cfgT c = ([], 4)) := by
  unfold cfgT
  cases hk : checkB c
  · exact .inr ⟨rfl, rfl⟩
  · exact .inl ⟨rfl, rfl⟩
theorem keep18 {W w' : World} {b x y : Nat} {n1 n2 n3 : Int} {s1 s2 s3 : Value} {o1 o2 o3 : Own} (h1 : Blk W b 25 (cfgCells n1 s1 o1)) (h2 : Blk W x 25 (cfgCells n2 s2 o2)) (h3 : Blk W y 32 (cfgCells n3 s3 o3)) (h : Below W.heap.size W w') :
    (w'.cell? ⟨b, 0, none⟩ = some (.int .i64 n1) ∧ w'.cell? ⟨b, 1, none⟩ = some s1 ∧ w'.cell? ⟨b, 2, none⟩ = some (.int .i64 o1.a) ∧ w'.cell? ⟨b, 3, none⟩ = some (.int .i64 o1.b) ∧ w'.cell? ⟨b, 4, none⟩ = some (.int .i64 o1.c) ∧ w'.cell? ⟨b, 5, none⟩ = some (.int .i64 o1.d)) ∧
    (w'.cell? ⟨x, 0, none⟩ = some (.int .i64 n2) ∧ w'.cell? ⟨x, 1, none⟩ = some s2 ∧ w'.cell? ⟨x, 2, none⟩ = some (.int .i64 o2.a) ∧ w'.cell? ⟨x, 3, none⟩ = some (.int .i64 o2.b) ∧ w'.cell? ⟨x, 4, none⟩ = some (.int .i64 o2.c) ∧ w'.cell? ⟨x, 5, none⟩ = some (.int .i64 o2.d)) ∧
    (w'.cell? ⟨y, 0, none⟩ = some (.int .i64 n3) ∧ w'.cell? ⟨y, 1, none⟩ = some s3 ∧ w'.cell? ⟨y, 2, none⟩ = some (.int .i64 o3.a) ∧ w'.cell? ⟨y, 3, none⟩ = some (.int .i64 o3.b) ∧ w'.cell? ⟨y, 4, none⟩ = some (.int .i64 o3.c) ∧ w'.cell? ⟨y, 5, none⟩ = some (.int .i64 o3.d)) :=
  ⟨blk_c6 (h1.below h h1.lt), blk_c6 (h2.below h h2.lt), blk_c6 (h3.below h h3.lt)⟩
theorem keep12T {W w' : World} {b x : Nat} {n1 n2 : Int} {s1 s2 : Value} {o1 o2 : Own} (h1 : Blk W b 25 (cfgCells n1 s1 o1)) (h2 : Blk W x 25 (cfgCells n2 s2 o2)) (h : Below W.heap.size W w') :
    (w'.cell? ⟨b, 0, none⟩ = some (.int .i64 n1) ∧ w'.cell? ⟨b, 1, none⟩ = some s1 ∧ w'.cell? ⟨b, 2, none⟩ = some (.int .i64 o1.a) ∧ w'.cell? ⟨b, 3, none⟩ = some (.int .i64 o1.b) ∧ w'.cell? ⟨b, 4, none⟩ = some (.int .i64 o1.c) ∧ w'.cell? ⟨b, 5, none⟩ = some (.int .i64 o1.d)) ∧
    (w'.cell? ⟨x, 0, none⟩ = some (.int .i64 n2) ∧ w'.cell? ⟨x, 1, none⟩ = some s2 ∧ w'.cell? ⟨x, 2, none⟩ = some (.int .i64 o2.a) ∧ w'.cell? ⟨x, 3, none⟩ = some (.int .i64 o2.b) ∧ w'.cell? ⟨x, 4, none⟩ = some (.int .i64 o2.c) ∧ w'.cell? ⟨x, 5, none⟩ = some (.int .i64 o2.d)) :=
  ⟨blk_c6 (h1.below h h1.lt), blk_c6 (h2.below h h2.lt)⟩
/-- Behind the first test: the loads. -/
def LMid (W : World) (ls : List Int) (lv : Value) (wc : World) : Prop := ∃ Al cl, lv = .slice Al ls.length cl ∧ wc.ownsRow W.heap.size 3 1 (.slice Al ls.length cl) ls.length (ints ls) ∧ Below W.heap.size W wc

set_option maxHeartbeats 3000000 in
set_option maxRecDepth 100000 in
theorem ctexts_law (c : Cfg) (A : Option Addr) (cc : Nat) (s : Bs) (w : World) (hl : Lay w) (hr : Rd w w.heap.size 1 (.slice A c.gs.length cc) c.gs.length (ints c.gs)) (hm : c.gs.length ≤ 9223372036854775807) (hs : s.length ≤ 1048576) :
    Calls Tryz.prog 3 #[.agg #[.int .i64 c.num, .slice A c.gs.length cc, .int .i64 c.o.a, .int .i64 c.o.b, .int .i64 c.o.c, .int .i64 c.o.d], .string ⟨s.toArray⟩] w fun e w' => e = .returned (.bool true) ∧ Below w.heap.size w w' := by
  have hW0 := (Below.refl w.heap.size w).alloc (Nat.le_refl _) (.cells #[.int .i64 c.num, .slice A c.gs.length cc, .int .i64 c.o.a, .int .i64 c.o.b, .int .i64 c.o.c, .int .i64 c.o.d] 25)
  have hK0 : Blk (w.alloc (.cells #[.int .i64 c.num, .slice A c.gs.length cc, .int .i64 c.o.a, .int .i64 c.o.b, .int .i64 c.o.c, .int .i64 c.o.d] 25)) w.heap.size 25 (cfgCells c.num (.slice A c.gs.length cc) c.o) := Blk.new w _ _
  have HW0 := Lib.hid hW0
  have HK0 := Lib.hid hK0
  have HR := Lib.hid hr
  clear hW0 hK0 hr
  by_cases hbig : 100 < c.gs.length
  · go_enter Tryz.func3, Tryz.ntmps3
    go_wp2_with fail
    refine (three_any _).mono ?_
    rintro e w1 ⟨rfl, hb⟩
    go_wp2
    go_ret
    exact ⟨rfl, HW0.out.trans (hb.mono HW0.out.size)⟩
  · by_cases hbs : 10000 < s.length
    · go_enter Tryz.func3, Tryz.ntmps3
      go_wp2_with fail
      refine (three_any _).mono ?_
      rintro e w1 ⟨rfl, hb⟩
      go_wp2
      go_ret
      exact ⟨rfl, HW0.out.trans (hb.mono HW0.out.size)⟩
    · have hg100 : c.gs.length ≤ 100 := by omega
      have hCT := ctext_any c A cc _ (hl.later HW0.out) ((HR.out.below HW0.out).more HW0.out.size) (by omega)
      have HRT := Lib.hid (fun (w1 : World) (h : Rd w1 w1.heap.size 1 (.slice A c.gs.length cc) c.gs.length (ints c.gs)) => rtext_any c A cc w1 h (by omega))
      have HCR := Lib.hid (fun (w1 : World) (h : Lay w1) => cread_any s (by omega) w1 h)
      have HRR := Lib.hid (fun (w1 : World) => rread_any s (by omega) w1)
      have hck := cfgT_cases c
      have hag := cfg_again s
      have her := cfgRd_err s
      generalize hct : cfgT c = ct at *
      generalize hrd : cfgRd s = rd at *
      obtain ⟨ct, ce⟩ := ct
      obtain ⟨⟨xn, xg, xo⟩, xe⟩ := rd
      unfold CfgPost at HCR HRR
      simp only at HCR HRR hCT HRT hck hag her
      have hb2 : decide ((100 : Int) < (c.gs.length : Int)) = false := by rw [decide_eq_false_iff_not]; omega
      have hb3 : decide ((10000 : Int) < (s.length : Int)) = false := by rw [decide_eq_false_iff_not]; omega
      have HCK := Lib.hid hck
      have HAG := Lib.hid hag
      clear hbig hbs
      have hxg : xg.length ≤ 4 := by
        by_cases h0 : xe = 0
        · exact (check_bounds (hag h0).1).2.2.1
        · have := her h0
          simp only [cfg00, Prod.mk.injEq, Cfg.mk.injEq] at this
          rw [this.1.2.1]; simp
      clear hck hag her hct hrd
      go_enter Tryz.func3, Tryz.ntmps3
      go_wp2_with fail
      refine hCT.mono ?_
      rintro e w1 ⟨rfl, hb1⟩
      have HB1 := Lib.hid (HW0.out.trans (hb1.mono HW0.out.size))
      have hk1 := HK0.out.below hb1 HK0.out.lt
      obtain ⟨q0, q1, q2, q3, q4, q5⟩ := blk_c6 hk1
      have HK1 := Lib.hid hk1
      clear hb1 hk1 hCT HK0 HW0
      go_wp2_with fail
      refine (ref_any c A _ cc _).mono ?_
      rintro e w2 ⟨rfl, hb2⟩
      unfold Cfg.val
      have HB2 := Lib.hid (HB1.out.trans (hb2.mono HB1.out.size))
      have HK2 := Lib.hid (HK1.out.below hb2 HK1.out.lt)
      clear hb2 HK1 HB1 q0 q1 q2 q3 q4 q5
      go_wp2_with fail
      refine (HRT.out _ ((HR.out.below HB2.out).more HB2.out.size)).mono ?_
      rintro e w3 ⟨rfl, hb3⟩
      have HB3 := Lib.hid (HB2.out.trans (hb3.mono HB2.out.size))
      have HK3 := Lib.hid (HK2.out.below hb3 HK2.out.lt)
      have hl3 := hl.later HB3.out
      clear hb3 HK2 HB2 HRT
      go_wp2_with fail
      refine (HCR.out _ hl3).mono ?_
      rintro e w4 ⟨sx, rfl, hox, hb4⟩
      obtain ⟨Ax, cx, rfl⟩ := own_shape hox
      have HB4 := Lib.hid (HB3.out.trans (hb4.mono HB3.out.size))
      have hK4 := HK3.out.below hb4 HK3.out.lt
      have hA4 := (Below.refl w4.heap.size w4).alloc (Nat.le_refl _) (.cells #[.int .i64 xn, .slice Ax xg.length cx, .int .i64 xo.a, .int .i64 xo.b, .int .i64 xo.c, .int .i64 xo.d] 25)
      have HX5 : Hid (Blk (w4.alloc (.cells #[.int .i64 xn, .slice Ax xg.length cx, .int .i64 xo.a, .int .i64 xo.b, .int .i64 xo.c, .int .i64 xo.d] 25)) w4.heap.size 25 (cfgCells xn (.slice Ax xg.length cx) xo)) := Blk.new w4 _ _
      have HK5 := Lib.hid (hK4.below hA4 hK4.lt)
      have HB5 := Lib.hid (HB4.out.trans (hA4.mono HB4.out.size))
      have HO5 := Lib.hid (own_below hox hA4)
      have hl5 := hl.later HB5.out
      clear hb4 hK4 HK3 HB3 hl3 hox hA4
      unfold Cfg.val
      go_wp2_with fail
      refine (HRR.out _).mono ?_
      rintro e w6 ⟨sy, rfl, hoy, hb6⟩
      obtain ⟨Ay, cy, rfl⟩ := own_shape hoy
      have HB6 := Lib.hid (HB5.out.trans (hb6.mono HB5.out.size))
      have hK6 := HK5.out.below hb6 HK5.out.lt
      have hX6 := HX5.out.below hb6 HX5.out.lt
      have hO6 := own_below HO5.out hb6
      have hA6 := (Below.refl w6.heap.size w6).alloc (Nat.le_refl _) (.cells #[.int .i64 xn, .slice Ay xg.length cy, .int .i64 xo.a, .int .i64 xo.b, .int .i64 xo.c, .int .i64 xo.d] 32)
      have HY : Hid (Blk (w6.alloc (.cells #[.int .i64 xn, .slice Ay xg.length cy, .int .i64 xo.a, .int .i64 xo.b, .int .i64 xo.c, .int .i64 xo.d] 32)) w6.heap.size 32 (cfgCells xn (.slice Ay xg.length cy) xo)) := Blk.new w6 _ _
      have HK := Lib.hid (hK6.below hA6 hK6.lt)
      have HX := Lib.hid (hX6.below hA6 hX6.lt)
      have HB := Lib.hid (HB6.out.trans (hA6.mono HB6.out.size))
      have HRX := Lib.hid (Rd.of_own (own_below hO6 hA6))
      have HRY := Lib.hid (Rd.of_own (own_below hoy hA6))
      clear hb6 hK6 hX6 hO6 hA6 hoy HK5 HX5 HB5 HO5 HB4 HB6 hl5 HCR HRR
      generalize w4.heap.size = bx at *
      unfold Cfg.val
      go_upto_region 7 with fail
      generalize w6.heap.size = by_ at *
      generalize w6.alloc (.cells #[.int .i64 xn, .slice Ay xg.length cy, .int .i64 xo.a, .int .i64 xo.b, .int .i64 xo.c, .int .i64 xo.d] 32) = W at *
      have hlW := Lib.hid (fun (w' : World) (h : Below W.heap.size W w') => (hl.later HB.out).later h)
      have HRC : Hid (∀ w', Below W.heap.size W w' → Rd w' W.heap.size 1 (.slice A c.gs.length cc) c.gs.length (ints c.gs)) := fun w' h => ((HR.out.below HB.out).more HB.out.size).below h
      have hsz := HB.out.size
      go_region_held3 (fun w' => (w'.cell? ⟨w.heap.size, 0, none⟩ = some (.int .i64 c.num) ∧ w'.cell? ⟨w.heap.size, 1, none⟩ = some (.slice A c.gs.length cc) ∧ w'.cell? ⟨w.heap.size, 2, none⟩ = some (.int .i64 c.o.a) ∧ w'.cell? ⟨w.heap.size, 3, none⟩ = some (.int .i64 c.o.b) ∧ w'.cell? ⟨w.heap.size, 4, none⟩ = some (.int .i64 c.o.c) ∧ w'.cell? ⟨w.heap.size, 5, none⟩ = some (.int .i64 c.o.d)) ∧
          (w'.cell? ⟨bx, 0, none⟩ = some (.int .i64 xn) ∧ w'.cell? ⟨bx, 1, none⟩ = some (.slice Ax xg.length cx) ∧ w'.cell? ⟨bx, 2, none⟩ = some (.int .i64 xo.a) ∧ w'.cell? ⟨bx, 3, none⟩ = some (.int .i64 xo.b) ∧ w'.cell? ⟨bx, 4, none⟩ = some (.int .i64 xo.c) ∧ w'.cell? ⟨bx, 5, none⟩ = some (.int .i64 xo.d)) ∧
          (w'.cell? ⟨by_, 0, none⟩ = some (.int .i64 xn) ∧ w'.cell? ⟨by_, 1, none⟩ = some (.slice Ay xg.length cy) ∧ w'.cell? ⟨by_, 2, none⟩ = some (.int .i64 xo.a) ∧ w'.cell? ⟨by_, 3, none⟩ = some (.int .i64 xo.b) ∧ w'.cell? ⟨by_, 4, none⟩ = some (.int .i64 xo.c) ∧ w'.cell? ⟨by_, 5, none⟩ = some (.int .i64 xo.d)))
        ((refine keep18 HK.out HX.out HY.out ?_; simp only [bl_drew, bl_alloc, bl_refl, *]))
        ((first
          | (go_at_call 12; have hq := hbl9; refine Calls.mono (rcheck_any c (.slice A c.gs.length cc) _ W.heap.size hbl9.size (HRC.out _ hbl9) (by omega)) ?_; rintro e w10 ⟨rfl, hb10⟩; have hbl10 : Below W.heap.size W w10 := below_then hbl9 hb10)
          | (go_at_call 7; have hq := hbl8; refine Calls.mono (ref_any c A c.gs.length cc _) ?_; rintro e w9 ⟨rfl, hb9⟩; have hbl9 : Below W.heap.size W w9 := below_then hbl8 hb9; unfold Cfg.val)
          | (go_at_call 11; have hq := hbl7; refine Calls.mono (check_any c (.slice A c.gs.length cc) _ W.heap.size hbl7.size (HRC.out _ hbl7) (by omega)) ?_; rintro e w8 ⟨rfl, hb8⟩; have hbl8 : Below W.heap.size W w8 := below_then hbl7 hb8)
          | (go_at_call 10; have hq : Below W.heap.size W W.drew := (by simp only [bl_drew, bl_refl]); refine Calls.mono (same_true ⟨xn, xg, xo⟩ Ax cx Ay cy _ W.heap.size hq.size (HRX.out.below hq) (HRY.out.below hq) (by simp only; omega)) ?_; rintro e w7 ⟨rfl, hb7⟩; have hbl7 : Below W.heap.size W w7 := below_then hq hb7)))
      have HKv := Lib.hid (HK.out.below hbl10 HK.out.lt)
      have HXv := Lib.hid (HX.out.below hbl10 HX.out.lt)
      have HBv := Lib.hid (HB.out.trans (hbl10.mono hsz))
      have HRXv := Lib.hid ((HRX.out.below hbl10).more hbl10.size)
      have HRCv := Lib.hid (((HR.out.below HBv.out).more HBv.out.size))
      have hszv := HBv.out.size
      have HLV := Lib.hid (hl.later HBv.out)
      obtain ⟨i0, hi0, hz0, hz1, hz2⟩ := info_parts int_info
      clear hb7 hb8 hb9 hb10 hbl7 hbl8 hbl9 hbl10 hlW HRC HRX HRY HX HY HK HB hsz
      go_upto_if 79 with (fail)
      go_cut [13] (fun lv wc => LMid w10 (loadsS c) lv wc)
      case first =>
        rcases HCK.out with ⟨hc, hct⟩ | ⟨hc, hct⟩
        · simp only [Prod.mk.injEq] at hct
          obtain ⟨rfl, rfl⟩ := hct
          have HLS : Hid (loadsS c = c.gs.map (cnt c.own)) := by unfold Hid loadsS; rw [if_pos hc]
          have HBK := Lib.hid (cfg_back c hc)
          have hcbl := cfgB_len hc
          have hlsl : Hid ((loadsS c).length = c.gs.length) := by unfold Hid; rw [HLS.out, List.length_map]
          clear hc HAG HCK
          obtain ⟨q0, q1, q2, q3, q4, q5⟩ := blk_c6 HKv.out
          go_wp2_with fail
          go_loopw [13, 83] (fun lo i wr => ∃ (k : Nat) (A' : Option Addr) (c' : Nat), k ≤ c.gs.length ∧ i = .int .i64 k ∧ lo = .slice A' k c' ∧ Hid (wr.ownsRow w10.heap.size 3 1 (.slice A' k c') k (ints ((c.gs.take k).map (cnt c.own)))) ∧ Hid (Below w10.heap.size w10 wr)) (fun _ i _ => c.gs.length - (intOf i).toNat)
          case atStart => exact ⟨0, none, 0, Nat.zero_le _, rfl, rfl, World.ownsRow_nil _ _ _ _, Below.refl _ _⟩
          case round =>
            obtain ⟨k, A', c', hk, rfl, rfl, HO, HBr⟩ := hrel
            have hszr := HBr.out.size
            have hKr := HKv.out.below HBr.out HKv.out.lt
            clear q0 q1 q2 q3 q4 q5
            obtain ⟨q0, q1, q2, q3, q4, q5⟩ := blk_c6 hKr
            have HKr := Lib.hid hKr
            clear hKr
            by_cases hlt : k < c.gs.length
            · obtain ⟨g, off, c1, hV, hg, hc0⟩ := rd_get1 (HRCv.out.below HBr.out) hlt
              injection hV with hA _ hcc
              subst hA hcc
              have hsn : Hid (ints ((c.gs.take (k + 1)).map (cnt c.own)) = ints ((c.gs.take k).map (cnt c.own)) ++ [.int .i64 (cnt c.own c.gs[k])]) := by
                unfold Hid
                rw [List.take_succ_eq_append_getElem hlt, List.map_append, ints_append]
                rfl
              generalize c.gs[k] = gk at *
              go_wp2_with fail
              refine (ref_any c _ _ _ _).mono ?_
              rintro e w1 ⟨rfl, hb1⟩
              unfold Cfg.val
              have HB1 := Lib.hid (HBr.out.trans (hb1.mono hszr))
              have HO1 := Lib.hid (own_below HO.out hb1)
              clear q0 q1 q2 q3 q4 q5 hb1 HO HKr
              go_wp2_with fail
              refine (load_any c _ gk _).mono ?_
              rintro e w2 ⟨rfl, hb2⟩
              have HB2 := Lib.hid (HB1.out.trans (hb2.mono HB1.out.size))
              have HO2 := Lib.hid (own_below HO1.out hb2)
              have hsz2 := HB2.out.size
              generalize cnt c.own gk = ck at *
              clear hb2 HO1 HB1
              go_wp2_with (at_builtin; refine wpList_append_own _ rfl _ _ 22 rfl w10.heap.size 3 i0 _ 1 8 Tryz.underlying22 hi0 hz0 hz1 hz2 rfl (by omega) _ _ _ rfl (HO2.out.alloc _) ⟨w2.heap.size, 0, none⟩ 1 1 [.int .i64 ck] rfl rfl (news_box (cs := #[.int .i64 ck]) rfl) (by simp [Value.oneCell']) (by show _ ≤ 9223372036854775807; omega) (by omega) (by simp; omega) ?_; intro v' w6 hown' hgrow _; obtain ⟨g', cap', rfl⟩ := ownsRow_succ hown')
              refine ⟨⟨_, _, _, _, _, _, _, _, _, _, _, _, _, _, ⟨k + 1, some ⟨g', 0, none⟩, cap', by omega, rfl, rfl, ?_, ?_⟩, rfl⟩, by simp [intOf]; omega⟩
              · unfold Hid
                rw [hsn.out]
                exact hown'
              · exact HB2.out.trans ((((Below.refl w10.heap.size w2).alloc hsz2 _)).grown hgrow (by simp; omega) (fun g e => (HO2.out.lt g e).1))
            · obtain rfl : k = c.gs.length := by omega
              rw [List.take_length] at HO
              have HOL : Hid (wr.ownsRow w10.heap.size 3 1 (.slice A' (loadsS c).length c') (loadsS c).length (ints (loadsS c))) := by unfold Hid; rw [hlsl.out, HLS.out]; exact HO.out
              have hCR := cread_any (cfgB c) (by omega) wr (HLV.out.later HBr.out)
              unfold CfgPost at hCR
              rw [HBK.out] at hCR
              clear HO hlt hk
              go_wp2_with fail
              refine hCR.mono ?_
              rintro e w1 ⟨s1, rfl, ho1, hb1⟩
              obtain ⟨A1, c1, rfl⟩ := own_shape ho1
              have hb1a := below_al hb1 (.cells #[.int .i64 c.num, .slice A1 c.gs.length c1, .int .i64 c.o.a, .int .i64 c.o.b, .int .i64 c.o.c, .int .i64 c.o.d] 25)
              have HK2 := Lib.hid (HKr.out.below hb1a HKr.out.lt)
              have HN2 : Hid (Blk (w1.alloc (.cells #[.int .i64 c.num, .slice A1 c.gs.length c1, .int .i64 c.o.a, .int .i64 c.o.b, .int .i64 c.o.c, .int .i64 c.o.d] 25)) w1.heap.size 25 (cfgCells c.num (.slice A1 c.gs.length c1) c.o)) := Blk.new w1 _ _
              have HR2 := Lib.hid (Rd.of_own (ho1.alloc (.cells #[.int .i64 c.num, .slice A1 c.gs.length c1, .int .i64 c.o.a, .int .i64 c.o.b, .int .i64 c.o.c, .int .i64 c.o.d] 25)))
              have HOL2 := Lib.hid (own_below HOL.out hb1a)
              have HB2 := Lib.hid (HBr.out.trans (hb1a.mono hszr))
              clear q0 q1 q2 q3 q4 q5 hb1 hb1a ho1 hCR HOL HKr
              unfold Cfg.val
              go_wp2_with fail
              generalize w1.heap.size = bn at *
              generalize w1.alloc (.cells #[.int .i64 c.num, .slice A1 c.gs.length c1, .int .i64 c.o.a, .int .i64 c.o.b, .int .i64 c.o.c, .int .i64 c.o.d] 25) = X at *
              have HRCx : Hid (∀ w', Below X.heap.size X w' → Rd w' X.heap.size 1 (.slice A c.gs.length cc) c.gs.length (ints c.gs)) := fun w' h => (((HRCv.out.below HB2.out).more HB2.out.size)).below h
              go_region_held3 (fun w' => (w'.cell? ⟨w.heap.size, 0, none⟩ = some (.int .i64 c.num) ∧ w'.cell? ⟨w.heap.size, 1, none⟩ = some (.slice A c.gs.length cc) ∧ w'.cell? ⟨w.heap.size, 2, none⟩ = some (.int .i64 c.o.a) ∧ w'.cell? ⟨w.heap.size, 3, none⟩ = some (.int .i64 c.o.b) ∧ w'.cell? ⟨w.heap.size, 4, none⟩ = some (.int .i64 c.o.c) ∧ w'.cell? ⟨w.heap.size, 5, none⟩ = some (.int .i64 c.o.d)) ∧
                  (w'.cell? ⟨bn, 0, none⟩ = some (.int .i64 c.num) ∧ w'.cell? ⟨bn, 1, none⟩ = some (.slice A1 c.gs.length c1) ∧ w'.cell? ⟨bn, 2, none⟩ = some (.int .i64 c.o.a) ∧ w'.cell? ⟨bn, 3, none⟩ = some (.int .i64 c.o.b) ∧ w'.cell? ⟨bn, 4, none⟩ = some (.int .i64 c.o.c) ∧ w'.cell? ⟨bn, 5, none⟩ = some (.int .i64 c.o.d)))
                ((refine keep12T HK2.out HN2.out ?_; simp only [bl_drew, bl_alloc, bl_refl, *]))
                ((first
                  | (go_at_call 10; have hq := hblx; refine Calls.mono (same_true c A1 c1 A cc _ X.heap.size hblx.size (HR2.out.below hblx) (HRCx.out _ hblx) (by omega)) ?_; rintro e w4 ⟨rfl, hb4⟩; have hbl4 : Below X.heap.size X w4 := below_then hblx hb4)
                  | (go_at_call 7; have hq : Below X.heap.size X X.drew := (by simp only [bl_drew, bl_refl]); refine Calls.mono (ref_any c A c.gs.length cc _) ?_; rintro e w3 ⟨rfl, hb3⟩; have hblx : Below X.heap.size X w3 := below_then hq hb3; unfold Cfg.val)))
              go_wp2_with fail
              go_meet
              case rel => exact ⟨A', c', by rw [hlsl.out], own_below HOL2.out hbl4, HB2.out.trans (hbl4.mono HB2.out.size)⟩
        · simp only [Prod.mk.injEq] at hct
          obtain ⟨rfl, rfl⟩ := hct
          have HLS : Hid (loadsS c = []) := by unfold Hid loadsS; rw [if_neg (by rw [hc]; simp)]
          clear hc HAG HCK
          go_wp2_with fail
          go_meet
          case rel => exact ⟨none, 0, by rw [HLS.out]; rfl, by rw [HLS.out]; exact World.ownsRow_nil _ _ _ _, Below.refl _ _⟩
      case rest =>
        obtain ⟨wo, rfl⟩ : ∃ wo : World, wo = wc := ⟨_, rfl⟩
        obtain ⟨Al, cl, rfl, hol, hblc⟩ := hcut
        have HOL := Lib.hid hol
        have HBC := Lib.hid hblc
        have hXc := HXv.out.below hblc HXv.out.lt
        obtain ⟨x0, x1, x2, x3, x4, x5⟩ := blk_c6 hXc
        have hKc := HKv.out.below hblc HKv.out.lt
        have HKC := Lib.hid hKc
        have HLC := Lib.hid (HLV.out.later hblc)
        have HRXC := Lib.hid ((HRXv.out.below hblc).more hblc.size)
        have HRCC := Lib.hid ((HRCv.out.below hblc).more hblc.size)
        clear hol hblc hXc hKc HCK
        go_upto_if 110 with (fail)
        go_cut [] (fun wx => Below wo.heap.size wo wx)
        case first =>
          by_cases h0 : xe = 0
          · subst h0
            obtain ⟨hck, hcs⟩ := HAG.out rfl
            have hCX := ctext_any ⟨xn, xg, xo⟩ Ax cx wo HLC.out HRXC.out (by simp only; omega)
            have hTX : cfgT ⟨xn, xg, xo⟩ = (s, 0) := by unfold cfgT; rw [if_pos hck, hcs]
            rw [hTX] at hCX
            clear hTX hcs hck HAG
            go_wp2_with fail
            refine hCX.mono ?_
            rintro e wx ⟨rfl, hbx⟩
            clear x0 x1 x2 x3 x4 x5 hCX
            go_wp2_with fail
            go_meet
            case rel => exact hbx
          · clear HAG
            go_wp2_with fail
            go_meet
            case rel => exact Below.refl _ _
        case rest =>
          have HBX := Lib.hid hcut
          have HOL2 := Lib.hid (own_below HOL.out hcut)
          have hKx := HKC.out.below hcut HKC.out.lt
          obtain ⟨q0, q1, q2, q3, q4, q5⟩ := blk_c6 hKx
          have hLd := loads_any c A cc wc wo.heap.size hcut.size (HRCC.out.below hcut) (by omega)
          clear hKx hcut x0 x1 x2 x3 x4 x5 HAG
          go_wp2_with fail
          refine hLd.mono ?_
          rintro e w7 ⟨s7, rfl, ho7, hb7⟩
          obtain ⟨A7, c7, rfl⟩ := own_shape ho7
          have HO7 := Lib.hid (Rd.of_own ho7)
          have HOL7 := Lib.hid ((Rd.of_own (own_below HOL2.out hb7)))
          have HB7 := Lib.hid (HBX.out.trans (hb7.mono HBX.out.size))
          have hll : (loadsS c).length ≤ 100 := by unfold loadsS; split <;> simp; omega
          clear ho7 hb7 hLd q0 q1 q2 q3 q4 q5
          go_wp2_with fail
          refine (ints_any _ _ (loadsS c) (loadsS c) _ w7.heap.size HO7.out HOL7.out (by omega) (by omega)).mono ?_
          rw [intsEq_refl]
          rintro e w8 ⟨rfl, hb8⟩
          have HB8 := Lib.hid (HB7.out.trans (hb8.mono HB7.out.size))
          clear hb8
          go_wp2_with fail
          refine (three_any _).mono ?_
          rintro e w9 ⟨rfl, hb9⟩
          have HB9 := Lib.hid (HB8.out.trans (hb9.mono HB8.out.size))
          go_wp2_with fail
          go_ret
          exact ⟨rfl, HBv.out.trans ((HBC.out.trans (HB9.out.mono HBC.out.size)).mono hszv)⟩

end Go.Proofs.YtioikihehjacgaaGreatDoor
