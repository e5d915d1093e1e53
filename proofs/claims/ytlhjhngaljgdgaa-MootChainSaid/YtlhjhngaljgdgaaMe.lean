/- MootOnce, walked. -/
import Derived.Test.YtlhjhngaljgdgaaMd
namespace Go.Proofs.Ytlhjhngaljgdgaa
open Go.RowKit Go.Shelf
set_option linter.unusedVariables false
set_option linter.unusedSimpArgs false

theorem srow_apart {w : World} {base n : Nat} {v : Value} {xs : List Value} (h : w.ownsRow base 29 5 v n xs) : ∀ i, i < w.heap.size → v.ownBlock = some i → ∃ t cs, Blk w i t cs ∧ t ≠ 54 ∧ t ≠ 27 ∧ t ≠ 63 ∧ t ≠ 38 ∧ t ≠ 3 := by
  intro i hi hF
  rcases h.2 with ⟨rfl, _⟩ | ⟨g, cap, cur, rfl, _, hb, _⟩
  · simp [Value.ownBlock] at hF
  · simp only [Value.ownBlock, Option.some.injEq] at hF
    subst hF
    exact ⟨_, _, hb, by decide, by decide, by decide, by decide, by decide⟩

/-- At the head of the loop over the steps: the moot, what was done. -/
structure OnceAt (w : World) (mm : Nat) (k : Nat) (v : Value) (wr : World) (s : Mt) (D : List Stp) : Prop where
  hp : Moot w.heap.size wr mm s.cs s.tk s.cl
  ho : wr.ownsRow w.heap.size 29 5 v D.length (cellsS D)
  hb : Below w.heap.size w wr
  hk : Known s D
  hl : s.cs.length ≤ 41 ∧ 0 < s.cs.length ∧ s.tk.length ≤ k ∧ D.length ≤ k

set_option maxHeartbeats 8000000 in
set_option maxRecDepth 100000 in
theorem mootOnce_any (l : List Stp) (v : Value) (w : World) (hr : Rd w w.heap.size 5 v l.length (cellsS l)) (hm : l.length ≤ 9223372036854775807) :
    Calls Try.prog 3 #[v] w fun e w' => e = .returned (.bool true) ∧ Below w.heap.size w w' := by
  have HR := Lib.hid hr
  obtain ⟨_, A, cc, rfl, hncc, _⟩ := hr
  by_cases hbig : 80 < l.length
  · have hb2 : (80 : Int) < (l.length : Int) := by omega
    go_enter Try.func3, Try.ntmps3
    go_wp2_with fail
    refine (mnew_any w).mono ?_
    rintro e w1 ⟨mm, rfl, hp1, hb1⟩
    have HB1 := Lib.hid hb1
    clear hp1 hb1
    go_wp2_with fail
    refine (one_any w1).mono ?_
    rintro e w2 ⟨rfl, hb⟩
    have HB := Lib.hid (HB1.out.trans (hb.mono HB1.out.size))
    clear hb
    go_wp2_with fail
    go_ret
    exact ⟨rfl, HB.out⟩
  · have hb2 : decide ((80 : Int) < (l.length : Int)) = false := by rw [decide_eq_false_iff_not]; omega
    have hm2 : l.length ≤ 80 := by omega
    clear hbig
    obtain ⟨i0, hi0, hz0, hz1, hz2⟩ := info_parts stp_info
    go_enter Try.func3, Try.ntmps3
    go_wp2_with fail
    refine (mnew_any w).mono ?_
    rintro e w1 ⟨mm, rfl, hp1, hb1⟩
    have hstart : Hid (∃ s D, OnceAt w mm 0 (.slice none 0 0) w1 s D) := ⟨mt0, [], hp1, World.ownsRow_nil _ _ _ _, hb1, (fun d hd => by simp at hd), by simp [mt0]⟩
    clear hp1 hb1
    go_wp2_with fail
    go_loopw [4, 30] (fun u i wr => ∃ k : Nat, k ≤ l.length ∧ i = .int .i64 k ∧ Hid (∃ s D, OnceAt w mm k u wr s D)) (fun _ i _ => l.length - (intOf i).toNat)
    case atStart => exact ⟨0, Nat.zero_le _, rfl, hstart.out⟩
    case round =>
      obtain ⟨k, hk, rfl, hI⟩ := hrel
      obtain ⟨wo, rfl⟩ : ∃ wo : World, wo = wr := ⟨_, rfl⟩
      clear hstart
      obtain ⟨s, D, hO⟩ := hI.out
      obtain ⟨Au, cu, rfl⟩ := own_shape hO.ho
      by_cases hlt : k < l.length
      · obtain ⟨g0, off0, c0, hV, hg0, x0, x1, x2, x3, x4⟩ := rd_stp HR.out hlt
        injection hV with hA _ hcc
        subst hA hcc
        have y0 := (hO.hb.cell (p := ⟨g0, off0 + k * 5, none⟩) hg0).trans x0
        have y1 := (hO.hb.cell (p := ⟨g0, off0 + k * 5 + 1, none⟩) hg0).trans x1
        have y2 := (hO.hb.cell (p := ⟨g0, off0 + k * 5 + 2, none⟩) hg0).trans x2
        have y3 := (hO.hb.cell (p := ⟨g0, off0 + k * 5 + 3, none⟩) hg0).trans x3
        have y4 := (hO.hb.cell (p := ⟨g0, off0 + k * 5 + 4, none⟩) hg0).trans x4
        clear x0 x1 x2 x3 x4
        generalize l[k] = z at *
        obtain ⟨c, n, x⟩ := z
        simp only at y0 y1 y2 y3 y4
        have hal := (Below.refl _ wo).alloc (Nat.le_refl _) (.cells #[.int .i64 c, .int .i64 n, .int .i64 x.kind, .int .i64 x.group, .int .i64 x.shard] 29)
        have hpW := hO.hp.below hal
        have hoW := hO.ho.alloc (.cells #[.int .i64 c, .int .i64 n, .int .i64 x.kind, .int .i64 x.group, .int .i64 x.shard] 29)
        have hbW := hO.hb.alloc hO.hb.size (.cells #[.int .i64 c, .int .i64 n, .int .i64 x.kind, .int .i64 x.group, .int .i64 x.shard] 29)
        have hxW : Blk (wo.alloc (.cells #[.int .i64 c, .int .i64 n, .int .i64 x.kind, .int .i64 x.group, .int .i64 x.shard] 29)) wo.heap.size 29 #[.int .i64 c, .int .i64 n, .int .i64 x.kind, .int .i64 x.group, .int .i64 x.shard] := Blk.new wo _ _
        have hlen := hO.hl
        have hmd := mdo_any w.heap.size mm s c n x _ hpW hO.hl.1 (by have := hO.hl; omega)
        have hends := md_ends s c n x
        have hnew := md_len c n x hO.hl.1 hO.hl.2.1
        have HKD := Lib.hid (known_do hO.hk c n x)
        have HKA := Lib.hid (known_add hO.hk c n x x)
        have HAG := Lib.hid (fun y => md_again s c n x y)
        have HNO := Lib.hid (fun (d : Stp) (hd : d ∈ D) (hc : d.c = c) => known_no hO.hk hd (n := n) hc)
        have HO := Lib.hid hoW
        have HB := Lib.hid hbW
        have HX := Lib.hid hxW
        unfold MdPost at hmd
        generalize mdS s c n x = r at *
        obtain ⟨⟨a, now, e'⟩, s'⟩ := r
        simp only [Prod.mk.injEq] at hmd hends hnew HKD HKA HAG
        have HMD := Lib.hid hmd
        have HEN := Lib.hid hends
        have hcase : (e' = 1 ∧ s' = s) ∨ (now = false ∧ e' = 6 ∧ s' = s) ∨ (now = false ∧ e' = 0 ∧ n = (s.cl c.toNat).1) ∨ (now = true ∧ e' = 0 ∧ (s.cl c.toNat).1 < n) := by
          rcases hends with ⟨_, ⟨h1, h2, h3⟩, h4⟩ | ⟨_, hn, ⟨h1, h2, h3⟩, h4⟩ | ⟨_, hn, ⟨h1, h2, h3⟩, h4⟩ | ⟨_, hn, ⟨h1, h2, h3⟩, h4⟩
          · exact .inl ⟨h3, h4⟩
          · exact .inr (.inl ⟨h2, h3, h4⟩)
          · exact .inr (.inr (.inl ⟨h2, h3, hn⟩))
          · exact .inr (.inr (.inr ⟨h2, h3, hn⟩))
        have HOO := Lib.hid hO
        clear hI hO hal hpW hoW hbW hxW hmd hends
        go_wp2_with fail
        generalize wo.alloc (.cells #[.int .i64 c, .int .i64 n, .int .i64 x.kind, .int .i64 x.group, .int .i64 x.shard] 29) = W at *
        refine HMD.out.mono ?_
        rintro e w2 ⟨rfl, hp2, hch⟩
        have hx2 := mm_stp hch HX.out
        have z0 := hx2.cell 0
        have z1 := hx2.cell 1
        have z2 := hx2.cell 2
        have z3 := hx2.cell 3
        have z4 := hx2.cell 4
        have HO2 := Lib.hid (mm_srow hch HO.out)
        have HB2 := Lib.hid (HB.out.trans (mmine_below hch HB.out.size))
        have HX2 := Lib.hid hx2
        have HP2 := Lib.hid hp2
        have hxl : wo.heap.size < w2.heap.size := hx2.lt
        have hww : w.heap.size ≤ w2.heap.size := HB2.out.size
        clear hx2 hch hp2 HMD HEN y0 y1 y2 y3 y4 HO HB HX
        rcases hcase with ⟨rfl, rfl⟩ | ⟨rfl, rfl, rfl⟩ | ⟨rfl, rfl, hn⟩ | ⟨rfl, rfl, hn⟩
        · have hfin : Hid (∃ s D', OnceAt w mm (k + 1) (.slice Au D.length cu) w2 s D') := ⟨s', D, HP2.out, HO2.out, HB2.out, HKD.out, hnew.1, hnew.2.1, by omega, by omega⟩
          clear z0 z1 z2 z3 z4
          go_wp2_with fail
          go_roundw
          case rel => exact ⟨k + 1, by omega, by go_num, hfin⟩
          case measure => simp [intOf]; omega
        · go_wp2_with fail
          go_loopw [50] (fun i wx => ∃ j : Nat, j ≤ D.length ∧ i = .int .i64 j ∧ Hid (Below w2.heap.size w2 wx)) (fun i _ => D.length - (intOf i).toNat)
          case atStart => exact ⟨0, Nat.zero_le _, rfl, Below.refl _ _⟩
          case round =>
            obtain ⟨j, hj, rfl, hq⟩ := hrel
            obtain ⟨wx, rfl⟩ : ∃ wx : World, wx = wr := ⟨_, rfl⟩
            have hbx := HX2.out.below hq.out HX2.out.lt
            have q0 := hbx.cell 0
            have q1 := hbx.cell 1
            have q2 := hbx.cell 2
            have q3 := hbx.cell 3
            have q4 := hbx.cell 4
            have hbl : wo.heap.size < wx.heap.size := hbx.lt
            by_cases hlj : j < D.length
            · obtain ⟨g1, off1, c1, hV, hg1, x0, x1, x2, x3, x4⟩ := rd_stp (Rd.of_own HO2.out) hlj
              injection hV with hA _ hcc
              subst hA hcc
              have k0 := (hq.out.cell (p := ⟨g1, off1 + j * 5, none⟩) hg1).trans x0
              have k1 := (hq.out.cell (p := ⟨g1, off1 + j * 5 + 1, none⟩) hg1).trans x1
              have k2 := (hq.out.cell (p := ⟨g1, off1 + j * 5 + 2, none⟩) hg1).trans x2
              have k3 := (hq.out.cell (p := ⟨g1, off1 + j * 5 + 3, none⟩) hg1).trans x3
              have k4 := (hq.out.cell (p := ⟨g1, off1 + j * 5 + 4, none⟩) hg1).trans x4
              have hno := HNO.out D[j] (List.getElem_mem hlj)
              clear x0 x1 x2 x3 x4 hbx
              generalize D[j] = d at *
              obtain ⟨dc, dn, dx⟩ := d
              simp only at k0 k1 k2 k3 k4 hno
              have hfin2 : Hid (Below w2.heap.size w2 (wx.alloc (.cells #[.int .i64 dc, .int .i64 dn, .int .i64 dx.kind, .int .i64 dx.group, .int .i64 dx.shard] 29))) := hq.out.alloc hq.out.size _
              cases hcd : (dc == c) with
              | false =>
                clear hno
                go_wp2_with fail
                go_roundw
                case rel => exact ⟨j + 1, by omega, by go_num, hfin2.out⟩
                case measure => simp [intOf]; omega
              | true =>
                have hno2 := hno (by simpa using hcd)
                clear hno
                clear hno2
                cases hq1 : (dn == n) with
                | true =>
                  cases hq2 : decide (n < dn) with
                  | true =>
                    go_wp2_with fail
                    go_roundw
                    case rel => exact ⟨j + 1, by omega, by go_num, hfin2.out⟩
                    case measure => simp [intOf]; omega
                  | false =>
                    go_wp2_with fail
                    go_roundw
                    case rel => exact ⟨j + 1, by omega, by go_num, hfin2.out⟩
                    case measure => simp [intOf]; omega
                | false =>
                  cases hq2 : decide (n < dn) with
                  | true =>
                    go_wp2_with fail
                    go_roundw
                    case rel => exact ⟨j + 1, by omega, by go_num, hfin2.out⟩
                    case measure => simp [intOf]; omega
                  | false =>
                    go_wp2_with fail
                    go_roundw
                    case rel => exact ⟨j + 1, by omega, by go_num, hfin2.out⟩
                    case measure => simp [intOf]; omega
            · obtain rfl : j = D.length := by omega
              have hfin : Hid (∃ s D', OnceAt w mm (k + 1) (.slice Au D.length cu) wx s D') := ⟨s', D, HP2.out.below hq.out, own_below HO2.out hq.out, HB2.out.trans (hq.out.mono hww), HKD.out, hnew.1, hnew.2.1, by omega, by omega⟩
              clear q0 q1 q2 q3 q4
              go_wp2_with fail
              go_roundw
              case rel => exact ⟨k + 1, by omega, by go_num, hfin⟩
              case measure => simp [intOf]; omega
        · go_wp2_with fail
          go_loopw [50] (fun i wx => ∃ j : Nat, j ≤ D.length ∧ i = .int .i64 j ∧ Hid (Below w2.heap.size w2 wx)) (fun i _ => D.length - (intOf i).toNat)
          case atStart => exact ⟨0, Nat.zero_le _, rfl, Below.refl _ _⟩
          case round =>
            obtain ⟨j, hj, rfl, hq⟩ := hrel
            obtain ⟨wx, rfl⟩ : ∃ wx : World, wx = wr := ⟨_, rfl⟩
            have hbx := HX2.out.below hq.out HX2.out.lt
            have q0 := hbx.cell 0
            have q1 := hbx.cell 1
            have q2 := hbx.cell 2
            have q3 := hbx.cell 3
            have q4 := hbx.cell 4
            have hbl : wo.heap.size < wx.heap.size := hbx.lt
            by_cases hlj : j < D.length
            · obtain ⟨g1, off1, c1, hV, hg1, x0, x1, x2, x3, x4⟩ := rd_stp (Rd.of_own HO2.out) hlj
              injection hV with hA _ hcc
              subst hA hcc
              have k0 := (hq.out.cell (p := ⟨g1, off1 + j * 5, none⟩) hg1).trans x0
              have k1 := (hq.out.cell (p := ⟨g1, off1 + j * 5 + 1, none⟩) hg1).trans x1
              have k2 := (hq.out.cell (p := ⟨g1, off1 + j * 5 + 2, none⟩) hg1).trans x2
              have k3 := (hq.out.cell (p := ⟨g1, off1 + j * 5 + 3, none⟩) hg1).trans x3
              have k4 := (hq.out.cell (p := ⟨g1, off1 + j * 5 + 4, none⟩) hg1).trans x4
              have hno := HNO.out D[j] (List.getElem_mem hlj)
              clear x0 x1 x2 x3 x4 hbx
              generalize D[j] = d at *
              obtain ⟨dc, dn, dx⟩ := d
              simp only at k0 k1 k2 k3 k4 hno
              have hfin2 : Hid (Below w2.heap.size w2 (wx.alloc (.cells #[.int .i64 dc, .int .i64 dn, .int .i64 dx.kind, .int .i64 dx.group, .int .i64 dx.shard] 29))) := hq.out.alloc hq.out.size _
              cases hcd : (dc == c) with
              | false =>
                clear hno
                go_wp2_with fail
                go_roundw
                case rel => exact ⟨j + 1, by omega, by go_num, hfin2.out⟩
                case measure => simp [intOf]; omega
              | true =>
                have hno2 := hno (by simpa using hcd)
                clear hno
                have hq2 : decide (n < dn) = false := by rw [decide_eq_false_iff_not]; have := hno2.2 hn; omega
                clear hno2
                have HN := Lib.hid hn
                clear hn
                cases hq1 : (dn == n) with
                | true =>
                  go_wp2_with fail
                  go_roundw
                  case rel => exact ⟨j + 1, by omega, by go_num, hfin2.out⟩
                  case measure => simp [intOf]; omega
                | false =>
                  go_wp2_with fail
                  go_roundw
                  case rel => exact ⟨j + 1, by omega, by go_num, hfin2.out⟩
                  case measure => simp [intOf]; omega
            · obtain rfl : j = D.length := by omega
              have hfin2 := Lib.hid hq.out
              have HP3 := Lib.hid (HP2.out.below hq.out)
              have HO3 := Lib.hid (own_below HO2.out hq.out)
              have HB3 := Lib.hid (HB2.out.trans (hq.out.mono hww))
              have hxx := Lib.hid hbx
              have hagn := HAG.out ⟨3, 1, 1⟩ trivial
              have hmd := mdo_any w.heap.size mm s' c n ⟨3, 1, 1⟩ wx HP3.out hnew.1 (by omega)
              unfold MdPost at hmd
              rw [hagn] at hmd
              have HMD := Lib.hid hmd
              have HN := Lib.hid hn
              clear hn hmd hagn hbx
              go_wp2_with fail
              refine HMD.out.mono ?_
              rintro e w3 ⟨rfl, hp3, hch⟩
              have hx3 := mm_stp hch hxx.out
              have z0 := hx3.cell 0
              have z1 := hx3.cell 1
              have z2 := hx3.cell 2
              have z3 := hx3.cell 3
              have z4 := hx3.cell 4
              have hbl3 : wo.heap.size < w3.heap.size := hx3.lt
              have HO4 := Lib.hid (mm_srow hch HO3.out)
              have HB4 := Lib.hid (HB3.out.trans (mmine_below hch HB3.out.size))
              have HP4 := Lib.hid hp3
              have hw3 : w.heap.size ≤ w3.heap.size := HB4.out.size
              have HOA := Lib.hid (fun o => HO4.out.alloc o)
              have hone : Hid (∀ u ∈ Stp.cells ⟨c, n, x⟩, u.oneCell' = true) := by intro u hu; simp [Stp.cells] at hu; rcases hu with rfl | rfl | rfl | rfl | rfl <;> rfl
              have hcx : Hid (cellsS (D ++ [⟨c, n, x⟩]) = cellsS D ++ Stp.cells ⟨c, n, x⟩) := by unfold Hid; rw [cellsS_append]; simp [cellsS]
              have hD80 : D.length ≤ 80 := by omega
              clear hp3 hch hx3 q0 q1 q2 q3 q4
              generalize hL : cellsS D = L at *
              have HL := Lib.hid hL
              clear hL
              go_wp2_with (at_builtin; refine wpList_append_lies _ rfl (.tmp 112) (.tmp 114) _ rfl w.heap.size 29 i0 _ 5 40 Try.underlying22 hi0 hz0 hz1 hz2 rfl (by omega) (.slice Au D.length cu) D.length L rfl (HOA.out _) ⟨w3.heap.size, 0, none⟩ 1 1 (Stp.cells ⟨c, n, x⟩) rfl rfl (news_box (by simp)) hone.out (by omega) (by unfold maxLen; omega) (by omega) (by simp; omega) (w3.heap.size + 1) (by simp) ?_; intro g2 cap2 w4 hown4 hg4 hat4 hlt4)
              have hfin : Hid (∃ s D', OnceAt w mm (k + 1) (.slice (some ⟨g2, 0, none⟩) (D.length + 1) cap2) w4 s D') := by
                refine ⟨s', D ++ [⟨c, n, x⟩], ?_, ?_, ?_, HKA.out trivial, ?_⟩
                · exact HP4.out.chg ((((Chg.refl (fun i => (Value.slice Au D.length cu).ownBlock = some i) w3)).alloc _).grown hg4 (fun j hj _ => hj)) (srow_apart HO4.out)
                · rw [hcx.out, List.length_append]; exact hown4
                · exact (((Chg.of_below (F := fun i => w.heap.size ≤ i) HB4.out).alloc _).grown hg4 (fun j hj _ => (HO4.out.lt j hj).1)).to_below (fun i hi h => by omega) (Nat.le_refl _)
                · rw [List.length_append]; exact ⟨hnew.1, hnew.2.1, by omega, by simp; omega⟩
              clear hown4 hg4 hat4 hlt4 z0 z1 z2 z3 z4
              go_wp2_with fail
              go_roundw
              case rel => exact ⟨k + 1, by omega, by go_num, hfin⟩
              case measure => simp [intOf]; omega
        · go_wp2_with fail
          go_loopw [50] (fun i wx => ∃ j : Nat, j ≤ D.length ∧ i = .int .i64 j ∧ Hid (Below w2.heap.size w2 wx)) (fun i _ => D.length - (intOf i).toNat)
          case atStart => exact ⟨0, Nat.zero_le _, rfl, Below.refl _ _⟩
          case round =>
            obtain ⟨j, hj, rfl, hq⟩ := hrel
            obtain ⟨wx, rfl⟩ : ∃ wx : World, wx = wr := ⟨_, rfl⟩
            have hbx := HX2.out.below hq.out HX2.out.lt
            have q0 := hbx.cell 0
            have q1 := hbx.cell 1
            have q2 := hbx.cell 2
            have q3 := hbx.cell 3
            have q4 := hbx.cell 4
            have hbl : wo.heap.size < wx.heap.size := hbx.lt
            by_cases hlj : j < D.length
            · obtain ⟨g1, off1, c1, hV, hg1, x0, x1, x2, x3, x4⟩ := rd_stp (Rd.of_own HO2.out) hlj
              injection hV with hA _ hcc
              subst hA hcc
              have k0 := (hq.out.cell (p := ⟨g1, off1 + j * 5, none⟩) hg1).trans x0
              have k1 := (hq.out.cell (p := ⟨g1, off1 + j * 5 + 1, none⟩) hg1).trans x1
              have k2 := (hq.out.cell (p := ⟨g1, off1 + j * 5 + 2, none⟩) hg1).trans x2
              have k3 := (hq.out.cell (p := ⟨g1, off1 + j * 5 + 3, none⟩) hg1).trans x3
              have k4 := (hq.out.cell (p := ⟨g1, off1 + j * 5 + 4, none⟩) hg1).trans x4
              have hno := HNO.out D[j] (List.getElem_mem hlj)
              clear x0 x1 x2 x3 x4 hbx
              generalize D[j] = d at *
              obtain ⟨dc, dn, dx⟩ := d
              simp only at k0 k1 k2 k3 k4 hno
              have hfin2 : Hid (Below w2.heap.size w2 (wx.alloc (.cells #[.int .i64 dc, .int .i64 dn, .int .i64 dx.kind, .int .i64 dx.group, .int .i64 dx.shard] 29))) := hq.out.alloc hq.out.size _
              cases hcd : (dc == c) with
              | false =>
                clear hno
                go_wp2_with fail
                go_roundw
                case rel => exact ⟨j + 1, by omega, by go_num, hfin2.out⟩
                case measure => simp [intOf]; omega
              | true =>
                have hno2 := hno (by simpa using hcd)
                clear hno
                have hq2 : decide (n < dn) = false := by rw [decide_eq_false_iff_not]; have := hno2.1 hn; omega
                have hq1 : (dn == n) = false := by have := hno2.1 hn; simp; omega
                clear hno2
                have HN := Lib.hid hn
                clear hn
                go_wp2_with fail
                go_roundw
                case rel => exact ⟨j + 1, by omega, by go_num, hfin2.out⟩
                case measure => simp [intOf]; omega
            · obtain rfl : j = D.length := by omega
              have hfin2 := Lib.hid hq.out
              have HP3 := Lib.hid (HP2.out.below hq.out)
              have HO3 := Lib.hid (own_below HO2.out hq.out)
              have HB3 := Lib.hid (HB2.out.trans (hq.out.mono hww))
              have hxx := Lib.hid hbx
              have hagn := HAG.out ⟨3, 1, 1⟩ trivial
              have hmd := mdo_any w.heap.size mm s' c n ⟨3, 1, 1⟩ wx HP3.out hnew.1 (by omega)
              unfold MdPost at hmd
              rw [hagn] at hmd
              have HMD := Lib.hid hmd
              have HN := Lib.hid hn
              clear hn hmd hagn hbx
              go_wp2_with fail
              refine HMD.out.mono ?_
              rintro e w3 ⟨rfl, hp3, hch⟩
              have hx3 := mm_stp hch hxx.out
              have z0 := hx3.cell 0
              have z1 := hx3.cell 1
              have z2 := hx3.cell 2
              have z3 := hx3.cell 3
              have z4 := hx3.cell 4
              have hbl3 : wo.heap.size < w3.heap.size := hx3.lt
              have HO4 := Lib.hid (mm_srow hch HO3.out)
              have HB4 := Lib.hid (HB3.out.trans (mmine_below hch HB3.out.size))
              have HP4 := Lib.hid hp3
              have hw3 : w.heap.size ≤ w3.heap.size := HB4.out.size
              have HOA := Lib.hid (fun o => HO4.out.alloc o)
              have hone : Hid (∀ u ∈ Stp.cells ⟨c, n, x⟩, u.oneCell' = true) := by intro u hu; simp [Stp.cells] at hu; rcases hu with rfl | rfl | rfl | rfl | rfl <;> rfl
              have hcx : Hid (cellsS (D ++ [⟨c, n, x⟩]) = cellsS D ++ Stp.cells ⟨c, n, x⟩) := by unfold Hid; rw [cellsS_append]; simp [cellsS]
              have hD80 : D.length ≤ 80 := by omega
              clear hp3 hch hx3 q0 q1 q2 q3 q4
              generalize hL : cellsS D = L at *
              have HL := Lib.hid hL
              clear hL
              go_wp2_with (at_builtin; refine wpList_append_lies _ rfl (.tmp 112) (.tmp 114) _ rfl w.heap.size 29 i0 _ 5 40 Try.underlying22 hi0 hz0 hz1 hz2 rfl (by omega) (.slice Au D.length cu) D.length L rfl (HOA.out _) ⟨w3.heap.size, 0, none⟩ 1 1 (Stp.cells ⟨c, n, x⟩) rfl rfl (news_box (by simp)) hone.out (by omega) (by unfold maxLen; omega) (by omega) (by simp; omega) (w3.heap.size + 1) (by simp) ?_; intro g2 cap2 w4 hown4 hg4 hat4 hlt4)
              have hfin : Hid (∃ s D', OnceAt w mm (k + 1) (.slice (some ⟨g2, 0, none⟩) (D.length + 1) cap2) w4 s D') := by
                refine ⟨s', D ++ [⟨c, n, x⟩], ?_, ?_, ?_, HKA.out trivial, ?_⟩
                · exact HP4.out.chg ((((Chg.refl (fun i => (Value.slice Au D.length cu).ownBlock = some i) w3)).alloc _).grown hg4 (fun j hj _ => hj)) (srow_apart HO4.out)
                · rw [hcx.out, List.length_append]; exact hown4
                · exact (((Chg.of_below (F := fun i => w.heap.size ≤ i) HB4.out).alloc _).grown hg4 (fun j hj _ => (HO4.out.lt j hj).1)).to_below (fun i hi h => by omega) (Nat.le_refl _)
                · rw [List.length_append]; exact ⟨hnew.1, hnew.2.1, by omega, by simp; omega⟩
              clear hown4 hg4 hat4 hlt4 z0 z1 z2 z3 z4
              go_wp2_with fail
              go_roundw
              case rel => exact ⟨k + 1, by omega, by go_num, hfin⟩
              case measure => simp [intOf]; omega
      · obtain rfl : k = l.length := by omega
        have HB := Lib.hid hO.hb
        clear hO hI
        go_wp2_with fail
        refine (one_any wo).mono ?_
        rintro e w5 ⟨rfl, hb5⟩
        go_wp2_with fail
        go_ret
        exact ⟨rfl, HB.out.trans (hb5.mono HB.out.size)⟩

end Go.Proofs.Ytlhjhngaljgdgaa
