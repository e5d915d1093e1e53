/- MootChain, walked. -/
import Derived.Test.YtlhjhngaljgdgaaMf
namespace Go.Proofs.Ytlhjhngaljgdgaa
open Go.RowKit Go.Shelf
set_option linter.unusedVariables false
set_option linter.unusedSimpArgs false

theorem field_num2 : ∀ (n a b c d : Int) (A : Option Addr) (l m : Nat) (w : World), (Instr.field 38 (.agg #[.int .i64 n, .slice A l m, .int .i64 a, .int .i64 b, .int .i64 c, .int .i64 d]) 0).run Try.prog w = .ok (.int .i64 n) w := field_num
theorem keep6r {W : World} {b : Nat} {num : Int} {s : Value} {o : Own} (h : Blk W b 37 (cfgCells num s o)) : W.cell? ⟨b, 0, none⟩ = some (.int .i64 num) ∧ W.cell? ⟨b, 1, none⟩ = some s ∧ W.cell? ⟨b, 2, none⟩ = some (.int .i64 o.a) ∧ W.cell? ⟨b, 3, none⟩ = some (.int .i64 o.b) ∧ W.cell? ⟨b, 4, none⟩ = some (.int .i64 o.c) ∧ W.cell? ⟨b, 5, none⟩ = some (.int .i64 o.d) := ⟨h.cell 0, h.cell 1, h.cell 2, h.cell 3, h.cell 4, h.cell 5⟩
theorem keep12 {W w' : World} {b b' : Nat} {num num' : Int} {s s' : Value} {o o' : Own} (hc : Blk W b 38 (cfgCells num s o)) (hd : Blk W b' 37 (cfgCells num' s' o')) (h : Below W.heap.size W w') :
    (w'.cell? ⟨b, 0, none⟩ = some (.int .i64 num) ∧ w'.cell? ⟨b, 1, none⟩ = some s ∧ w'.cell? ⟨b, 2, none⟩ = some (.int .i64 o.a) ∧ w'.cell? ⟨b, 3, none⟩ = some (.int .i64 o.b) ∧ w'.cell? ⟨b, 4, none⟩ = some (.int .i64 o.c) ∧ w'.cell? ⟨b, 5, none⟩ = some (.int .i64 o.d)) ∧
    w'.cell? ⟨b', 0, none⟩ = some (.int .i64 num') ∧ w'.cell? ⟨b', 1, none⟩ = some s' ∧ w'.cell? ⟨b', 2, none⟩ = some (.int .i64 o'.a) ∧ w'.cell? ⟨b', 3, none⟩ = some (.int .i64 o'.b) ∧ w'.cell? ⟨b', 4, none⟩ = some (.int .i64 o'.c) ∧ w'.cell? ⟨b', 5, none⟩ = some (.int .i64 o'.d) := by
  have h2 := hd.below h hd.lt
  exact ⟨keep6 hc h, h2.cell 0, h2.cell 1, h2.cell 2, h2.cell 3, h2.cell 4, h2.cell 5⟩
theorem keepz {W w' : World} {b b' : Nat} {num : Int} {s : Value} {o : Own} {c n : Int} {x : Cmd} (hd : Blk W b 37 (cfgCells num s o)) (hx : Blk W b' 29 #[.int .i64 c, .int .i64 n, .int .i64 x.kind, .int .i64 x.group, .int .i64 x.shard]) (h : Below W.heap.size W w') :
    w'.cell? ⟨b, 0, none⟩ = some (.int .i64 num) ∧ w'.cell? ⟨b, 1, none⟩ = some s ∧ w'.cell? ⟨b, 2, none⟩ = some (.int .i64 o.a) ∧ w'.cell? ⟨b, 3, none⟩ = some (.int .i64 o.b) ∧ w'.cell? ⟨b, 4, none⟩ = some (.int .i64 o.c) ∧ w'.cell? ⟨b, 5, none⟩ = some (.int .i64 o.d) ∧
    w'.cell? ⟨b', 2, none⟩ = some (.int .i64 x.kind) ∧ w'.cell? ⟨b', 3, none⟩ = some (.int .i64 x.group) ∧ w'.cell? ⟨b', 4, none⟩ = some (.int .i64 x.shard) := by
  have h2 := hd.below h hd.lt
  have h3 := hx.below h hx.lt
  exact ⟨h2.cell 0, h2.cell 1, h2.cell 2, h2.cell 3, h2.cell 4, h2.cell 5, h3.cell 2, h3.cell 3, h3.cell 4⟩

set_option maxHeartbeats 16000000 in
set_option maxRecDepth 100000 in
theorem mootChain_any (l : List Stp) (v : Value) (w : World) (hr : Rd w w.heap.size 5 v l.length (cellsS l)) (hm : l.length ≤ 9223372036854775807) :
    Calls Try.prog 4 #[v] w fun e w' => e = .returned (.bool true) ∧ Below w.heap.size w w' := by
  have HR := Lib.hid hr
  obtain ⟨_, A, cc, rfl, hncc, _⟩ := hr
  by_cases hbig : 80 < l.length
  · have hb2 : (80 : Int) < (l.length : Int) := by omega
    go_enter Try.func4, Try.ntmps4
    go_wp2_with fail
    refine (mnew_any w).mono ?_
    rintro e w1 ⟨mm, rfl, hp1, hb1⟩
    have HB1 := Lib.hid hb1
    clear hp1 hb1
    go_wp2_with fail
    refine (one_any w1).mono ?_
    rintro e w2 ⟨rfl, hb⟩
    have HB := Lib.hid (HB1.out.trans (hb.mono HB1.out.size))
    clear hb
    go_wp2_with fail
    go_ret
    exact ⟨rfl, HB.out⟩
  · have hb2 : decide ((80 : Int) < (l.length : Int)) = false := by rw [decide_eq_false_iff_not]; omega
    have hm2 : l.length ≤ 80 := by omega
    clear hbig
    have HFD : Hid (∀ (n a b c d : Int) (A : Option Addr) (l m : Nat) (w : World), (Instr.field 38 (.agg #[.int .i64 n, .slice A l m, .int .i64 a, .int .i64 b, .int .i64 c, .int .i64 d]) 0).run Try.prog w = .ok (.int .i64 n) w) := field_num2
    go_enter Try.func4, Try.ntmps4
    go_wp2_with fail
    refine (mnew_any w).mono ?_
    rintro e w1 ⟨mm, rfl, hp1, hb1⟩
    have hstart : Hid (∃ s sv, ChAt w mm w1.heap.size 0 (w1.alloc (.cells #[.int .i64 0, .slice none 0 0, .int .i64 0, .int .i64 0, .int .i64 0, .int .i64 0] 37)) s sv) := ⟨mt0, .slice none 0 0, hp1.below ((Below.refl _ _).alloc (Nat.le_refl _) _), ⟨Blk.new w1 _ _, World.ownsRow_nil _ _ _ _⟩, hb1.alloc hb1.size _, good0, by simp [mt0], hb1.size⟩
    generalize hcb0 : w1.heap.size = cb at *
    have HCB0 := Lib.hid hcb0
    clear hp1 hb1 hcb0
    go_wp2_with fail
    rw [HCB0.out]
    clear HCB0
    go_loopw [31] (fun i wr => ∃ k : Nat, k ≤ l.length ∧ i = .int .i64 k ∧ Hid (∃ s sv, ChAt w mm cb k wr s sv)) (fun i _ => l.length - (intOf i).toNat)
    case atStart => exact ⟨0, Nat.zero_le _, rfl, hstart.out⟩
    case round =>
      obtain ⟨k, hk, rfl, hI⟩ := hrel
      obtain ⟨wo, rfl⟩ : ∃ wo : World, wo = wr := ⟨_, rfl⟩
      clear hstart
      obtain ⟨s, sv, hO⟩ := hI.out
      obtain ⟨Av, cv, rfl⟩ := own_shape hO.hc.own
      by_cases hlt : k < l.length
      · obtain ⟨g0, off0, c0, hV, hg0, x0, x1, x2, x3, x4⟩ := rd_stp HR.out hlt
        injection hV with hA _ hcc
        subst hA hcc
        have y0 := (hO.hb.cell (p := ⟨g0, off0 + k * 5, none⟩) hg0).trans x0
        have y1 := (hO.hb.cell (p := ⟨g0, off0 + k * 5 + 1, none⟩) hg0).trans x1
        have y2 := (hO.hb.cell (p := ⟨g0, off0 + k * 5 + 2, none⟩) hg0).trans x2
        have y3 := (hO.hb.cell (p := ⟨g0, off0 + k * 5 + 3, none⟩) hg0).trans x3
        have y4 := (hO.hb.cell (p := ⟨g0, off0 + k * 5 + 4, none⟩) hg0).trans x4
        clear x0 x1 x2 x3 x4
        generalize l[k] = z at *
        obtain ⟨c, n, x⟩ := z
        simp only at y0 y1 y2 y3 y4
        have hal := (Below.refl _ wo).alloc (Nat.le_refl _) (.cells #[.int .i64 c, .int .i64 n, .int .i64 x.kind, .int .i64 x.group, .int .i64 x.shard] 29)
        have HPW := Lib.hid (hO.hp.below hal)
        have HCW := Lib.hid (hO.hc.below hal)
        have HBW := Lib.hid (hO.hb.alloc hO.hb.size (.cells #[.int .i64 c, .int .i64 n, .int .i64 x.kind, .int .i64 x.group, .int .i64 x.shard] 29))
        have HXW : Hid (Blk (wo.alloc (.cells #[.int .i64 c, .int .i64 n, .int .i64 x.kind, .int .i64 x.group, .int .i64 x.shard] 29)) wo.heap.size 29 #[.int .i64 c, .int .i64 n, .int .i64 x.kind, .int .i64 x.group, .int .i64 x.shard]) := Blk.new wo _ _
        have hlen := hO.hl
        have hcbw := hO.hcb
        have hml := mlast_any w.heap.size mm s.cs s.tk s.cl _ HPW.out (by omega)
        obtain ⟨hgl1, hgl2, hgl3⟩ := good_last hO.hg hO.hl.2.1
        have HMD : Hid (∀ w2, Moot w.heap.size w2 mm s.cs s.tk s.cl → Calls Try.prog 7 #[.pointer (some ⟨mm, 0, none⟩), .int .i64 c, .int .i64 n, .agg #[.int .i64 x.kind, .int .i64 x.group, .int .i64 x.shard]] w2 (MdPost w.heap.size w2 mm (mdS s c n x))) := fun w2 h => mdo_any w.heap.size mm s c n x w2 h hO.hl.1 (by omega)
        have hends := md_ends s c n x
        have hnew := md_len c n x hO.hl.1 hO.hl.2.1
        have hgnew := good_md hO.hg hO.hl.2.1 c n x
        have htake := @doS_taken s.cs x
        have hnot := @doS_not s.cs x
        have hend2 : ((mdS s c n x).1.2.2 ≠ 0 ∧ (mdS s c n x).2.cs = s.cs) ∨ ((mdS s c n x).1.2.2 = 0 ∧ (mdS s c n x).1.2.1 = false ∧ (mdS s c n x).2.cs = s.cs) ∨ ((mdS s c n x).1.2.2 = 0 ∧ (mdS s c n x).1.2.1 = true ∧ (mdS s c n x).1.1 ≠ 0 ∧ (mdS s c n x).2.cs = s.cs) ∨
            ((mdS s c n x).1.2.2 = 0 ∧ (mdS s c n x).1.2.1 = true ∧ (mdS s c n x).1.1 = 0 ∧ (nextS (s.cs.getLastD cfg0) x).2 = 0 ∧ (mdS s c n x).2.cs.getLastD cfg0 = (nextS (s.cs.getLastD cfg0) x).1) := by
          rcases hends with ⟨_, e⟩ | ⟨_, _, e⟩ | ⟨_, _, e⟩ | ⟨_, _, e⟩
          · rw [e]; exact .inl ⟨by simp, rfl⟩
          · rw [e]; exact .inl ⟨by simp, rfl⟩
          · rw [e]; exact .inr (.inl ⟨rfl, rfl, rfl⟩)
          · rw [e]
            by_cases h0 : (doS s.cs x).2 = 0
            · exact .inr (.inr (.inr ⟨rfl, rfl, h0, htake h0⟩))
            · exact .inr (.inr (.inl ⟨rfl, rfl, h0, hnot h0⟩))
        unfold MdPost at HMD
        generalize mdS s c n x = r at *
        obtain ⟨⟨a, now, e'⟩, s'⟩ := r
        simp only at HMD hnew hgnew hend2
        have HGN := Lib.hid hgnew
        have hLL : Hid (∀ c' : Cfg, c' = s.cs.getLastD cfg0 → c' = s.cs.getLastD cfg0) := fun _ h => h
        unfold GivesC at hml
        clear hends htake hnot hal hgnew hI
        have hOk := hO.hl
        clear hO
        generalize hL : s.cs.getLastD cfg0 = L at *
        have HL := Lib.hid hL
        clear hL
        obtain ⟨ln, lg, lo⟩ := L
        simp only at hml hgl2
        have HML := Lib.hid hml
        clear hml
        go_wp2_with fail
        generalize wo.alloc (.cells #[.int .i64 c, .int .i64 n, .int .i64 x.kind, .int .i64 x.group, .int .i64 x.shard] 29) = W at *
        refine HML.out.mono ?_
        rintro e w2 ⟨s2, rfl, ho2, hb2⟩
        obtain ⟨A2, c2, rfl⟩ := own_shape ho2
        have HPW2 := Lib.hid (HPW.out.below hb2)
        have HCW2 := Lib.hid (HCW.out.below hb2)
        have HBW2 := Lib.hid (HBW.out.trans (hb2.mono HBW.out.size))
        have hx2 := HXW.out.below hb2 HXW.out.lt
        have z0 := hx2.cell 0
        have z1 := hx2.cell 1
        have z2 := hx2.cell 2
        have z3 := hx2.cell 3
        have z4 := hx2.cell 4
        have HXW2 := Lib.hid hx2
        have hfld := HFD.out
        clear ho2 hb2 hx2 HPW HCW HBW HXW HML y0 y1 y2 y3 y4
        unfold Cfg.val
        go_wp2_with fail
        clear hfld
        refine (HMD.out w2 HPW2.out).mono ?_
        rintro e w3 ⟨rfl, hp3, hch⟩
        have HP3 := Lib.hid hp3
        have HC3 := Lib.hid (HCW2.out.mm hch)
        have HB3 := Lib.hid (HBW2.out.trans (mmine_below hch HBW2.out.size))
        have hx3 := mm_stp hch HXW2.out
        have HX3 := Lib.hid hx3
        have hxl : wo.heap.size < w3.heap.size := hx3.lt
        have hcbl : cb < w3.heap.size := HC3.out.box.lt
        have hw3 : w.heap.size ≤ w3.heap.size := HB3.out.size
        clear hp3 hch hx3 HPW2 HCW2 HBW2 HXW2 z0 z1 z2 z3 z4 HMD
        obtain ⟨q0, q1, q2, q3, q4, q5⟩ := keep6r HC3.out.box
        rcases hend2 with ⟨he, hsc⟩ | ⟨he, hnow, hsc⟩ | ⟨he, hnow, ha, hsc⟩ | ⟨he, hnow, ha, hn0, hn1⟩
        · have he1 : (e' == 0) = false := by simpa using he
          clear he
          have HLN : Hid (s'.cs.getLastD cfg0 = ⟨ln, lg, lo⟩) := by unfold Hid; rw [hsc]; exact HL.out
          have hml := mlast_any w.heap.size mm s'.cs s'.tk s'.cl w3 HP3.out (by omega)
          unfold GivesC at hml
          rw [HLN.out] at hml
          have HML := Lib.hid hml
          have hfld := HFD.out
          clear hml hsc
          go_wp2_with fail
          refine HML.out.mono ?_
          rintro e w5 ⟨s5, rfl, ho5, hb5⟩
          obtain ⟨A5, c5, rfl⟩ := own_shape ho5
          have HPc := Lib.hid (HP3.out.below hb5)
          have HCc := Lib.hid (HC3.out.below hb5)
          have HBc := Lib.hid (HB3.out.trans (hb5.mono hw3))
          have hxl5 : wo.heap.size < w5.heap.size := by have := hb5.size; omega
          have hcb5 : cb < w5.heap.size := HCc.out.box.lt
          clear ho5 hb5 HP3 HC3 HB3 HML q0 q1 q2 q3 q4 q5 HX3
          obtain ⟨q0, q1, q2, q3, q4, q5⟩ := keep6r HCc.out.box
          unfold Cfg.val
          go_upto_region 17 with fail
          clear hfld
          have hgn := good_last HGN.out hnew.2.1
          rw [HLN.out] at hgn
          obtain ⟨hgt, hg4, hck⟩ := hgn
          simp only at hgt hg4
          have hmg := mget_any w.heap.size mm s'.cs s'.tk s'.cl ln w5 HPc.out (by omega)
          unfold GivesCE at hmg
          rw [hgt] at hmg
          simp only at hmg
          have HMG := Lib.hid hmg
          clear hmg hgt hck
          go_wp2_with fail
          refine HMG.out.mono ?_
          rintro e w4 ⟨s4, rfl, ho4, hb4⟩
          obtain ⟨A4, c4, rfl⟩ := own_shape ho4
          have HP4 := Lib.hid (HPc.out.below hb4)
          have HC4 := Lib.hid (HCc.out.below hb4)
          have HB4 := Lib.hid (HBc.out.trans (hb4.mono HBc.out.size))
          have HO4 := Lib.hid ho4
          have hcb4 : cb < w4.heap.size := HC4.out.box.lt
          clear ho4 hb4 HMG q0 q1 q2 q3 q4 q5 HPc HCc HBc
          unfold Cfg.val
          simp only
          go_upto_region 18 with fail
          have hal4 : Below w4.heap.size w4 (w4.alloc (.cells #[.int .i64 ln, .slice A4 lg.length c4, .int .i64 lo.a, .int .i64 lo.b, .int .i64 lo.c, .int .i64 lo.d] 38)) := (Below.refl _ _).alloc (Nat.le_refl _) _
          have hbk4 : Blk (w4.alloc (.cells #[.int .i64 ln, .slice A4 lg.length c4, .int .i64 lo.a, .int .i64 lo.b, .int .i64 lo.c, .int .i64 lo.d] 38)) w4.heap.size 38 (cfgCells ln (.slice A4 lg.length c4) lo) := Blk.new w4 _ _
          have HPV := Lib.hid (HP4.out.below hal4)
          have Hcv := Lib.hid (HC4.out.below hal4)
          have HBV := Lib.hid (HB4.out.trans (hal4.mono HB4.out.size))
          have HOV := Lib.hid (own_below HO4.out hal4)
          have HBKV := Lib.hid hbk4
          clear hal4 hbk4 HP4 HC4 HB4 HO4
          generalize w4.heap.size = b4 at *
          generalize w4.alloc (.cells #[.int .i64 ln, .slice A4 lg.length c4, .int .i64 lo.a, .int .i64 lo.b, .int .i64 lo.c, .int .i64 lo.d] 38) = V at *
          have hwV : w.heap.size ≤ V.heap.size := HBV.out.size
          have HS1 : Hid (∀ w', Below V.heap.size V w' → Calls Try.prog 12 #[.agg #[.int .i64 ln, .slice A4 lg.length c4, .int .i64 lo.a, .int .i64 lo.b, .int .i64 lo.c, .int .i64 lo.d], .agg #[.int .i64 ln, .slice Av lg.length cv, .int .i64 lo.a, .int .i64 lo.b, .int .i64 lo.c, .int .i64 lo.d]] w' fun e w'' => e = .returned (.bool true) ∧ Below w'.heap.size w' w'') := fun w' h => by
            have := same17_any ⟨ln, lg, lo⟩ ⟨ln, lg, lo⟩ A4 c4 Av cv w' V.heap.size h.size ((Rd.of_own HOV.out).below h) ((Rd.of_own Hcv.out.own).below h) (by simp only; omega) (by simp only; omega)
            rwa [cfgEqB_refl] at this
          have HLS : Hid (∀ w', Below V.heap.size V w' → Calls Try.prog 8 #[.pointer (some ⟨mm, 0, none⟩)] w' fun e w'' => ∃ s7, e = .returned (Cfg.val ⟨ln, lg, lo⟩ s7) ∧ w''.ownsRow w'.heap.size 3 1 s7 lg.length (ints lg) ∧ Below w'.heap.size w' w'') := fun w' h => by
            have := mlast_any w.heap.size mm s'.cs s'.tk s'.cl w' (HPV.out.below h) (by omega)
            unfold GivesC at this
            rwa [HLN.out] at this
          have HS2 : Hid (∀ (A7 : Option Addr) (c7 : Nat) (w7 w' : World) (b7 : Nat), w7.ownsRow b7 3 1 (.slice A7 lg.length c7) lg.length (ints lg) → Below V.heap.size V w7 → Below w7.heap.size w7 w' → Calls Try.prog 12 #[.agg #[.int .i64 ln, .slice A7 lg.length c7, .int .i64 lo.a, .int .i64 lo.b, .int .i64 lo.c, .int .i64 lo.d], .agg #[.int .i64 ln, .slice Av lg.length cv, .int .i64 lo.a, .int .i64 lo.b, .int .i64 lo.c, .int .i64 lo.d]] w' fun e w'' => e = .returned (.bool true) ∧ Below w'.heap.size w' w'') := fun A7 c7 w7 w' b7 ho h7 h => by
            have := same17_any ⟨ln, lg, lo⟩ ⟨ln, lg, lo⟩ A7 c7 Av cv w' w7.heap.size h.size ((Rd.of_own ho).below h) ((((Rd.of_own Hcv.out.own).below h7).more h7.size).below h) (by simp only; omega) (by simp only; omega)
            rwa [cfgEqB_refl] at this
          go_region_held3 (fun w' => (w'.cell? ⟨b4, 0, none⟩ = some (.int .i64 ln) ∧ w'.cell? ⟨b4, 1, none⟩ = some (.slice A4 lg.length c4) ∧ w'.cell? ⟨b4, 2, none⟩ = some (.int .i64 lo.a) ∧ w'.cell? ⟨b4, 3, none⟩ = some (.int .i64 lo.b) ∧ w'.cell? ⟨b4, 4, none⟩ = some (.int .i64 lo.c) ∧ w'.cell? ⟨b4, 5, none⟩ = some (.int .i64 lo.d)) ∧
              w'.cell? ⟨cb, 0, none⟩ = some (.int .i64 ln) ∧ w'.cell? ⟨cb, 1, none⟩ = some (.slice Av lg.length cv) ∧ w'.cell? ⟨cb, 2, none⟩ = some (.int .i64 lo.a) ∧ w'.cell? ⟨cb, 3, none⟩ = some (.int .i64 lo.b) ∧ w'.cell? ⟨cb, 4, none⟩ = some (.int .i64 lo.c) ∧ w'.cell? ⟨cb, 5, none⟩ = some (.int .i64 lo.d))
            ((refine keep12 HBKV.out Hcv.out.box ?_; simp only [bl_drew, bl_refl, *]))
            (first
              | (go_at_call 12; refine Calls.mono (HS2.out _ _ _ _ _ HO7.out hbl7 (by simp only [bl_drew, bl_refl])) ?_; rintro e w8 ⟨rfl, hb8⟩; have hbl8 : Below V.heap.size V w8 := below_then (by simp only [bl_drew, bl_refl, *]) hb8; clear hb8)
              | (go_at_call 8; refine Calls.mono (HLS.out _ (by simp only [bl_drew, bl_refl, *])) ?_; rintro e w7 ⟨s7, rfl, ho7, hb7⟩; have hbl7 : Below V.heap.size V w7 := below_then (by simp only [bl_drew, bl_refl, *]) hb7; clear hb7; obtain ⟨A7, c7, rfl⟩ := own_shape ho7; have HO7 := Lib.hid ho7; clear ho7; unfold Cfg.val; simp only)
              | (go_at_call 12; refine Calls.mono (HS1.out _ (by simp only [bl_drew, bl_refl])) ?_; rintro e w6 ⟨rfl, hb6⟩; have hbl6 : Below V.heap.size V w6 := below_then (by simp only [bl_drew, bl_refl]) hb6; clear hb6))
          all_goals
            have hfin : Hid (∃ s sv, ChAt w mm cb (k + 1) w8 s sv) := ⟨s', _, HPV.out.below hbl8, by rw [HLN.out]; exact Hcv.out.below hbl8, HBV.out.trans (hbl8.mono hwV), HGN.out, ⟨hnew.1, hnew.2.1, by omega⟩, hcbw⟩
            clear hbl6 hbl7 hbl8
            go_wp2_with fail
            go_roundw
            case rel => exact ⟨k + 1, by omega, by go_num, hfin⟩
            case measure => simp [intOf]; omega
        · obtain rfl : e' = 0 := he
          obtain rfl : now = false := hnow
          have HLN : Hid (s'.cs.getLastD cfg0 = ⟨ln, lg, lo⟩) := by unfold Hid; rw [hsc]; exact HL.out
          have hml := mlast_any w.heap.size mm s'.cs s'.tk s'.cl w3 HP3.out (by omega)
          unfold GivesC at hml
          rw [HLN.out] at hml
          have HML := Lib.hid hml
          have hfld := HFD.out
          clear hml hsc
          go_wp2_with fail
          refine HML.out.mono ?_
          rintro e w5 ⟨s5, rfl, ho5, hb5⟩
          obtain ⟨A5, c5, rfl⟩ := own_shape ho5
          have HPc := Lib.hid (HP3.out.below hb5)
          have HCc := Lib.hid (HC3.out.below hb5)
          have HBc := Lib.hid (HB3.out.trans (hb5.mono hw3))
          have hxl5 : wo.heap.size < w5.heap.size := by have := hb5.size; omega
          have hcb5 : cb < w5.heap.size := HCc.out.box.lt
          clear ho5 hb5 HP3 HC3 HB3 HML q0 q1 q2 q3 q4 q5 HX3
          obtain ⟨q0, q1, q2, q3, q4, q5⟩ := keep6r HCc.out.box
          unfold Cfg.val
          go_upto_region 17 with fail
          clear hfld
          have hgn := good_last HGN.out hnew.2.1
          rw [HLN.out] at hgn
          obtain ⟨hgt, hg4, hck⟩ := hgn
          simp only at hgt hg4
          have hmg := mget_any w.heap.size mm s'.cs s'.tk s'.cl ln w5 HPc.out (by omega)
          unfold GivesCE at hmg
          rw [hgt] at hmg
          simp only at hmg
          have HMG := Lib.hid hmg
          clear hmg hgt hck
          go_wp2_with fail
          refine HMG.out.mono ?_
          rintro e w4 ⟨s4, rfl, ho4, hb4⟩
          obtain ⟨A4, c4, rfl⟩ := own_shape ho4
          have HP4 := Lib.hid (HPc.out.below hb4)
          have HC4 := Lib.hid (HCc.out.below hb4)
          have HB4 := Lib.hid (HBc.out.trans (hb4.mono HBc.out.size))
          have HO4 := Lib.hid ho4
          have hcb4 : cb < w4.heap.size := HC4.out.box.lt
          clear ho4 hb4 HMG q0 q1 q2 q3 q4 q5 HPc HCc HBc
          unfold Cfg.val
          simp only
          go_upto_region 18 with fail
          have hal4 : Below w4.heap.size w4 (w4.alloc (.cells #[.int .i64 ln, .slice A4 lg.length c4, .int .i64 lo.a, .int .i64 lo.b, .int .i64 lo.c, .int .i64 lo.d] 38)) := (Below.refl _ _).alloc (Nat.le_refl _) _
          have hbk4 : Blk (w4.alloc (.cells #[.int .i64 ln, .slice A4 lg.length c4, .int .i64 lo.a, .int .i64 lo.b, .int .i64 lo.c, .int .i64 lo.d] 38)) w4.heap.size 38 (cfgCells ln (.slice A4 lg.length c4) lo) := Blk.new w4 _ _
          have HPV := Lib.hid (HP4.out.below hal4)
          have Hcv := Lib.hid (HC4.out.below hal4)
          have HBV := Lib.hid (HB4.out.trans (hal4.mono HB4.out.size))
          have HOV := Lib.hid (own_below HO4.out hal4)
          have HBKV := Lib.hid hbk4
          clear hal4 hbk4 HP4 HC4 HB4 HO4
          generalize w4.heap.size = b4 at *
          generalize w4.alloc (.cells #[.int .i64 ln, .slice A4 lg.length c4, .int .i64 lo.a, .int .i64 lo.b, .int .i64 lo.c, .int .i64 lo.d] 38) = V at *
          have hwV : w.heap.size ≤ V.heap.size := HBV.out.size
          have HS1 : Hid (∀ w', Below V.heap.size V w' → Calls Try.prog 12 #[.agg #[.int .i64 ln, .slice A4 lg.length c4, .int .i64 lo.a, .int .i64 lo.b, .int .i64 lo.c, .int .i64 lo.d], .agg #[.int .i64 ln, .slice Av lg.length cv, .int .i64 lo.a, .int .i64 lo.b, .int .i64 lo.c, .int .i64 lo.d]] w' fun e w'' => e = .returned (.bool true) ∧ Below w'.heap.size w' w'') := fun w' h => by
            have := same17_any ⟨ln, lg, lo⟩ ⟨ln, lg, lo⟩ A4 c4 Av cv w' V.heap.size h.size ((Rd.of_own HOV.out).below h) ((Rd.of_own Hcv.out.own).below h) (by simp only; omega) (by simp only; omega)
            rwa [cfgEqB_refl] at this
          have HLS : Hid (∀ w', Below V.heap.size V w' → Calls Try.prog 8 #[.pointer (some ⟨mm, 0, none⟩)] w' fun e w'' => ∃ s7, e = .returned (Cfg.val ⟨ln, lg, lo⟩ s7) ∧ w''.ownsRow w'.heap.size 3 1 s7 lg.length (ints lg) ∧ Below w'.heap.size w' w'') := fun w' h => by
            have := mlast_any w.heap.size mm s'.cs s'.tk s'.cl w' (HPV.out.below h) (by omega)
            unfold GivesC at this
            rwa [HLN.out] at this
          have HS2 : Hid (∀ (A7 : Option Addr) (c7 : Nat) (w7 w' : World) (b7 : Nat), w7.ownsRow b7 3 1 (.slice A7 lg.length c7) lg.length (ints lg) → Below V.heap.size V w7 → Below w7.heap.size w7 w' → Calls Try.prog 12 #[.agg #[.int .i64 ln, .slice A7 lg.length c7, .int .i64 lo.a, .int .i64 lo.b, .int .i64 lo.c, .int .i64 lo.d], .agg #[.int .i64 ln, .slice Av lg.length cv, .int .i64 lo.a, .int .i64 lo.b, .int .i64 lo.c, .int .i64 lo.d]] w' fun e w'' => e = .returned (.bool true) ∧ Below w'.heap.size w' w'') := fun A7 c7 w7 w' b7 ho h7 h => by
            have := same17_any ⟨ln, lg, lo⟩ ⟨ln, lg, lo⟩ A7 c7 Av cv w' w7.heap.size h.size ((Rd.of_own ho).below h) ((((Rd.of_own Hcv.out.own).below h7).more h7.size).below h) (by simp only; omega) (by simp only; omega)
            rwa [cfgEqB_refl] at this
          go_region_held3 (fun w' => (w'.cell? ⟨b4, 0, none⟩ = some (.int .i64 ln) ∧ w'.cell? ⟨b4, 1, none⟩ = some (.slice A4 lg.length c4) ∧ w'.cell? ⟨b4, 2, none⟩ = some (.int .i64 lo.a) ∧ w'.cell? ⟨b4, 3, none⟩ = some (.int .i64 lo.b) ∧ w'.cell? ⟨b4, 4, none⟩ = some (.int .i64 lo.c) ∧ w'.cell? ⟨b4, 5, none⟩ = some (.int .i64 lo.d)) ∧
              w'.cell? ⟨cb, 0, none⟩ = some (.int .i64 ln) ∧ w'.cell? ⟨cb, 1, none⟩ = some (.slice Av lg.length cv) ∧ w'.cell? ⟨cb, 2, none⟩ = some (.int .i64 lo.a) ∧ w'.cell? ⟨cb, 3, none⟩ = some (.int .i64 lo.b) ∧ w'.cell? ⟨cb, 4, none⟩ = some (.int .i64 lo.c) ∧ w'.cell? ⟨cb, 5, none⟩ = some (.int .i64 lo.d))
            ((refine keep12 HBKV.out Hcv.out.box ?_; simp only [bl_drew, bl_refl, *]))
            (first
              | (go_at_call 12; refine Calls.mono (HS2.out _ _ _ _ _ HO7.out hbl7 (by simp only [bl_drew, bl_refl])) ?_; rintro e w8 ⟨rfl, hb8⟩; have hbl8 : Below V.heap.size V w8 := below_then (by simp only [bl_drew, bl_refl, *]) hb8; clear hb8)
              | (go_at_call 8; refine Calls.mono (HLS.out _ (by simp only [bl_drew, bl_refl, *])) ?_; rintro e w7 ⟨s7, rfl, ho7, hb7⟩; have hbl7 : Below V.heap.size V w7 := below_then (by simp only [bl_drew, bl_refl, *]) hb7; clear hb7; obtain ⟨A7, c7, rfl⟩ := own_shape ho7; have HO7 := Lib.hid ho7; clear ho7; unfold Cfg.val; simp only)
              | (go_at_call 12; refine Calls.mono (HS1.out _ (by simp only [bl_drew, bl_refl])) ?_; rintro e w6 ⟨rfl, hb6⟩; have hbl6 : Below V.heap.size V w6 := below_then (by simp only [bl_drew, bl_refl]) hb6; clear hb6))
          all_goals
            have hfin : Hid (∃ s sv, ChAt w mm cb (k + 1) w8 s sv) := ⟨s', _, HPV.out.below hbl8, by rw [HLN.out]; exact Hcv.out.below hbl8, HBV.out.trans (hbl8.mono hwV), HGN.out, ⟨hnew.1, hnew.2.1, by omega⟩, hcbw⟩
            clear hbl6 hbl7 hbl8
            go_wp2_with fail
            go_roundw
            case rel => exact ⟨k + 1, by omega, by go_num, hfin⟩
            case measure => simp [intOf]; omega
        · obtain rfl : e' = 0 := he
          obtain rfl : now = true := hnow
          have ha1 : (a == 0) = false := by simpa using ha
          clear ha
          have HLN : Hid (s'.cs.getLastD cfg0 = ⟨ln, lg, lo⟩) := by unfold Hid; rw [hsc]; exact HL.out
          have hml := mlast_any w.heap.size mm s'.cs s'.tk s'.cl w3 HP3.out (by omega)
          unfold GivesC at hml
          rw [HLN.out] at hml
          have HML := Lib.hid hml
          have hfld := HFD.out
          clear hml hsc
          go_wp2_with fail
          refine HML.out.mono ?_
          rintro e w5 ⟨s5, rfl, ho5, hb5⟩
          obtain ⟨A5, c5, rfl⟩ := own_shape ho5
          have HPc := Lib.hid (HP3.out.below hb5)
          have HCc := Lib.hid (HC3.out.below hb5)
          have HBc := Lib.hid (HB3.out.trans (hb5.mono hw3))
          have hxl5 : wo.heap.size < w5.heap.size := by have := hb5.size; omega
          have hcb5 : cb < w5.heap.size := HCc.out.box.lt
          clear ho5 hb5 HP3 HC3 HB3 HML q0 q1 q2 q3 q4 q5 HX3
          obtain ⟨q0, q1, q2, q3, q4, q5⟩ := keep6r HCc.out.box
          unfold Cfg.val
          go_upto_region 17 with fail
          clear hfld
          have hgn := good_last HGN.out hnew.2.1
          rw [HLN.out] at hgn
          obtain ⟨hgt, hg4, hck⟩ := hgn
          simp only at hgt hg4
          have hmg := mget_any w.heap.size mm s'.cs s'.tk s'.cl ln w5 HPc.out (by omega)
          unfold GivesCE at hmg
          rw [hgt] at hmg
          simp only at hmg
          have HMG := Lib.hid hmg
          clear hmg hgt hck
          go_wp2_with fail
          refine HMG.out.mono ?_
          rintro e w4 ⟨s4, rfl, ho4, hb4⟩
          obtain ⟨A4, c4, rfl⟩ := own_shape ho4
          have HP4 := Lib.hid (HPc.out.below hb4)
          have HC4 := Lib.hid (HCc.out.below hb4)
          have HB4 := Lib.hid (HBc.out.trans (hb4.mono HBc.out.size))
          have HO4 := Lib.hid ho4
          have hcb4 : cb < w4.heap.size := HC4.out.box.lt
          clear ho4 hb4 HMG q0 q1 q2 q3 q4 q5 HPc HCc HBc
          unfold Cfg.val
          simp only
          go_upto_region 18 with fail
          have hal4 : Below w4.heap.size w4 (w4.alloc (.cells #[.int .i64 ln, .slice A4 lg.length c4, .int .i64 lo.a, .int .i64 lo.b, .int .i64 lo.c, .int .i64 lo.d] 38)) := (Below.refl _ _).alloc (Nat.le_refl _) _
          have hbk4 : Blk (w4.alloc (.cells #[.int .i64 ln, .slice A4 lg.length c4, .int .i64 lo.a, .int .i64 lo.b, .int .i64 lo.c, .int .i64 lo.d] 38)) w4.heap.size 38 (cfgCells ln (.slice A4 lg.length c4) lo) := Blk.new w4 _ _
          have HPV := Lib.hid (HP4.out.below hal4)
          have Hcv := Lib.hid (HC4.out.below hal4)
          have HBV := Lib.hid (HB4.out.trans (hal4.mono HB4.out.size))
          have HOV := Lib.hid (own_below HO4.out hal4)
          have HBKV := Lib.hid hbk4
          clear hal4 hbk4 HP4 HC4 HB4 HO4
          generalize w4.heap.size = b4 at *
          generalize w4.alloc (.cells #[.int .i64 ln, .slice A4 lg.length c4, .int .i64 lo.a, .int .i64 lo.b, .int .i64 lo.c, .int .i64 lo.d] 38) = V at *
          have hwV : w.heap.size ≤ V.heap.size := HBV.out.size
          have HS1 : Hid (∀ w', Below V.heap.size V w' → Calls Try.prog 12 #[.agg #[.int .i64 ln, .slice A4 lg.length c4, .int .i64 lo.a, .int .i64 lo.b, .int .i64 lo.c, .int .i64 lo.d], .agg #[.int .i64 ln, .slice Av lg.length cv, .int .i64 lo.a, .int .i64 lo.b, .int .i64 lo.c, .int .i64 lo.d]] w' fun e w'' => e = .returned (.bool true) ∧ Below w'.heap.size w' w'') := fun w' h => by
            have := same17_any ⟨ln, lg, lo⟩ ⟨ln, lg, lo⟩ A4 c4 Av cv w' V.heap.size h.size ((Rd.of_own HOV.out).below h) ((Rd.of_own Hcv.out.own).below h) (by simp only; omega) (by simp only; omega)
            rwa [cfgEqB_refl] at this
          have HLS : Hid (∀ w', Below V.heap.size V w' → Calls Try.prog 8 #[.pointer (some ⟨mm, 0, none⟩)] w' fun e w'' => ∃ s7, e = .returned (Cfg.val ⟨ln, lg, lo⟩ s7) ∧ w''.ownsRow w'.heap.size 3 1 s7 lg.length (ints lg) ∧ Below w'.heap.size w' w'') := fun w' h => by
            have := mlast_any w.heap.size mm s'.cs s'.tk s'.cl w' (HPV.out.below h) (by omega)
            unfold GivesC at this
            rwa [HLN.out] at this
          have HS2 : Hid (∀ (A7 : Option Addr) (c7 : Nat) (w7 w' : World) (b7 : Nat), w7.ownsRow b7 3 1 (.slice A7 lg.length c7) lg.length (ints lg) → Below V.heap.size V w7 → Below w7.heap.size w7 w' → Calls Try.prog 12 #[.agg #[.int .i64 ln, .slice A7 lg.length c7, .int .i64 lo.a, .int .i64 lo.b, .int .i64 lo.c, .int .i64 lo.d], .agg #[.int .i64 ln, .slice Av lg.length cv, .int .i64 lo.a, .int .i64 lo.b, .int .i64 lo.c, .int .i64 lo.d]] w' fun e w'' => e = .returned (.bool true) ∧ Below w'.heap.size w' w'') := fun A7 c7 w7 w' b7 ho h7 h => by
            have := same17_any ⟨ln, lg, lo⟩ ⟨ln, lg, lo⟩ A7 c7 Av cv w' w7.heap.size h.size ((Rd.of_own ho).below h) ((((Rd.of_own Hcv.out.own).below h7).more h7.size).below h) (by simp only; omega) (by simp only; omega)
            rwa [cfgEqB_refl] at this
          go_region_held3 (fun w' => (w'.cell? ⟨b4, 0, none⟩ = some (.int .i64 ln) ∧ w'.cell? ⟨b4, 1, none⟩ = some (.slice A4 lg.length c4) ∧ w'.cell? ⟨b4, 2, none⟩ = some (.int .i64 lo.a) ∧ w'.cell? ⟨b4, 3, none⟩ = some (.int .i64 lo.b) ∧ w'.cell? ⟨b4, 4, none⟩ = some (.int .i64 lo.c) ∧ w'.cell? ⟨b4, 5, none⟩ = some (.int .i64 lo.d)) ∧
              w'.cell? ⟨cb, 0, none⟩ = some (.int .i64 ln) ∧ w'.cell? ⟨cb, 1, none⟩ = some (.slice Av lg.length cv) ∧ w'.cell? ⟨cb, 2, none⟩ = some (.int .i64 lo.a) ∧ w'.cell? ⟨cb, 3, none⟩ = some (.int .i64 lo.b) ∧ w'.cell? ⟨cb, 4, none⟩ = some (.int .i64 lo.c) ∧ w'.cell? ⟨cb, 5, none⟩ = some (.int .i64 lo.d))
            ((refine keep12 HBKV.out Hcv.out.box ?_; simp only [bl_drew, bl_refl, *]))
            (first
              | (go_at_call 12; refine Calls.mono (HS2.out _ _ _ _ _ HO7.out hbl7 (by simp only [bl_drew, bl_refl])) ?_; rintro e w8 ⟨rfl, hb8⟩; have hbl8 : Below V.heap.size V w8 := below_then (by simp only [bl_drew, bl_refl, *]) hb8; clear hb8)
              | (go_at_call 8; refine Calls.mono (HLS.out _ (by simp only [bl_drew, bl_refl, *])) ?_; rintro e w7 ⟨s7, rfl, ho7, hb7⟩; have hbl7 : Below V.heap.size V w7 := below_then (by simp only [bl_drew, bl_refl, *]) hb7; clear hb7; obtain ⟨A7, c7, rfl⟩ := own_shape ho7; have HO7 := Lib.hid ho7; clear ho7; unfold Cfg.val; simp only)
              | (go_at_call 12; refine Calls.mono (HS1.out _ (by simp only [bl_drew, bl_refl])) ?_; rintro e w6 ⟨rfl, hb6⟩; have hbl6 : Below V.heap.size V w6 := below_then (by simp only [bl_drew, bl_refl]) hb6; clear hb6))
          all_goals
            have hfin : Hid (∃ s sv, ChAt w mm cb (k + 1) w8 s sv) := ⟨s', _, HPV.out.below hbl8, by rw [HLN.out]; exact Hcv.out.below hbl8, HBV.out.trans (hbl8.mono hwV), HGN.out, ⟨hnew.1, hnew.2.1, by omega⟩, hcbw⟩
            clear hbl6 hbl7 hbl8
            go_wp2_with fail
            go_roundw
            case rel => exact ⟨k + 1, by omega, by go_num, hfin⟩
            case measure => simp [intOf]; omega
        · obtain rfl : e' = 0 := he
          obtain rfl : now = true := hnow
          obtain rfl : a = 0 := ha
          have HRN : Hid (∀ w1 : World, Rd w1 w1.heap.size 1 (.slice Av lg.length cv) lg.length (ints lg) → Calls Try.prog 9 #[.agg #[.int .i64 ln, .slice Av lg.length cv, .int .i64 lo.a, .int .i64 lo.b, .int .i64 lo.c, .int .i64 lo.d], .agg #[.int .i64 x.kind, .int .i64 x.group, .int .i64 x.shard]] w1 fun e w' =>
            ∃ s', e = .returned (.tuple #[(nextS ⟨ln, lg, lo⟩ x).1.val s', .int .i64 (nextS ⟨ln, lg, lo⟩ x).2]) ∧ w'.ownsRow w1.heap.size 3 1 s' (nextS ⟨ln, lg, lo⟩ x).1.gs.length (ints (nextS ⟨ln, lg, lo⟩ x).1.gs) ∧ Below w1.heap.size w1 w') := fun w1 h => rnext_any ⟨ln, lg, lo⟩ x _ w1 h (by simp only; omega)
          generalize nextS ⟨ln, lg, lo⟩ x = r at *
          obtain ⟨⟨rn, rg, ro⟩, re⟩ := r
          simp only at HRN hn0 hn1
          subst hn0
          have HLN := Lib.hid hn1
          clear hn1
          go_upto_region 11 with fail
          clear q0 q1 q2 q3 q4 q5
          have HRX : Hid (∀ W' : World, Below w3.heap.size w3 W' → Rd W' W'.heap.size 1 (.slice Av lg.length cv) lg.length (ints lg)) := fun W' h => ((Rd.of_own HC3.out.own).below h).more h.size
          go_cut [11, 12] (fun vc ve wc => NxMid w3 (⟨rn, rg, ro⟩, 0) vc ve wc)
          case first =>
            go_region_held3 (fun w' => w'.cell? ⟨cb, 0, none⟩ = some (.int .i64 ln) ∧ w'.cell? ⟨cb, 1, none⟩ = some (.slice Av lg.length cv) ∧ w'.cell? ⟨cb, 2, none⟩ = some (.int .i64 lo.a) ∧ w'.cell? ⟨cb, 3, none⟩ = some (.int .i64 lo.b) ∧ w'.cell? ⟨cb, 4, none⟩ = some (.int .i64 lo.c) ∧ w'.cell? ⟨cb, 5, none⟩ = some (.int .i64 lo.d) ∧ w'.cell? ⟨wo.heap.size, 2, none⟩ = some (.int .i64 x.kind) ∧ w'.cell? ⟨wo.heap.size, 3, none⟩ = some (.int .i64 x.group) ∧ w'.cell? ⟨wo.heap.size, 4, none⟩ = some (.int .i64 x.shard))
              ((refine keepz HC3.out.box HX3.out ?_; simp only [bl_drew, bl_alloc, bl_refl, bl_six, *, Nat.le_refl]))
              (first
                | (go_at_call 10; refine Calls.mono (ref17_any x _) ?_; rintro e w4 ⟨rfl, hb4⟩; have hbl : Below w3.heap.size w3 w4 := below_then (by simp only [bl_drew, bl_alloc, bl_refl]) hb4; have hls := hbl.size; (try (with_reducible have hzC := rblkC hb4)))
                | (go_at_call 9; refine Calls.mono (HRN.out _ (HRX.out _ (by simp only [bl_drew, bl_alloc, hbl]))) ?_; rintro e w5 ⟨s3, rfl, hown3, hb3⟩; have hbl2 : Below w3.heap.size w3 w5 := below_then (by simp only [bl_drew, bl_alloc, hbl]) hb3; have hls2 := hbl2.size; have hown4 := own_weaken (base' := w3.heap.size) hown3 (by first | (with_reducible assumption) | (simp only [World.size_alloc]; omega)); obtain ⟨A3, c3, rfl⟩ := own_shape hown3; (try (with_reducible have hzB := rblkB2 hb3)); (try (have hzB := hzC.below hb3 hzC.lt)); (try (obtain ⟨z0, z1, z2, z3, z4, z5⟩ := keep6 hzB (Below.refl _ _); have f0 := hzB.frozen 0; have f1 := hzB.frozen 1; have f2 := hzB.frozen 2; have f3 := hzB.frozen 3; have f4 := hzB.frozen 4; have f5 := hzB.frozen 5)); (try (have HZB := Lib.hid hzB; clear hzB)); (try (have HZC := Lib.hid hzC; clear hzC)); have HOWN3 := Lib.hid hown4; clear hown3 hown4; unfold Cfg.val))
            · go_wp2_with fail
              go_meet
              case rel => exact ⟨_, _, rfl, rfl, below_al hbl2 _, hls2, Blk.new w5 _ _, HOWN3.out.alloc _⟩
            · go_wp2_with fail
              go_meet
              case rel => exact ⟨_, _, rfl, rfl, six_below hbl2 hls _ _ _ _ _ _, hls, blk6 HZB.out rn _ ro, rsix_own HZB.out HOWN3.out _ _ _ _ _ _⟩
            · go_wp2_with fail
              go_meet
              case rel => exact ⟨_, _, rfl, rfl, six_below hbl2 (Nat.le_refl _) _ _ _ _ _ _, Nat.le_refl _, blk6 HZB.out rn _ ro, rsix_own HZB.out HOWN3.out _ _ _ _ _ _⟩
          case rest =>
            clear HRN HRX
            obtain ⟨b, s2, rfl, rfl, hbW, hWb, hkb, hown⟩ := hcut
            obtain ⟨A3, c3, rfl⟩ := own_shape hown
            obtain ⟨k0, k1, k2, k3, k4, k5⟩ := keep6 hkb (Below.refl _ _)
            have hcc := HC3.out.below hbW
            obtain ⟨q0, q1, q2, q3, q4, q5⟩ := keep6r hcc.box
            have f0 := hcc.box.frozen 0
            have f1 := hcc.box.frozen 1
            have f2 := hcc.box.frozen 2
            have f3 := hcc.box.frozen 3
            have f4 := hcc.box.frozen 4
            have f5 := hcc.box.frozen 5
            have hne : b ≠ cb := by omega
            have hne2 : cb ≠ b := by omega
            have HPw := Lib.hid (HP3.out.below hbW)
            have HCw := Lib.hid hcc
            have HBw := Lib.hid (HB3.out.trans (hbW.mono hw3))
            have HOw := Lib.hid (own_weaken (base' := w.heap.size) hown hw3)
            clear hbW hkb hown hcc HP3 HC3 HB3 HX3
            go_upto_region 17 with fail
            have hc6 : Chg (fun i => i = cb) wc ((((((wc.setCell ⟨cb, 0, none⟩ (.int .i64 rn)).setCell ⟨cb, 1, none⟩ (.slice A3 rg.length c3)).setCell ⟨cb, 2, none⟩ (.int .i64 ro.a)).setCell ⟨cb, 3, none⟩ (.int .i64 ro.b)).setCell ⟨cb, 4, none⟩ (.int .i64 ro.c)).setCell ⟨cb, 5, none⟩ (.int .i64 ro.d)) := (((((((Chg.refl (fun i => i = cb) wc).setCell (p := ⟨cb, 0, none⟩) (fun _ => rfl) _).setCell (p := ⟨cb, 1, none⟩) (fun _ => rfl) _).setCell (p := ⟨cb, 2, none⟩) (fun _ => rfl) _).setCell (p := ⟨cb, 3, none⟩) (fun _ => rfl) _).setCell (p := ⟨cb, 4, none⟩) (fun _ => rfl) _).setCell (p := ⟨cb, 5, none⟩) (fun _ => rfl) _)
            have HPc := Lib.hid (HPw.out.chg hc6 (fun i hi e => ⟨_, _, e ▸ HCw.out.box, by decide, by decide, by decide, by decide, by decide⟩))
            have HCc : Hid (CBox w.heap.size _ cb (.slice A3 rg.length c3) ⟨rn, rg, ro⟩) := ⟨blk6 HCw.out.box rn (.slice A3 rg.length c3) ro, rsix_own HCw.out.box HOw.out _ _ _ _ _ _⟩
            have HBc := Lib.hid (((Chg.of_below HBw.out).trans (F := fun i => i = cb) hc6 (fun i _ h => h)).to_below (by intro i hi e; omega) (Nat.le_refl _))
            have hcbw6 : cb < ((((((wc.setCell ⟨cb, 0, none⟩ (.int .i64 rn)).setCell ⟨cb, 1, none⟩ (.slice A3 rg.length c3)).setCell ⟨cb, 2, none⟩ (.int .i64 ro.a)).setCell ⟨cb, 3, none⟩ (.int .i64 ro.b)).setCell ⟨cb, 4, none⟩ (.int .i64 ro.c)).setCell ⟨cb, 5, none⟩ (.int .i64 ro.d)).heap.size := HCc.out.box.lt
            clear hc6 q0 q1 q2 q3 q4 q5 k0 k1 k2 k3 k4 k5 f0 f1 f2 f3 f4 f5
            generalize ((((((wc.setCell ⟨cb, 0, none⟩ (.int .i64 rn)).setCell ⟨cb, 1, none⟩ (.slice A3 rg.length c3)).setCell ⟨cb, 2, none⟩ (.int .i64 ro.a)).setCell ⟨cb, 3, none⟩ (.int .i64 ro.b)).setCell ⟨cb, 4, none⟩ (.int .i64 ro.c)).setCell ⟨cb, 5, none⟩ (.int .i64 ro.d)) = w5 at *
            obtain ⟨q0, q1, q2, q3, q4, q5⟩ := keep6r HCc.out.box
            have hgn := good_last HGN.out hnew.2.1
            rw [HLN.out] at hgn
            obtain ⟨hgt, hg4, hck⟩ := hgn
            simp only at hgt hg4
            have hmg := mget_any w.heap.size mm s'.cs s'.tk s'.cl rn w5 HPc.out (by omega)
            unfold GivesCE at hmg
            rw [hgt] at hmg
            simp only at hmg
            have HMG := Lib.hid hmg
            clear hmg hgt hck
            go_wp2_with fail
            refine HMG.out.mono ?_
            rintro e w4 ⟨s4, rfl, ho4, hb4⟩
            obtain ⟨A4, c4, rfl⟩ := own_shape ho4
            have HP4 := Lib.hid (HPc.out.below hb4)
            have HC4 := Lib.hid (HCc.out.below hb4)
            have HB4 := Lib.hid (HBc.out.trans (hb4.mono HBc.out.size))
            have HO4 := Lib.hid ho4
            have hcb4 : cb < w4.heap.size := HC4.out.box.lt
            clear ho4 hb4 HMG q0 q1 q2 q3 q4 q5 HPc HCc HBc
            unfold Cfg.val
            simp only
            go_upto_region 18 with fail
            have hal4 : Below w4.heap.size w4 (w4.alloc (.cells #[.int .i64 rn, .slice A4 rg.length c4, .int .i64 ro.a, .int .i64 ro.b, .int .i64 ro.c, .int .i64 ro.d] 38)) := (Below.refl _ _).alloc (Nat.le_refl _) _
            have hbk4 : Blk (w4.alloc (.cells #[.int .i64 rn, .slice A4 rg.length c4, .int .i64 ro.a, .int .i64 ro.b, .int .i64 ro.c, .int .i64 ro.d] 38)) w4.heap.size 38 (cfgCells rn (.slice A4 rg.length c4) ro) := Blk.new w4 _ _
            have HPV := Lib.hid (HP4.out.below hal4)
            have Hc3 := Lib.hid (HC4.out.below hal4)
            have HBV := Lib.hid (HB4.out.trans (hal4.mono HB4.out.size))
            have HOV := Lib.hid (own_below HO4.out hal4)
            have HBKV := Lib.hid hbk4
            clear hal4 hbk4 HP4 HC4 HB4 HO4
            generalize w4.heap.size = b4 at *
            generalize w4.alloc (.cells #[.int .i64 rn, .slice A4 rg.length c4, .int .i64 ro.a, .int .i64 ro.b, .int .i64 ro.c, .int .i64 ro.d] 38) = V at *
            have hwV : w.heap.size ≤ V.heap.size := HBV.out.size
            have HS1 : Hid (∀ w', Below V.heap.size V w' → Calls Try.prog 12 #[.agg #[.int .i64 rn, .slice A4 rg.length c4, .int .i64 ro.a, .int .i64 ro.b, .int .i64 ro.c, .int .i64 ro.d], .agg #[.int .i64 rn, .slice A3 rg.length c3, .int .i64 ro.a, .int .i64 ro.b, .int .i64 ro.c, .int .i64 ro.d]] w' fun e w'' => e = .returned (.bool true) ∧ Below w'.heap.size w' w'') := fun w' h => by
              have := same17_any ⟨rn, rg, ro⟩ ⟨rn, rg, ro⟩ A4 c4 A3 c3 w' V.heap.size h.size ((Rd.of_own HOV.out).below h) ((Rd.of_own Hc3.out.own).below h) (by simp only; omega) (by simp only; omega)
              rwa [cfgEqB_refl] at this
            have HLS : Hid (∀ w', Below V.heap.size V w' → Calls Try.prog 8 #[.pointer (some ⟨mm, 0, none⟩)] w' fun e w'' => ∃ s7, e = .returned (Cfg.val ⟨rn, rg, ro⟩ s7) ∧ w''.ownsRow w'.heap.size 3 1 s7 rg.length (ints rg) ∧ Below w'.heap.size w' w'') := fun w' h => by
              have := mlast_any w.heap.size mm s'.cs s'.tk s'.cl w' (HPV.out.below h) (by omega)
              unfold GivesC at this
              rwa [HLN.out] at this
            have HS2 : Hid (∀ (A7 : Option Addr) (c7 : Nat) (w7 w' : World) (b7 : Nat), w7.ownsRow b7 3 1 (.slice A7 rg.length c7) rg.length (ints rg) → Below V.heap.size V w7 → Below w7.heap.size w7 w' → Calls Try.prog 12 #[.agg #[.int .i64 rn, .slice A7 rg.length c7, .int .i64 ro.a, .int .i64 ro.b, .int .i64 ro.c, .int .i64 ro.d], .agg #[.int .i64 rn, .slice A3 rg.length c3, .int .i64 ro.a, .int .i64 ro.b, .int .i64 ro.c, .int .i64 ro.d]] w' fun e w'' => e = .returned (.bool true) ∧ Below w'.heap.size w' w'') := fun A7 c7 w7 w' b7 ho h7 h => by
              have := same17_any ⟨rn, rg, ro⟩ ⟨rn, rg, ro⟩ A7 c7 A3 c3 w' w7.heap.size h.size ((Rd.of_own ho).below h) ((((Rd.of_own Hc3.out.own).below h7).more h7.size).below h) (by simp only; omega) (by simp only; omega)
              rwa [cfgEqB_refl] at this
            go_region_held3 (fun w' => (w'.cell? ⟨b4, 0, none⟩ = some (.int .i64 rn) ∧ w'.cell? ⟨b4, 1, none⟩ = some (.slice A4 rg.length c4) ∧ w'.cell? ⟨b4, 2, none⟩ = some (.int .i64 ro.a) ∧ w'.cell? ⟨b4, 3, none⟩ = some (.int .i64 ro.b) ∧ w'.cell? ⟨b4, 4, none⟩ = some (.int .i64 ro.c) ∧ w'.cell? ⟨b4, 5, none⟩ = some (.int .i64 ro.d)) ∧
                w'.cell? ⟨cb, 0, none⟩ = some (.int .i64 rn) ∧ w'.cell? ⟨cb, 1, none⟩ = some (.slice A3 rg.length c3) ∧ w'.cell? ⟨cb, 2, none⟩ = some (.int .i64 ro.a) ∧ w'.cell? ⟨cb, 3, none⟩ = some (.int .i64 ro.b) ∧ w'.cell? ⟨cb, 4, none⟩ = some (.int .i64 ro.c) ∧ w'.cell? ⟨cb, 5, none⟩ = some (.int .i64 ro.d))
              ((refine keep12 HBKV.out Hc3.out.box ?_; simp only [bl_drew, bl_refl, *]))
              (first
                | (go_at_call 12; refine Calls.mono (HS2.out _ _ _ _ _ HO7.out hbl7 (by simp only [bl_drew, bl_refl])) ?_; rintro e w8 ⟨rfl, hb8⟩; have hbl8 : Below V.heap.size V w8 := below_then (by simp only [bl_drew, bl_refl, *]) hb8; clear hb8)
                | (go_at_call 8; refine Calls.mono (HLS.out _ (by simp only [bl_drew, bl_refl, *])) ?_; rintro e w7 ⟨s7, rfl, ho7, hb7⟩; have hbl7 : Below V.heap.size V w7 := below_then (by simp only [bl_drew, bl_refl, *]) hb7; clear hb7; obtain ⟨A7, c7, rfl⟩ := own_shape ho7; have HO7 := Lib.hid ho7; clear ho7; unfold Cfg.val; simp only)
                | (go_at_call 12; refine Calls.mono (HS1.out _ (by simp only [bl_drew, bl_refl])) ?_; rintro e w6 ⟨rfl, hb6⟩; have hbl6 : Below V.heap.size V w6 := below_then (by simp only [bl_drew, bl_refl]) hb6; clear hb6))
            all_goals
              have hfin : Hid (∃ s sv, ChAt w mm cb (k + 1) w8 s sv) := ⟨s', _, HPV.out.below hbl8, by rw [HLN.out]; exact Hc3.out.below hbl8, HBV.out.trans (hbl8.mono hwV), HGN.out, ⟨hnew.1, hnew.2.1, by omega⟩, hcbw⟩
              clear hbl6 hbl7 hbl8
              go_wp2_with fail
              go_roundw
              case rel => exact ⟨k + 1, by omega, by go_num, hfin⟩
              case measure => simp [intOf]; omega
      · obtain rfl : k = l.length := by omega
        have HB := Lib.hid hO.hb
        clear hO hI
        go_wp2_with fail
        refine (one_any wo).mono ?_
        rintro e w5 ⟨rfl, hb5⟩
        go_wp2_with fail
        go_ret
        exact ⟨rfl, HB.out.trans (hb5.mono HB.out.size)⟩

end Go.Proofs.Ytlhjhngaljgdgaa
