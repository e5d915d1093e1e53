/- Reeve: linked; Compact of what has no two alike beside each other. -/
import Derived.Test.YtgelgjjhpioihaaVe
namespace Go.Proofs.Ytgelgjjhpioihaa
open Go.RowKit Go.Shelf
set_option linter.unusedVariables false
set_option linter.unusedSimpArgs false

theorem keepL {W w' : World} {b : Nat} {num : Int} {s : Value} {o : Own} {g i : Nat} {u : Value} (hc : Blk W b 40 (cfgCells num s o)) (hg : W.cell? ⟨g, i, none⟩ = some u) (h : Below W.heap.size W w') :
    w'.cell? ⟨b, 0, none⟩ = some (.int .i64 num) ∧ w'.cell? ⟨b, 1, none⟩ = some s ∧ w'.cell? ⟨b, 2, none⟩ = some (.int .i64 o.a) ∧ w'.cell? ⟨b, 3, none⟩ = some (.int .i64 o.b) ∧ w'.cell? ⟨b, 4, none⟩ = some (.int .i64 o.c) ∧ w'.cell? ⟨b, 5, none⟩ = some (.int .i64 o.d) ∧ w'.cell? ⟨g, i, none⟩ = some u := by
  obtain ⟨e0, e1, e2, e3, e4, e5⟩ := keep6 hc h
  exact ⟨e0, e1, e2, e3, e4, e5, (h.cell (p := ⟨g, i, none⟩) (World.block_lt_of_cell? _ _ hg)).trans hg⟩

set_option maxHeartbeats 4000000 in
set_option maxRecDepth 100000 in
theorem linked_any (vs : Value) (ps : List CfgV) (w : World) (hs : CRd w w.heap.size vs ps) (hn : ps.length ≤ 1000) (hgd : Good (ps.map (·.1))) :
    Calls Try.prog 26 #[vs] w fun e w' => e = .returned (.int .i64 0) ∧ Below w.heap.size w w' := by
  have HS := Lib.hid hs
  have HGD : Hid (∀ k (h : k < ps.length), checkB ps[k].1 = true ∧ ps[k].1.num = (k : Int)) := fun k h => ⟨hgd.1 _ (List.mem_map.2 ⟨ps[k], List.getElem_mem h, rfl⟩), by have := hgd.2 k (by simpa using h); simpa using this⟩
  obtain ⟨_, A0, cc0, rfl, hncc0, _⟩ := hs.row
  clear hs hgd
  go_enter Try.func26, Try.ntmps26
  go_wp2_with fail
  go_loopw [7] (fun i wr => ∃ k : Nat, k ≤ ps.length ∧ i = .int .i64 k ∧ Hid (Below w.heap.size w wr)) (fun i _ => ps.length - (intOf i).toNat)
  case atStart => exact ⟨0, Nat.zero_le _, rfl, Below.refl _ _⟩
  case round =>
    obtain ⟨k, hk, rfl, hq⟩ := hrel
    by_cases hlt : k < ps.length
    · obtain ⟨g, off, c', hV, hgl, q0, q1, q2, q3, q4, q5⟩ := HS.out.get hlt
      injection hV with hA _ hcc
      subst hA hcc
      have k0 := (hq.out.cell (p := ⟨g, off + k * 6, none⟩) hgl).trans q0
      have k1 := (hq.out.cell (p := ⟨g, off + k * 6 + 1, none⟩) hgl).trans q1
      have k2 := (hq.out.cell (p := ⟨g, off + k * 6 + 2, none⟩) hgl).trans q2
      have k3 := (hq.out.cell (p := ⟨g, off + k * 6 + 3, none⟩) hgl).trans q3
      have k4 := (hq.out.cell (p := ⟨g, off + k * 6 + 4, none⟩) hgl).trans q4
      have k5 := (hq.out.cell (p := ⟨g, off + k * 6 + 5, none⟩) hgl).trans q5
      clear q0 q1 q2 q3 q4 q5
      have HPM := Lib.hid (List.getElem_mem hlt)
      obtain ⟨hck, hnum⟩ := HGD.out k hlt
      have HPV : Hid (∀ m, m + 1 = k → ∃ u, u = Value.int .i64 (m : Int) ∧ wr.cell? ⟨g, off + m * 6, none⟩ = some u) := by
        intro m hm
        obtain ⟨g', off', c'', hV, hgl', q0, _⟩ := HS.out.get (k := m) (by omega)
        injection hV with hA _ hcc
        injection hA with hA
        injection hA with hA1 hA2
        subst hA1 hA2
        exact ⟨_, rfl, by rw [← (HGD.out m (by omega)).2]; exact (hq.out.cell (p := ⟨g, off + m * 6, none⟩) hgl').trans q0⟩
      generalize ps[k] = p at *
      obtain ⟨cf, sv⟩ := p
      have hrp := HS.out.own _ HPM.out
      obtain ⟨_, As, cS, hsv, hcS, _⟩ := id hrp
      have hg4 := (check_bounds hck).2.2.1
      simp only at hsv hg4 k0 k1 k2 k3 k4 k5 hrp hck hnum
      subst hsv
      obtain ⟨cn, cg, co⟩ := cf
      simp only at hg4 k0 k1 k2 k3 k4 k5 hrp hck hnum
      subst hnum
      have hkr : Hid (∀ w1, Below (wr.alloc (.cells #[.int .i64 (k : Int), .slice As cg.length cS, .int .i64 co.a, .int .i64 co.b, .int .i64 co.c, .int .i64 co.d] 40)).heap.size (wr.alloc (.cells #[.int .i64 (k : Int), .slice As cg.length cS, .int .i64 co.a, .int .i64 co.b, .int .i64 co.c, .int .i64 co.d] 40)) w1 → Rd w1 w1.heap.size 1 (.slice As cg.length cS) cg.length (ints cg)) := fun w1 h => by
        have hb := hq.out.trans (((Below.refl _ wr).alloc (Nat.le_refl _) _).trans (h.mono (by simp)) |>.mono hq.out.size)
        exact (hrp.below hb).more hb.size
      have HCK : Hid (∀ w1, Below (wr.alloc (.cells #[.int .i64 (k : Int), .slice As cg.length cS, .int .i64 co.a, .int .i64 co.b, .int .i64 co.c, .int .i64 co.d] 40)).heap.size (wr.alloc (.cells #[.int .i64 (k : Int), .slice As cg.length cS, .int .i64 co.a, .int .i64 co.b, .int .i64 co.c, .int .i64 co.d] 40)) w1 → Calls Try.prog 33 #[.agg #[.int .i64 (k : Int), .slice As cg.length cS, .int .i64 co.a, .int .i64 co.b, .int .i64 co.c, .int .i64 co.d]] w1 fun e w' => e = .returned (.int .i64 0) ∧ Below w1.heap.size w1 w') := fun w1 h => by
        have := check_any ⟨k, cg, co⟩ (.slice As cg.length cS) w1 w1.heap.size (Nat.le_refl _) (hkr.out w1 h) (by show cg.length ≤ _; omega)
        rw [hck] at this
        exact this
      have hbk : Blk (wr.alloc (.cells #[.int .i64 (k : Int), .slice As cg.length cS, .int .i64 co.a, .int .i64 co.b, .int .i64 co.c, .int .i64 co.d] 40)) wr.heap.size 40 (cfgCells k (.slice As cg.length cS) co) := Blk.new wr _ _
      have hbl := (Below.refl _ wr).alloc (Nat.le_refl _) (.cells #[.int .i64 (k : Int), .slice As cg.length cS, .int .i64 co.a, .int .i64 co.b, .int .i64 co.c, .int .i64 co.d] 40)
      have HBW := Lib.hid (hq.out.trans (hbl.mono hq.out.size))
      have HPW : Hid (∀ m, m + 1 = k → (wr.alloc (.cells #[.int .i64 (k : Int), .slice As cg.length cS, .int .i64 co.a, .int .i64 co.b, .int .i64 co.c, .int .i64 co.d] 40)).cell? ⟨g, off + m * 6, none⟩ = some (.int .i64 (m : Int))) := fun m hm => by
        obtain ⟨u, rfl, hu⟩ := HPV.out m hm
        exact (hbl.cell (p := ⟨g, off + m * 6, none⟩) (World.block_lt_of_cell? _ _ hu)).trans hu
      have HBK := Lib.hid hbk
      have hk0 : (0 : Int) ≤ (k : Int) := by omega
      have hk1 : (k : Int) < (ps.length : Int) := by omega
      clear hrp hck hkr HPV hbl hbk
      rcases Nat.eq_zero_or_pos k with h0 | h0
      · have hd1 : decide (0 < k) = false := by rw [decide_eq_false_iff_not]; omega
        have hd2 : decide ((0 : Int) < (k : Int)) = false := by rw [decide_eq_false_iff_not]; omega
        clear h0
        go_upto_region 4 with fail
        clear k0 k1 k2 k3 k4 k5
        generalize wr.heap.size = bx at *
        generalize wr.alloc (.cells #[.int .i64 (k : Int), .slice As cg.length cS, .int .i64 co.a, .int .i64 co.b, .int .i64 co.c, .int .i64 co.d] 40) = W at *
        have hWW : w.heap.size ≤ W.heap.size := HBW.out.size
        refine wp_region_held_drew (S := (fun w' => w'.cell? ⟨bx, 0, none⟩ = some (.int .i64 (k : Int)) ∧ w'.cell? ⟨bx, 1, none⟩ = some (.slice As cg.length cS) ∧ w'.cell? ⟨bx, 2, none⟩ = some (.int .i64 co.a) ∧ w'.cell? ⟨bx, 3, none⟩ = some (.int .i64 co.b) ∧ w'.cell? ⟨bx, 4, none⟩ = some (.int .i64 co.c) ∧ w'.cell? ⟨bx, 5, none⟩ = some (.int .i64 co.d))) (by kernel_rfl) (keep6 HBK.out (by simp only [bl_drew, bl_refl])) (fun hHeld => ?_)
        refine wpAnyH_take (i := 0) (oi := ⟨_, _, _, _, _, _⟩) (v := ?_) rfl (by kernel_rfl) (by kernel_rfl) (by kernel_rfl) (fun _ _ _ h => h) (Or.inl ⟨by rfl, ?_⟩) (by assumption) ?_
        rotate_left
        · intro w hSw
          try dsimp only at hSw
          go_simp
          rfl
        simp only [Act.put, List.setIfInBounds_toArray, List.set_cons_zero, List.set_cons_succ]
        refine wpAnyH_ready (rs := [1]) (by kernel_rfl) (by simp) ?_
        refine AllReadyH.cons (o := ⟨_, _, _, _, _, _⟩) rfl (fun K hK => ?_) AllReadyH.nil
        go_simp
        refine Calls.mono (HCK.out _ (by simp only [bl_drew, bl_refl])) ?_
        rintro e w2 ⟨rfl, hb2⟩
        have hbl2 : Below W.heap.size W w2 := below_then (by simp only [bl_drew, bl_refl]) hb2
        clear hb2
        refine hK.out _ _ (keep6 HBK.out hbl2) (fun hHeld2 => ?_)
        clear hK K hHeld
        refine wpAnyH_take (i := 2) (oi := ⟨_, _, _, _, _, _⟩) (v := ?_) rfl (by kernel_rfl) (by kernel_rfl) (by kernel_rfl) (fun _ _ _ h => h) (Or.inl ⟨by rfl, ?_⟩) (by assumption) ?_
        rotate_left
        · intro w hSw; try dsimp only at hSw
          first | (go_simp; done) | (go_simp; rfl)
        simp only [Act.put, List.setIfInBounds_toArray, List.set_cons_zero, List.set_cons_succ]
        refine wpAnyH_take (i := 3) (oi := ⟨_, _, _, _, _, _⟩) (v := ?_) rfl (by kernel_rfl) (by kernel_rfl) (by kernel_rfl) (fun _ _ _ h => h) (Or.inl ⟨by rfl, ?_⟩) (by assumption) ?_
        rotate_left
        · intro w hSw; try dsimp only at hSw
          first | (go_simp; done) | (go_simp; rfl)
        simp only [Act.put, List.setIfInBounds_toArray, List.set_cons_zero, List.set_cons_succ]
        refine wpAnyH_take (i := 4) (oi := ⟨_, _, _, _, _, _⟩) (v := ?_) rfl (by kernel_rfl) (by kernel_rfl) (by kernel_rfl) (fun _ _ _ h => h) (Or.inl ⟨by rfl, ?_⟩) (by assumption) ?_
        rotate_left
        · intro w hSw; try dsimp only at hSw
          first | (go_simp; done) | (go_simp; rfl)
        simp only [Act.put, List.setIfInBounds_toArray, List.set_cons_zero, List.set_cons_succ]
        refine wpAnyH_take (i := 5) (oi := ⟨_, _, _, _, _, _⟩) (v := ?_) rfl (by kernel_rfl) (by kernel_rfl) (by kernel_rfl) (fun _ _ _ h => h) (Or.inl ⟨by rfl, ?_⟩) (by assumption) ?_
        rotate_left
        · intro w hSw; try dsimp only at hSw
          first | (go_simp; done) | (go_simp; rfl)
        simp only [Act.put, List.setIfInBounds_toArray, List.set_cons_zero, List.set_cons_succ]
        refine wpAnyH_take (i := 6) (oi := ⟨_, _, _, _, _, _⟩) (v := ?_) rfl (by kernel_rfl) (by kernel_rfl) (by kernel_rfl) (fun _ _ _ h => h) (Or.inl ⟨by rfl, ?_⟩) (by assumption) ?_
        rotate_left
        · intro w hSw; try dsimp only at hSw
          first | (go_simp; done) | (go_simp; rfl)
        simp only [Act.put, List.setIfInBounds_toArray, List.set_cons_zero, List.set_cons_succ]
        refine wpAnyH_take (i := 7) (oi := ⟨_, _, _, _, _, _⟩) (v := undef) rfl (by kernel_rfl) (by kernel_rfl) (by kernel_rfl) (fun _ _ _ h => h) (Or.inr ⟨by rfl, rfl⟩) (by assumption) ?_
        simp only [Act.put, List.setIfInBounds_toArray, List.set_cons_zero, List.set_cons_succ]
        refine wpAnyH_take (i := 8) (oi := ⟨_, _, _, _, _, _⟩) (v := undef) rfl (by kernel_rfl) (by kernel_rfl) (by kernel_rfl) (fun _ _ _ h => h) (Or.inr ⟨by rfl, rfl⟩) (by assumption) ?_
        simp only [Act.put, List.setIfInBounds_toArray, List.set_cons_zero, List.set_cons_succ]
        refine wpAnyH_take (i := 9) (oi := ⟨_, _, _, _, _, _⟩) (v := undef) rfl (by kernel_rfl) (by kernel_rfl) (by kernel_rfl) (fun _ _ _ h => h) (Or.inr ⟨by rfl, rfl⟩) (by assumption) ?_
        simp only [Act.put, List.setIfInBounds_toArray, List.set_cons_zero, List.set_cons_succ]
        refine wpAnyH_take (i := 10) (oi := ⟨_, _, _, _, _, _⟩) (v := undef) rfl (by kernel_rfl) (by kernel_rfl) (by kernel_rfl) (fun _ _ _ h => h) (Or.inr ⟨by rfl, rfl⟩) (by assumption) ?_
        simp only [Act.put, List.setIfInBounds_toArray, List.set_cons_zero, List.set_cons_succ]
        refine wpAnyH_take (i := 11) (oi := ⟨_, _, _, _, _, _⟩) (v := undef) rfl (by kernel_rfl) (by kernel_rfl) (by kernel_rfl) (fun _ _ _ h => h) (Or.inr ⟨by rfl, rfl⟩) (by assumption) ?_
        simp only [Act.put, List.setIfInBounds_toArray, List.set_cons_zero, List.set_cons_succ]
        refine wpAnyH_take (i := 12) (oi := ⟨_, _, _, _, _, _⟩) (v := undef) rfl (by kernel_rfl) (by kernel_rfl) (by kernel_rfl) (fun _ _ _ h => h) (Or.inr ⟨by rfl, rfl⟩) (by assumption) ?_
        simp only [Act.put, List.setIfInBounds_toArray, List.set_cons_zero, List.set_cons_succ]
        refine wpAnyH_take (i := 13) (oi := ⟨_, _, _, _, _, _⟩) (v := undef) rfl (by kernel_rfl) (by kernel_rfl) (by kernel_rfl) (fun _ _ _ h => h) (Or.inr ⟨by rfl, rfl⟩) (by assumption) ?_
        simp only [Act.put, List.setIfInBounds_toArray, List.set_cons_zero, List.set_cons_succ]
        refine wpAnyH_take (i := 14) (oi := ⟨_, _, _, _, _, _⟩) (v := undef) rfl (by kernel_rfl) (by kernel_rfl) (by kernel_rfl) (fun _ _ _ h => h) (Or.inr ⟨by rfl, rfl⟩) (by assumption) ?_
        simp only [Act.put, List.setIfInBounds_toArray, List.set_cons_zero, List.set_cons_succ]
        refine wpAnyH_take (i := 15) (oi := ⟨_, _, _, _, _, _⟩) (v := undef) rfl (by kernel_rfl) (by kernel_rfl) (by kernel_rfl) (fun _ _ _ h => h) (Or.inr ⟨by rfl, rfl⟩) (by assumption) ?_
        simp only [Act.put, List.setIfInBounds_toArray, List.set_cons_zero, List.set_cons_succ]
        refine wpAnyH_take (i := 16) (oi := ⟨_, _, _, _, _, _⟩) (v := undef) rfl (by kernel_rfl) (by kernel_rfl) (by kernel_rfl) (fun _ _ _ h => h) (Or.inr ⟨by rfl, rfl⟩) (by assumption) ?_
        simp only [Act.put, List.setIfInBounds_toArray, List.set_cons_zero, List.set_cons_succ]
        refine wpAnyH_take (i := 17) (oi := ⟨_, _, _, _, _, _⟩) (v := ?_) rfl (by kernel_rfl) (by kernel_rfl) (by kernel_rfl) (fun _ _ _ h => h) (Or.inl ⟨by rfl, ?_⟩) (by assumption) ?_
        rotate_left
        · intro w hSw; try dsimp only at hSw
          first | (go_simp; done) | (go_simp; rfl)
        simp only [Act.put, List.setIfInBounds_toArray, List.set_cons_zero, List.set_cons_succ]
        refine wpAnyH_take (i := 18) (oi := ⟨_, _, _, _, _, _⟩) (v := ?_) rfl (by kernel_rfl) (by kernel_rfl) (by kernel_rfl) (fun _ _ _ h => h) (Or.inl ⟨by rfl, ?_⟩) (by assumption) ?_
        rotate_left
        · intro w hSw; try dsimp only at hSw
          first | (go_simp; done) | (go_simp; rfl)
        simp only [Act.put, List.setIfInBounds_toArray, List.set_cons_zero, List.set_cons_succ]
        refine wpAnyH_done (by kernel_rfl) ?_ _
        have hfin : Hid (Below w.heap.size w w2) := HBW.out.trans (hbl2.mono hWW)
        clear hbl2 hHeld2
        go_wp2_with fail
        go_roundw
        case rel => exact ⟨k + 1, by omega, by go_num, hfin.out⟩
        case measure => simp [intOf]; omega
      · obtain ⟨m, hm⟩ : ∃ m, m + 1 = k := ⟨k - 1, by omega⟩
        have hd2 : (0 : Int) < (k : Int) := by omega
        have hsub : IntKind.i64.wrap ((k : Int) - 1) = (m : Int) := by rw [IntKind.wrap_i64]; omega
        have hm0 : (0 : Int) ≤ (m : Int) := by omega
        have hm1 : (m : Int) < (ps.length : Int) := by omega
        have HPX0 := Lib.hid (HPW.out m hm)
        have HM := Lib.hid hm
        clear hm
        go_upto_region 4 with fail
        clear k0 k1 k2 k3 k4 k5
        generalize wr.heap.size = bx at *
        generalize wr.alloc (.cells #[.int .i64 (k : Int), .slice As cg.length cS, .int .i64 co.a, .int .i64 co.b, .int .i64 co.c, .int .i64 co.d] 40) = W at *
        have hWW : w.heap.size ≤ W.heap.size := HBW.out.size
        have HPX : Hid (W.cell? ⟨g, off + m * 6, none⟩ = some (.int .i64 (m : Int))) := HPX0.out
        go_region_held3 (fun w' => w'.cell? ⟨bx, 0, none⟩ = some (.int .i64 (k : Int)) ∧ w'.cell? ⟨bx, 1, none⟩ = some (.slice As cg.length cS) ∧ w'.cell? ⟨bx, 2, none⟩ = some (.int .i64 co.a) ∧ w'.cell? ⟨bx, 3, none⟩ = some (.int .i64 co.b) ∧ w'.cell? ⟨bx, 4, none⟩ = some (.int .i64 co.c) ∧ w'.cell? ⟨bx, 5, none⟩ = some (.int .i64 co.d) ∧ w'.cell? ⟨g, off + m * 6, none⟩ = some (.int .i64 (m : Int)))
          ((refine keepL HBK.out HPX.out ?_; simp only [bl_drew, bl_refl, *]))
          ((go_at_call 33; refine Calls.mono (HCK.out _ (by simp only [bl_drew, bl_refl])) ?_; rintro e w2 ⟨rfl, hb2⟩; have hbl2 : Below W.heap.size W w2 := below_then (by simp only [bl_drew, bl_refl]) hb2; clear hb2))
        all_goals
          have hfin : Hid (Below w.heap.size w w2) := HBW.out.trans (hbl2.mono hWW)
          clear hbl2 hsub
          go_wp2_with fail
          go_roundw
          case rel => exact ⟨k + 1, by omega, by go_num, hfin.out⟩
          case measure => simp [intOf]; omega
    · obtain rfl : k = ps.length := by omega
      go_wp2_with fail
      go_ret
      exact ⟨rfl, hq.out⟩

end Go.Proofs.Ytgelgjjhpioihaa
