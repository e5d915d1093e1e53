/- The reference's Add. -/
import Derived.Test.YtemldlfolacekaaRd
namespace Go.Proofs.Ytemldlfolacekaa
open Go.RowKit Go.Shelf
attribute [local go_sem ↓] Go.wp_at_zero Go.wp_at_succ

/-- is there a request of the caller, one that is no older? -/
def thereS (L : List Req) (c : Int) : Bool := L.any fun x => x.c == c
def newerS (L : List Req) (c n : Int) : Bool := L.any fun x => x.c == c && decide (n ≤ x.n)

/-- what the reference's Add comes to -/
def raddS (L D : List Req) (r : Req) : Bool × Int × List Req :=
  if wrongB r.c r.n = true then (false, 1, L)
  else if 4000 < r.t.size then (false, 2, L)
  else if r.n ≤ lastS D r.c then (false, 0, L)
  else if newerS L r.c r.n = true then (false, 0, L)
  else if thereS L r.c = false ∧ 24 ≤ L.length then (false, 5, L)
  else (true, 0, dropS L r.c r.n ++ [r])

theorem thereS_take (L : List Req) (c : Int) (k : Nat) (hk : k < L.length) : thereS (L.take (k + 1)) c = (thereS (L.take k) c || L[k].c == c) := by
  unfold thereS; rw [List.take_succ_eq_append_getElem hk, List.any_append]; simp
theorem newerS_take (L : List Req) (c n : Int) (k : Nat) (hk : k < L.length) : newerS (L.take (k + 1)) c n = (newerS (L.take k) c n || (L[k].c == c && decide (n ≤ L[k].n))) := by
  unfold newerS; rw [List.take_succ_eq_append_getElem hk, List.any_append]; simp
theorem newerS_at (L : List Req) (c n : Int) (k : Nat) (hk : k < L.length) (h : (L[k].c == c && decide (n ≤ L[k].n)) = true) : newerS L c n = true := by
  unfold newerS; rw [List.any_eq_true]; exact ⟨L[k], List.getElem_mem _, h⟩

set_option maxHeartbeats 400000 in
theorem radd_wrong (R : Nat) (r : Req) (w : World) (h : wrongB r.c r.n = true) :
    Calls Try.prog 13 #[.pointer (some ⟨R, 0, none⟩), .agg #[.int .i64 r.c, .int .i64 r.n, .string r.t]] w fun e w' => e = .returned (.tuple #[.bool false, .int .i64 1]) ∧ Below w.heap.size w w' := by
  go_enter Try.func13, Try.ntmps13
  go_wp2_with (go_at_call 26; refine (rwrong_yes _ _ _ h).mono ?_; rintro e w' ⟨rfl, rfl⟩)
  go_ret2
  exact ⟨rfl, (Below.refl _ _).alloc (Nat.le_refl _) _⟩

set_option maxHeartbeats 400000 in
theorem radd_long (R : Nat) (r : Req) (w : World) (h : wrongB r.c r.n = false) (h2 : 4000 < r.t.size) :
    Calls Try.prog 13 #[.pointer (some ⟨R, 0, none⟩), .agg #[.int .i64 r.c, .int .i64 r.n, .string r.t]] w fun e w' => e = .returned (.tuple #[.bool false, .int .i64 2]) ∧ Below w.heap.size w w' := by
  go_enter Try.func13, Try.ntmps13
  go_wp2_with (go_at_call 26; refine (rwrong_no _ _ _ h).mono ?_; rintro e w' ⟨rfl, rfl⟩)
  go_ret2
  exact ⟨rfl, (Below.refl _ _).alloc (Nat.le_refl _) _⟩

set_option maxHeartbeats 1600000 in
theorem radd_rest (base R : Nat) (vl vd : Value) (L D : List Req) (r : Req) (w : World) (hp : RefAt w base R vl vd L D) (h : wrongB r.c r.n = false) (h2 : r.t.size ≤ 4000) (hm : L.length ≤ 1000000) (hmd : D.length ≤ 1000000) (hbase : base ≤ w.heap.size) :
    Calls Try.prog 13 #[.pointer (some ⟨R, 0, none⟩), .agg #[.int .i64 r.c, .int .i64 r.n, .string r.t]] w fun e w' => e = .returned (.tuple #[.bool (raddS L D r).1, .int .i64 (raddS L D r).2.1]) ∧ RefTo w w' base R vl vd (raddS L D r).2.2 D := by
  obtain ⟨i0, hi0, hz0, hz1, hz2⟩ := info_parts ref_info
  have hlt := hp.lt
  have HP := Lib.hid hp
  have HL := Lib.hid (fun (W : World) (hb : Below w.heap.size w W) => rlast_any base R vl vd L D r.c W (hp.below hb) hmd)
  have hE0 : Hid (wrongB r.c r.n ≠ true ∧ ¬ 4000 < r.t.size) := ⟨by rw [h]; simp, by omega⟩
  clear hp
  by_cases hd : r.n ≤ lastS D r.c
  · have HE : Hid (raddS L D r = (false, 0, L)) := by rw [Hid, raddS, if_neg hE0.out.1, if_neg hE0.out.2, if_pos hd]
    generalize lastS D r.c = x at *
    go_enter Try.func13, Try.ntmps13
    go_wp2_with (go_at_call 26; refine (rwrong_no _ _ _ h).mono ?_; rintro e w' ⟨rfl, rfl⟩)
    go_region_held3 (fun w' => w'.cell? ⟨w.heap.size, 0, none⟩ = some (.int .i64 r.c) ∧ w'.cell? ⟨w.heap.size, 1, none⟩ = some (.int .i64 r.n))
      (first | go_keep | exact ⟨k0, k1⟩)
      ((go_at_call 22; refine (HL.out _ (by exact ((Below.refl _ _).alloc (Nat.le_refl _) _).drew)).mono ?_; rintro e w1 ⟨rfl, hb1⟩; have k0 := (hb1.cell (p := ⟨w.heap.size, 0, none⟩) (by simp)).trans (show (w.alloc _).drew.cell? _ = some (Value.int .i64 r.c) by simp); have k1 := (hb1.cell (p := ⟨w.heap.size, 1, none⟩) (by simp)).trans (show (w.alloc _).drew.cell? _ = some (Value.int .i64 r.n) by simp)))
    go_wp2
    go_ret2
    rw [HE.out]
    exact ⟨rfl, RefTo.of_below HP.out (((Below.refl _ _).alloc (Nat.le_refl _) _).drew.trans (hb1.mono (by simp)))⟩
  · have hE1 := Lib.hid hd
    have hd' : lastS D r.c < r.n := by omega
    have HLx := Lib.hid (show Hid (lastS D r.c < r.n) from hd')
    have hone : Hid (∀ u ∈ Req.cells r, u.oneCell' = true) := by intro u hu; simp [Req.cells] at hu; rcases hu with rfl | rfl | rfl <;> rfl
    have HD := Lib.hid (fun (w2 : World) (hp2 : RefAt w2 base R vl vd L D) (hb2 : base ≤ w2.heap.size) => drop_any base R vl vd L D r.c r.n w2 hp2 hm hb2)
    have HO := Lib.hid HP.out.ol
    have hcl := HP.out.cl
    have hfl := HP.out.free 0
    obtain ⟨A, cc, rfl⟩ := own_shape HP.out.ol
    generalize lastS D r.c = x at HL hd'
    clear hd
    go_enter Try.func13, Try.ntmps13
    go_wp2_with (go_at_call 26; refine (rwrong_no _ _ _ h).mono ?_; rintro e w' ⟨rfl, rfl⟩)
    go_region_held3 (fun w' => w'.cell? ⟨w.heap.size, 0, none⟩ = some (.int .i64 r.c) ∧ w'.cell? ⟨w.heap.size, 1, none⟩ = some (.int .i64 r.n))
      (first | go_keep | exact ⟨k0, k1⟩)
      ((go_at_call 22; refine (HL.out _ (by exact ((Below.refl _ _).alloc (Nat.le_refl _) _).drew)).mono ?_; rintro e w1 ⟨rfl, hb1⟩; have k0 := (hb1.cell (p := ⟨w.heap.size, 0, none⟩) (by simp)).trans (show (w.alloc _).drew.cell? _ = some (Value.int .i64 r.c) by simp); have k1 := (hb1.cell (p := ⟨w.heap.size, 1, none⟩) (by simp)).trans (show (w.alloc _).drew.cell? _ = some (Value.int .i64 r.n) by simp)))
    have k2 : w1.cell? ⟨w.heap.size, 2, none⟩ = some (.string r.t) := (hb1.cell (p := ⟨w.heap.size, 2, none⟩) (by simp)).trans (by simp)
    have hbw1 : Below w.heap.size w w1 := ((Below.refl _ _).alloc (Nat.le_refl _) _).drew.trans (hb1.mono (by simp))
    have hs1 : w.heap.size + 1 ≤ w1.heap.size := by have := hb1.size; simpa using this
    have hc1 := (hbw1.cell (p := ⟨R, 0, none⟩) hlt).trans hcl
    have hbw1' := Lib.hid hbw1
    clear hb1 hbw1 hcl
    go_wp2_with fail
    go_loopw [6, 30] (fun t i wr => ∃ k : Nat, k ≤ L.length ∧ i = .int .i64 k ∧ t = .bool (thereS (L.take k) r.c) ∧ Hid (newerS (L.take k) r.c r.n = false) ∧ Hid (Below w1.heap.size w1 wr)) (fun _ i _ => L.length - (intOf i).toNat)
    case atStart => exact ⟨0, Nat.zero_le _, rfl, rfl, rfl, Below.refl _ _⟩
    case round =>
      obtain ⟨k, hk, rfl, rfl, hno, hbw⟩ := hrel
      have hbs := hbw.out.size
      have b0 := (hbw.out.cell (p := ⟨w.heap.size, 0, none⟩) (by show w.heap.size < w1.heap.size; omega)).trans k0
      have b1 := (hbw.out.cell (p := ⟨w.heap.size, 1, none⟩) (by show w.heap.size < w1.heap.size; omega)).trans k1
      have b2 := (hbw.out.cell (p := ⟨w.heap.size, 2, none⟩) (by show w.heap.size < w1.heap.size; omega)).trans k2
      have r0 : ∀ o, (wr.alloc o).cell? ⟨w.heap.size, 0, none⟩ = some (.int .i64 r.c) := fun o => (World.cell?_alloc_lt _ _ _ (by show w.heap.size < wr.heap.size; omega)).trans b0
      have r1 : ∀ o, (wr.alloc o).cell? ⟨w.heap.size, 1, none⟩ = some (.int .i64 r.n) := fun o => (World.cell?_alloc_lt _ _ _ (by show w.heap.size < wr.heap.size; omega)).trans b1
      have hc2 := (hbw.out.cell (p := ⟨R, 0, none⟩) (by show R < w1.heap.size; omega)).trans hc1
      have hbA := Lib.hid (hbw1'.out.trans (hbw.out.mono hbw1'.out.size))
      by_cases hlt' : k < L.length
      · obtain ⟨g, c', hV, hg, hx0, hx1, hx2⟩ := own_get45 HO.out hlt'
        injection hV with hA _ hcc
        subst hA
        clear hcc
        have y0 := (hbA.out.cell (p := ⟨g, k * 3, none⟩) hg).trans hx0
        have y1 := (hbA.out.cell (p := ⟨g, k * 3 + 1, none⟩) hg).trans hx1
        have y2 := (hbA.out.cell (p := ⟨g, k * 3 + 2, none⟩) hg).trans hx2
        have ht := Lib.hid (thereS_take L r.c k hlt')
        have hn := Lib.hid (newerS_take L r.c r.n k hlt')
        clear hx0 hx1 hx2 hc2 hc1 b0 b1 b2 k0 k1 k2 hfl
        generalize thereS (L.take k) r.c = tk at *
        cases h1 : (L[k].c == r.c) with
        | false =>
          have HE1 : Hid (thereS (L.take (k + 1)) r.c = tk ∧ newerS (L.take (k + 1)) r.c r.n = false) := ⟨by rw [ht.out, h1, Bool.or_false], by rw [hn.out, hno.out, h1]; rfl⟩
          go_wp2
          go_roundw
          case rel => exact ⟨k + 1, by omega, by go_num, by rw [HE1.out.1], HE1.out.2, hbw.out.alloc hbs _⟩
          case measure => simp [intOf]; omega
        | true =>
          by_cases h3 : r.n ≤ L[k].n
          · have HE : Hid (raddS L D r = (false, 0, L)) := by
              rw [Hid, raddS, if_neg hE0.out.1, if_neg hE0.out.2, if_neg (Int.not_le.2 HLx.out.out), if_pos (newerS_at L r.c r.n k hlt' (by rw [h1]; simpa using h3))]
            go_wp2
            go_ret2
            rw [HE.out]
            exact ⟨rfl, RefTo.of_below HP.out (hbA.out.alloc hbA.out.size _)⟩
          · have HE1 : Hid (thereS (L.take (k + 1)) r.c = true ∧ newerS (L.take (k + 1)) r.c r.n = false) := ⟨by rw [ht.out, h1, Bool.or_true], by rw [hn.out, hno.out, h1]; simpa using h3⟩
            go_wp2
            go_roundw
            case rel => exact ⟨k + 1, by omega, by go_num, by rw [HE1.out.1], HE1.out.2, hbw.out.alloc hbs _⟩
            case measure => simp [intOf]; omega
      · have e : L.take k = L := List.take_of_length_le (by omega)
        have hno' : newerS L r.c r.n = false := by have := hno.out; rwa [e] at this
        rw [e]
        by_cases hfull : thereS L r.c = false ∧ 24 ≤ L.length
        · have HE : Hid (raddS L D r = (false, 5, L)) := by
            rw [Hid, raddS, if_neg hE0.out.1, if_neg hE0.out.2, if_neg (Int.not_le.2 HLx.out.out), if_neg (by rw [hno']; simp), if_pos hfull]
          obtain ⟨hf1, hf2⟩ := hfull
          rw [hf1]
          clear e hno' hf1
          go_wp2
          go_ret2
          rw [HE.out]
          exact ⟨rfl, RefTo.of_below HP.out hbA.out⟩
        · have HE : Hid (raddS L D r = (true, 0, dropS L r.c r.n ++ [r])) := by
            rw [Hid, raddS, if_neg hE0.out.1, if_neg hE0.out.2, if_neg (Int.not_le.2 HLx.out.out), if_neg (by rw [hno']; simp), if_neg hfull]
          have hff : thereS L r.c = true ∨ L.length < 24 := by
            cases h : thereS L r.c with
            | true => exact .inl rfl
            | false => exact .inr (Nat.lt_of_not_le (fun h2 => hfull ⟨h, h2⟩))
          clear e hno' hfull
          generalize thereS L r.c = tt at *
          rcases hff with hff | hff
          · subst hff
            have hbR := hbA
            have hsR := hbR.out.size
            go_wp2_with fail
            refine (HD.out _ (HP.out.below hbR.out) (Nat.le_trans hbase hsR)).mono ?_
            rintro e w4 ⟨rfl, vl4, hp4, hc4', hn4⟩
            have HN4 := Lib.hid hn4
            have hs4 := hc4'.size
            have m0 := hc4'.cell (p := ⟨w.heap.size, 0, none⟩) b0 (by show w.heap.size ≠ R; omega)
            have m1 := hc4'.cell (p := ⟨w.heap.size, 1, none⟩) b1 (by show w.heap.size ≠ R; omega)
            have m2 := hc4'.cell (p := ⟨w.heap.size, 2, none⟩) b2 (by show w.heap.size ≠ R; omega)
            have hKl := dropS_le L r.c r.n
            have hc4 := hp4.cl
            have hf4 := hp4.free 0
            have hlt4 := hp4.lt
            have HP4 := Lib.hid hp4
            have HC4 := Lib.hid hc4'
            obtain ⟨A4, c4, rfl⟩ := own_shape hp4.ol
            have HO4 : Hid (∀ o, (w4.drew.alloc o).ownsRow base 45 3 (.slice A4 (dropS L r.c r.n).length c4) (dropS L r.c r.n).length (cellsOf (dropS L r.c r.n))) := fun o => World.ownsRow.alloc (w := w4.drew) hp4.ol o
            have hne1 : Hid (some R ≠ (Value.slice A4 (dropS L r.c r.n).length c4).ownBlock) := fun e => hp4.nl e.symm
            generalize dropS L r.c r.n = K at *
            have hcA : ∀ (o : Obj), (w4.drew.alloc o).cell? ⟨R, 0, none⟩ = some (.slice A4 K.length c4) := fun o => (World.cell?_alloc_lt w4.drew o ⟨R, 0, none⟩ hlt4).trans hc4
            clear hp4 hc4' hn4 b0 b1 b2 r0 r1 hc1 hc2 hfl k0 k1 k2
            go_wp2_with fail
            go_region_law ((refine step_append_lies _ (by rfl) (.tmp 65) (.tmp 67) _ (by rfl) base 45 i0 _ 3 32 Try.underlying40 hi0 hz0 hz1 hz2 (by rfl) (by omega) (.slice A4 K.length c4) K.length (cellsOf K) (by simp [Act.eval]) (HO4.out _) ⟨w4.heap.size, 0, none⟩ 1 1 (Req.cells r) (by simp [Act.eval]) (by rfl) (World.news_of_block (heap_alloc_new _ _)) hone.out (by omega) (by unfold maxLen; omega) (by omega) (by simp; omega) (w4.heap.size + 1) (by simp) ?_; intro g5 cap5 w5 hown5 hg5 hat5 hlt5; have hc5 := (hg5.cell_far ⟨R, 0, none⟩ (by simp; omega) hne1.out).trans ((World.cell?_alloc_lt _ _ _ (by simp; omega)).trans hc4); have hf5 := (hg5.frozen_far ⟨R, 0, none⟩ (by simp; omega) hne1.out).trans ((World.frozen?_alloc_old _ _ _ (by simp; omega)).trans hf4)))
            all_goals go_wp2
            all_goals go_ret2
            all_goals
              obtain ⟨hp6, hc6⟩ := HP4.out.pushL (k := 1) (r := r) hg5 rfl hown5 hat5
              rw [HE.out]
              refine ⟨rfl, _, _, hp6, ((Chg.of_below hbR.out).trans HC4.out (fun _ _ h => .inl h)).trans hc6 (fun i hi f => ?_)⟩
              rcases f with f | f
              · exact .inl f
              · have h1 := hbR.out.size
                have h2 := HN4.out i f
                omega
          · cases tt with
            | true =>
              have hbR := hbA
              have hsR := hbR.out.size
              go_wp2_with fail
              refine (HD.out _ (HP.out.below hbR.out) (Nat.le_trans hbase hsR)).mono ?_
              rintro e w4 ⟨rfl, vl4, hp4, hc4', hn4⟩
              have HN4 := Lib.hid hn4
              have hs4 := hc4'.size
              have m0 := hc4'.cell (p := ⟨w.heap.size, 0, none⟩) b0 (by show w.heap.size ≠ R; omega)
              have m1 := hc4'.cell (p := ⟨w.heap.size, 1, none⟩) b1 (by show w.heap.size ≠ R; omega)
              have m2 := hc4'.cell (p := ⟨w.heap.size, 2, none⟩) b2 (by show w.heap.size ≠ R; omega)
              have hKl := dropS_le L r.c r.n
              have hc4 := hp4.cl
              have hf4 := hp4.free 0
              have hlt4 := hp4.lt
              have HP4 := Lib.hid hp4
              have HC4 := Lib.hid hc4'
              obtain ⟨A4, c4, rfl⟩ := own_shape hp4.ol
              have HO4 : Hid (∀ o, (w4.drew.alloc o).ownsRow base 45 3 (.slice A4 (dropS L r.c r.n).length c4) (dropS L r.c r.n).length (cellsOf (dropS L r.c r.n))) := fun o => World.ownsRow.alloc (w := w4.drew) hp4.ol o
              have hne1 : Hid (some R ≠ (Value.slice A4 (dropS L r.c r.n).length c4).ownBlock) := fun e => hp4.nl e.symm
              generalize dropS L r.c r.n = K at *
              have hcA : ∀ (o : Obj), (w4.drew.alloc o).cell? ⟨R, 0, none⟩ = some (.slice A4 K.length c4) := fun o => (World.cell?_alloc_lt w4.drew o ⟨R, 0, none⟩ hlt4).trans hc4
              clear hp4 hc4' hn4 b0 b1 b2 r0 r1 hc1 hc2 hfl k0 k1 k2
              go_wp2_with fail
              go_region_law ((refine step_append_lies _ (by rfl) (.tmp 65) (.tmp 67) _ (by rfl) base 45 i0 _ 3 32 Try.underlying40 hi0 hz0 hz1 hz2 (by rfl) (by omega) (.slice A4 K.length c4) K.length (cellsOf K) (by simp [Act.eval]) (HO4.out _) ⟨w4.heap.size, 0, none⟩ 1 1 (Req.cells r) (by simp [Act.eval]) (by rfl) (World.news_of_block (heap_alloc_new _ _)) hone.out (by omega) (by unfold maxLen; omega) (by omega) (by simp; omega) (w4.heap.size + 1) (by simp) ?_; intro g5 cap5 w5 hown5 hg5 hat5 hlt5; have hc5 := (hg5.cell_far ⟨R, 0, none⟩ (by simp; omega) hne1.out).trans ((World.cell?_alloc_lt _ _ _ (by simp; omega)).trans hc4); have hf5 := (hg5.frozen_far ⟨R, 0, none⟩ (by simp; omega) hne1.out).trans ((World.frozen?_alloc_old _ _ _ (by simp; omega)).trans hf4)))
              all_goals go_wp2
              all_goals go_ret2
              all_goals
                obtain ⟨hp6, hc6⟩ := HP4.out.pushL (k := 1) (r := r) hg5 rfl hown5 hat5
                rw [HE.out]
                refine ⟨rfl, _, _, hp6, ((Chg.of_below hbR.out).trans HC4.out (fun _ _ h => .inl h)).trans hc6 (fun i hi f => ?_)⟩
                rcases f with f | f
                · exact .inl f
                · have h1 := hbR.out.size
                  have h2 := HN4.out i f
                  omega
            | false =>
              have hbR := hbA
              have hsR := hbR.out.size
              go_wp2_with fail
              refine (HD.out _ (HP.out.below hbR.out) (Nat.le_trans hbase hsR)).mono ?_
              rintro e w4 ⟨rfl, vl4, hp4, hc4', hn4⟩
              have HN4 := Lib.hid hn4
              have hs4 := hc4'.size
              have m0 := hc4'.cell (p := ⟨w.heap.size, 0, none⟩) b0 (by show w.heap.size ≠ R; omega)
              have m1 := hc4'.cell (p := ⟨w.heap.size, 1, none⟩) b1 (by show w.heap.size ≠ R; omega)
              have m2 := hc4'.cell (p := ⟨w.heap.size, 2, none⟩) b2 (by show w.heap.size ≠ R; omega)
              have hKl := dropS_le L r.c r.n
              have hc4 := hp4.cl
              have hf4 := hp4.free 0
              have hlt4 := hp4.lt
              have HP4 := Lib.hid hp4
              have HC4 := Lib.hid hc4'
              obtain ⟨A4, c4, rfl⟩ := own_shape hp4.ol
              have HO4 : Hid (∀ o, (w4.drew.alloc o).ownsRow base 45 3 (.slice A4 (dropS L r.c r.n).length c4) (dropS L r.c r.n).length (cellsOf (dropS L r.c r.n))) := fun o => World.ownsRow.alloc (w := w4.drew) hp4.ol o
              have hne1 : Hid (some R ≠ (Value.slice A4 (dropS L r.c r.n).length c4).ownBlock) := fun e => hp4.nl e.symm
              generalize dropS L r.c r.n = K at *
              have hcA : ∀ (o : Obj), (w4.drew.alloc o).cell? ⟨R, 0, none⟩ = some (.slice A4 K.length c4) := fun o => (World.cell?_alloc_lt w4.drew o ⟨R, 0, none⟩ hlt4).trans hc4
              clear hp4 hc4' hn4 b0 b1 b2 r0 r1 hc1 hc2 hfl k0 k1 k2
              go_wp2_with fail
              go_region_law ((refine step_append_lies _ (by rfl) (.tmp 65) (.tmp 67) _ (by rfl) base 45 i0 _ 3 32 Try.underlying40 hi0 hz0 hz1 hz2 (by rfl) (by omega) (.slice A4 K.length c4) K.length (cellsOf K) (by simp [Act.eval]) (HO4.out _) ⟨w4.heap.size, 0, none⟩ 1 1 (Req.cells r) (by simp [Act.eval]) (by rfl) (World.news_of_block (heap_alloc_new _ _)) hone.out (by omega) (by unfold maxLen; omega) (by omega) (by simp; omega) (w4.heap.size + 1) (by simp) ?_; intro g5 cap5 w5 hown5 hg5 hat5 hlt5; have hc5 := (hg5.cell_far ⟨R, 0, none⟩ (by simp; omega) hne1.out).trans ((World.cell?_alloc_lt _ _ _ (by simp; omega)).trans hc4); have hf5 := (hg5.frozen_far ⟨R, 0, none⟩ (by simp; omega) hne1.out).trans ((World.frozen?_alloc_old _ _ _ (by simp; omega)).trans hf4)))
              all_goals go_wp2
              all_goals go_ret2
              all_goals
                obtain ⟨hp6, hc6⟩ := HP4.out.pushL (k := 1) (r := r) hg5 rfl hown5 hat5
                rw [HE.out]
                refine ⟨rfl, _, _, hp6, ((Chg.of_below hbR.out).trans HC4.out (fun _ _ h => .inl h)).trans hc6 (fun i hi f => ?_)⟩
                rcases f with f | f
                · exact .inl f
                · have h1 := hbR.out.size
                  have h2 := HN4.out i f
                  omega

end Go.Proofs.Ytemldlfolacekaa
