/- Has, Forget; the law BatchNil, walked. -/
import Derived.Test.YtemldlfolacekaaBk
namespace Go.Proofs.Ytemldlfolacekaa
open Go.RowKit Go.Shelf

set_option maxHeartbeats 400000 in
theorem has_nil (c n : Int) (w : World) :
    Calls Try.prog 20 #[.pointer none, .int .i64 c, .int .i64 n] w fun e w' => e = .returned (.bool false) ∧ Below w.heap.size w w' := by
  go_enter Try.func20, Try.ntmps20
  go_wp2
  go_ret
  exact ⟨rfl, ((Below.refl _ _).alloc (Nat.le_refl _) _).alloc (by simp) _⟩

set_option maxHeartbeats 400000 in
theorem has_any (base B : Nat) (V : Value) (l : List Req) (d : Nat → Int) (c n : Int) (w : World) (hp : PoolAt w base B V l d) (hm : l.length ≤ 1000000) :
    Calls Try.prog 20 #[.pointer (some ⟨B, 0, none⟩), .int .i64 c, .int .i64 n] w fun e w' => e = .returned (.bool (hasS l c n)) ∧ Below w.heap.size w w' := by
  have hlt := hp.lt
  have hc := hp.head
  have hr : Rd ((w.alloc (.cells #[.int .i64 c] 3)).alloc (.cells #[.int .i64 n] 3)) (w.heap.size + 2) 3 V l.length (cellsOf l) := ((Rd.of_own hp.own).below (((Below.refl _ _).alloc (Nat.le_refl _) _).alloc (by simp) _)).more (by omega)
  have HC := Lib.hid (containsP_any V l (fun r => r.c == c && r.n == n) 29 #[.pointer (some ⟨w.heap.size, 0, none⟩), .pointer (some ⟨w.heap.size + 1, 0, none⟩)] (enters_of Try.func29 (by kernel_rfl) rfl)
    ((w.alloc (.cells #[.int .i64 c] 3)).alloc (.cells #[.int .i64 n] 3)) (fun W r hb => by
      have hs := hb.size
      simp only [World.size_alloc] at hs
      refine has1_any r c n _ _ W (by omega) (by omega) ?_ ?_
      · exact (hb.cell (p := ⟨w.heap.size, 0, none⟩) (by simp; omega)).trans (by rw [World.cell?_alloc_lt _ _ _ (by simp)]; simp)
      · refine (hb.cell (p := ⟨w.heap.size + 1, 0, none⟩) (by simp)).trans ?_
        have := World.cell?_alloc_new (w.alloc (.cells #[.int .i64 c] 3)) #[.int .i64 n] 3 0
        simp only [World.size_alloc] at this
        rw [this]; rfl) (by simpa using hr) (by omega))
  obtain ⟨A, c2, rfl⟩ := hp.form
  clear hp hr
  go_enter Try.func20, Try.ntmps20
  go_wp2_with (go_at_call 28; refine HC.out.mono ?_; rintro e w' ⟨rfl, hb'⟩)
  go_ret
  exact ⟨rfl, (((Below.refl _ _).alloc (Nat.le_refl _) _).alloc (by simp) _).trans (hb'.mono (by simp; omega))⟩

set_option maxHeartbeats 400000 in
theorem forget_wrong (p : Option Addr) (c n : Int) (w : World) (h : wrongB c n = true) :
    Calls Try.prog 16 #[.pointer p, .int .i64 c, .int .i64 n] w fun e w' => e = .returned (.tuple #[.bool false, .int .i64 1]) ∧ w = w' := by
  go_enter Try.func16, Try.ntmps16
  go_wp2_with (go_at_call 23; refine (wrong_yes _ _ _ h).mono ?_; rintro e w' ⟨rfl, rfl⟩)
  go_ret2
  exact ⟨rfl, rfl⟩

set_option maxHeartbeats 400000 in
theorem forget_nil (c n : Int) (w : World) (h : wrongB c n = false) :
    Calls Try.prog 16 #[.pointer none, .int .i64 c, .int .i64 n] w fun e w' => e = .returned (.tuple #[.bool false, .int .i64 0]) ∧ Below w.heap.size w w' := by
  go_enter Try.func16, Try.ntmps16
  go_wp2_with (first | (go_at_call 23; refine (wrong_no _ _ _ h).mono ?_; rintro e w' ⟨rfl, rfl⟩) | (go_at_call 20; refine (has_nil _ _ _).mono ?_; rintro e w' ⟨rfl, hb⟩))
  go_ret2
  exact ⟨rfl, hb⟩

set_option maxHeartbeats 400000 in
theorem forget_no (base B : Nat) (V : Value) (l : List Req) (d : Nat → Int) (c n : Int) (w : World) (hp : PoolAt w base B V l d) (hm : l.length ≤ 1000000) (h : wrongB c n = false) (hh : hasS l c n = false) :
    Calls Try.prog 16 #[.pointer (some ⟨B, 0, none⟩), .int .i64 c, .int .i64 n] w fun e w' => e = .returned (.tuple #[.bool false, .int .i64 0]) ∧ Below w.heap.size w w' := by
  have HH := Lib.hid (has_any base B V l d c n w hp hm)
  rw [hh] at HH
  go_enter Try.func16, Try.ntmps16
  go_wp2_with (first | (go_at_call 23; refine (wrong_no _ _ _ h).mono ?_; rintro e w' ⟨rfl, rfl⟩) | (go_at_call 20; refine HH.out.mono ?_; rintro e w' ⟨rfl, hb⟩))
  go_ret2
  exact ⟨rfl, hb⟩

set_option maxHeartbeats 400000 in
theorem forget_yes (base B : Nat) (V : Value) (l : List Req) (d : Nat → Int) (c n : Int) (w : World) (hp : PoolAt w base B V l d) (hm : l.length ≤ 1000000) (h : wrongB c n = false) (hh : hasS l c n = true) (k : Nat) (hk : k < l.length) (hat : AtC c l k) (hbase : base ≤ w.heap.size) :
    Calls Try.prog 16 #[.pointer (some ⟨B, 0, none⟩), .int .i64 c, .int .i64 n] w fun e w' => e = .returned (.tuple #[.bool true, .int .i64 0]) ∧ PoolTo w w' base B V (l.eraseIdx k) d := by
  have HH := Lib.hid (has_any base B V l d c n w hp hm)
  rw [hh] at HH
  have hp0 := Lib.hid hp
  clear hp
  go_enter Try.func16, Try.ntmps16
  go_wp2_with (first | (go_at_call 23; refine (wrong_no _ _ _ h).mono ?_; rintro e w' ⟨rfl, rfl⟩) | (go_at_call 20; refine HH.out.mono ?_; rintro e w1 ⟨rfl, hb1⟩))
  refine (of_any base B V l d c w1 (hp0.out.below hb1) (by omega)).mono ?_
  rintro e w2 ⟨rfl, hb2⟩
  rw [hat.idx]
  have hb12 : Below w.heap.size w w2 := hb1.trans (hb2.mono hb1.size)
  go_wp2_with fail
  refine (gone_any base B V l d k w2 (hp0.out.below hb12) hk (by omega) (Nat.le_trans hbase hb12.size)).mono ?_
  rintro e w3 ⟨g, cap, rfl, hwg, hp3, hc3⟩
  go_wp2
  go_ret2
  refine ⟨rfl, _, hp3, (Chg.of_below hb12).trans hc3 (fun _ _ h => .inl h), fun g' h' => .inr ?_⟩
  have e : g = g' := by simpa [Value.ownBlock] using h'
  have := hb12.size
  omega

set_option maxHeartbeats 1600000 in
theorem nil_any (r : Req) (w : World) :
    Calls Try.prog 6 #[.agg #[.int .i64 r.c, .int .i64 r.n, .string r.t]] w fun e w' => e = .returned (.bool true) ∧ Below w.heap.size w w' := by
  have hcase : (r.c < 0 ∨ (0 ≤ r.c ∧ 63 < r.c) ∨ (0 ≤ r.c ∧ r.c ≤ 63 ∧ r.n < 1) ∨ (0 ≤ r.c ∧ r.c ≤ 63 ∧ 1 ≤ r.n ∧ 1099511627776 < r.n)) ∨ (0 ≤ r.c ∧ r.c ≤ 63 ∧ 1 ≤ r.n ∧ r.n ≤ 1099511627776) := by omega
  rcases hcase with h | h
  · have hw : wrongB r.c r.n = true := by
      simp only [wrongB, Bool.or_eq_true, decide_eq_true_eq]
      omega
    have hd : 1099511627776 < r.n → decide (r.n ≤ 1099511627776) = false := fun h => by simp; omega
    rcases h with h | ⟨h1, h2⟩ | ⟨h1, h2, h3⟩ | ⟨h1, h2, h3, h4⟩
    rotate_left 3
    · have h5 := hd h4
      clear hd h4
      go_enter Try.func6, Try.ntmps6
      go_wp2_with fail
      refine (add_wrong none r _ hw).mono ?_
      rintro e w1 ⟨rfl, hb1⟩
      have x0 := (hb1.cell (p := ⟨w.heap.size, 0, none⟩) (by simp)).trans (World.cell?_alloc_new w #[.int .i64 r.c, .int .i64 r.n, .string r.t] 28 0)
      have x1 := (hb1.cell (p := ⟨w.heap.size, 1, none⟩) (by simp)).trans (World.cell?_alloc_new w #[.int .i64 r.c, .int .i64 r.n, .string r.t] 28 1)
      simp only [List.getElem?_toArray, List.getElem?_cons_zero, List.getElem?_cons_succ] at x0 x1
      have hbw : Below w.heap.size w w1 := ((Below.refl _ _).alloc (Nat.le_refl _) _).trans (hb1.mono (by simp))
      have hs1 := hb1.size
      simp only [World.size_alloc] at hs1
      clear hb1
      go_wp2_with fail
      refine (done_wrong none r.c r.n _ hw).mono ?_
      rintro e w' ⟨rfl, rfl⟩
      go_wp2_with fail
      refine (forget_wrong none r.c r.n _ hw).mono ?_
      rintro e w' ⟨rfl, rfl⟩
      go_wp2_with fail
      refine (take_nil _).mono ?_
      rintro e w' ⟨rfl, rfl⟩
      go_wp2_with fail
      refine (has_nil r.c r.n _).mono ?_
      rintro e w2 ⟨rfl, hb2⟩
      have y0 := (hb2.cell (p := ⟨w.heap.size, 0, none⟩) (by show w.heap.size < w1.heap.size; omega)).trans x0
      have hbw2 : Below w.heap.size w w2 := hbw.trans (hb2.mono (by omega))
      clear hb2 x0 x1 hbw
      go_wp2_with fail
      refine (last_nil r.c _).mono ?_
      rintro e w' ⟨rfl, rfl⟩
      go_wp2_with fail
      refine (len_nil _).mono ?_
      rintro e w' ⟨rfl, rfl⟩
      go_wp2_with fail
      refine (one_any _).mono ?_
      rintro e w3 ⟨rfl, hb3⟩
      go_wp2
      go_ret
      exact ⟨rfl, hbw2.trans (hb3.mono (by have := hbw2.size; omega))⟩
    all_goals
      clear hd
      go_enter Try.func6, Try.ntmps6
      go_wp2_with fail
      refine (add_wrong none r _ hw).mono ?_
      rintro e w1 ⟨rfl, hb1⟩
      have x0 := (hb1.cell (p := ⟨w.heap.size, 0, none⟩) (by simp)).trans (World.cell?_alloc_new w #[.int .i64 r.c, .int .i64 r.n, .string r.t] 28 0)
      have x1 := (hb1.cell (p := ⟨w.heap.size, 1, none⟩) (by simp)).trans (World.cell?_alloc_new w #[.int .i64 r.c, .int .i64 r.n, .string r.t] 28 1)
      simp only [List.getElem?_toArray, List.getElem?_cons_zero, List.getElem?_cons_succ] at x0 x1
      have hbw : Below w.heap.size w w1 := ((Below.refl _ _).alloc (Nat.le_refl _) _).trans (hb1.mono (by simp))
      have hs1 := hb1.size
      simp only [World.size_alloc] at hs1
      clear hb1
      go_wp2_with fail
      refine (done_wrong none r.c r.n _ hw).mono ?_
      rintro e w' ⟨rfl, rfl⟩
      go_wp2_with fail
      refine (forget_wrong none r.c r.n _ hw).mono ?_
      rintro e w' ⟨rfl, rfl⟩
      go_wp2_with fail
      refine (take_nil _).mono ?_
      rintro e w' ⟨rfl, rfl⟩
      go_wp2_with fail
      refine (has_nil r.c r.n _).mono ?_
      rintro e w2 ⟨rfl, hb2⟩
      have y0 := (hb2.cell (p := ⟨w.heap.size, 0, none⟩) (by show w.heap.size < w1.heap.size; omega)).trans x0
      have hbw2 : Below w.heap.size w w2 := hbw.trans (hb2.mono (by omega))
      clear hb2 x0 x1 hbw
      go_wp2_with fail
      refine (last_nil r.c _).mono ?_
      rintro e w' ⟨rfl, rfl⟩
      go_wp2_with fail
      refine (len_nil _).mono ?_
      rintro e w' ⟨rfl, rfl⟩
      go_wp2_with fail
      refine (one_any _).mono ?_
      rintro e w3 ⟨rfl, hb3⟩
      go_wp2
      go_ret
      exact ⟨rfl, hbw2.trans (hb3.mono (by have := hbw2.size; omega))⟩
  · have hw : wrongB r.c r.n = false := by
      simp only [wrongB, Bool.or_eq_false_iff, decide_eq_false_iff_not]
      omega
    obtain ⟨h1, h2, h3, h4⟩ := h
    have h5 : decide (r.n ≤ 1099511627776) = true := by simp; omega
    clear h4
    by_cases hs : 4000 < r.t.size
    · go_enter Try.func6, Try.ntmps6
      go_wp2_with fail
      refine (add_long none r _ hw hs).mono ?_
      rintro e w1 ⟨rfl, hb1⟩
      have x0 := (hb1.cell (p := ⟨w.heap.size, 0, none⟩) (by simp)).trans (World.cell?_alloc_new w #[.int .i64 r.c, .int .i64 r.n, .string r.t] 28 0)
      have x1 := (hb1.cell (p := ⟨w.heap.size, 1, none⟩) (by simp)).trans (World.cell?_alloc_new w #[.int .i64 r.c, .int .i64 r.n, .string r.t] 28 1)
      have x2 := (hb1.cell (p := ⟨w.heap.size, 2, none⟩) (by simp)).trans (World.cell?_alloc_new w #[.int .i64 r.c, .int .i64 r.n, .string r.t] 28 2)
      simp only [List.getElem?_toArray, List.getElem?_cons_zero, List.getElem?_cons_succ] at x0 x1 x2
      have hbw : Below w.heap.size w w1 := ((Below.refl _ _).alloc (Nat.le_refl _) _).trans (hb1.mono (by simp))
      have hs1 := hb1.size
      simp only [World.size_alloc] at hs1
      clear hb1
      go_wp2_with fail
      refine (done_nil r.c r.n _ hw).mono ?_
      rintro e w' ⟨rfl, rfl⟩
      go_wp2_with fail
      refine (forget_nil r.c r.n _ hw).mono ?_
      rintro e w2 ⟨rfl, hb2⟩
      have y0 := (hb2.cell (p := ⟨w.heap.size, 0, none⟩) (by show w.heap.size < w1.heap.size; omega)).trans x0
      have y1 := (hb2.cell (p := ⟨w.heap.size, 1, none⟩) (by show w.heap.size < w1.heap.size; omega)).trans x1
      have y2 := (hb2.cell (p := ⟨w.heap.size, 2, none⟩) (by show w.heap.size < w1.heap.size; omega)).trans x2
      have hbw2 : Below w.heap.size w w2 := hbw.trans (hb2.mono (by omega))
      have hs2 : w.heap.size + 1 ≤ w2.heap.size := by have := hb2.size; omega
      clear hb2 x0 x1 x2 hbw hs1
      go_wp2_with fail
      refine (take_nil _).mono ?_
      rintro e w' ⟨rfl, rfl⟩
      go_wp2_with fail
      refine (has_nil r.c r.n _).mono ?_
      rintro e w3 ⟨rfl, hb3⟩
      have z0 := (hb3.cell (p := ⟨w.heap.size, 0, none⟩) (by show w.heap.size < w2.heap.size; omega)).trans y0
      have hbw3 : Below w.heap.size w w3 := hbw2.trans (hb3.mono (by omega))
      clear hb3 y0 y1 y2 hbw2
      go_wp2_with fail
      refine (last_nil r.c _).mono ?_
      rintro e w' ⟨rfl, rfl⟩
      go_wp2_with fail
      refine (len_nil _).mono ?_
      rintro e w' ⟨rfl, rfl⟩
      go_wp2_with fail
      refine (one_any _).mono ?_
      rintro e w4 ⟨rfl, hb4⟩
      go_wp2
      go_ret
      exact ⟨rfl, hbw3.trans (hb4.mono (by have := hbw3.size; omega))⟩
    · go_enter Try.func6, Try.ntmps6
      go_wp2_with fail
      refine (add_nil r _ hw (by omega)).mono ?_
      rintro e w1 ⟨rfl, hb1⟩
      have x0 := (hb1.cell (p := ⟨w.heap.size, 0, none⟩) (by simp)).trans (World.cell?_alloc_new w #[.int .i64 r.c, .int .i64 r.n, .string r.t] 28 0)
      have x1 := (hb1.cell (p := ⟨w.heap.size, 1, none⟩) (by simp)).trans (World.cell?_alloc_new w #[.int .i64 r.c, .int .i64 r.n, .string r.t] 28 1)
      have x2 := (hb1.cell (p := ⟨w.heap.size, 2, none⟩) (by simp)).trans (World.cell?_alloc_new w #[.int .i64 r.c, .int .i64 r.n, .string r.t] 28 2)
      simp only [List.getElem?_toArray, List.getElem?_cons_zero, List.getElem?_cons_succ] at x0 x1 x2
      have hbw : Below w.heap.size w w1 := ((Below.refl _ _).alloc (Nat.le_refl _) _).trans (hb1.mono (by simp))
      have hs1 := hb1.size
      simp only [World.size_alloc] at hs1
      clear hb1
      go_wp2_with fail
      refine (done_nil r.c r.n _ hw).mono ?_
      rintro e w' ⟨rfl, rfl⟩
      go_wp2_with fail
      refine (forget_nil r.c r.n _ hw).mono ?_
      rintro e w2 ⟨rfl, hb2⟩
      have y0 := (hb2.cell (p := ⟨w.heap.size, 0, none⟩) (by show w.heap.size < w1.heap.size; omega)).trans x0
      have y1 := (hb2.cell (p := ⟨w.heap.size, 1, none⟩) (by show w.heap.size < w1.heap.size; omega)).trans x1
      have y2 := (hb2.cell (p := ⟨w.heap.size, 2, none⟩) (by show w.heap.size < w1.heap.size; omega)).trans x2
      have hbw2 : Below w.heap.size w w2 := hbw.trans (hb2.mono (by omega))
      have hs2 : w.heap.size + 1 ≤ w2.heap.size := by have := hb2.size; omega
      clear hb2 x0 x1 x2 hbw hs1
      go_wp2_with fail
      refine (take_nil _).mono ?_
      rintro e w' ⟨rfl, rfl⟩
      go_wp2_with fail
      refine (has_nil r.c r.n _).mono ?_
      rintro e w3 ⟨rfl, hb3⟩
      have z0 := (hb3.cell (p := ⟨w.heap.size, 0, none⟩) (by show w.heap.size < w2.heap.size; omega)).trans y0
      have hbw3 : Below w.heap.size w w3 := hbw2.trans (hb3.mono (by omega))
      clear hb3 y0 y1 y2 hbw2
      go_wp2_with fail
      refine (last_nil r.c _).mono ?_
      rintro e w' ⟨rfl, rfl⟩
      go_wp2_with fail
      refine (len_nil _).mono ?_
      rintro e w' ⟨rfl, rfl⟩
      go_wp2_with fail
      refine (one_any _).mono ?_
      rintro e w4 ⟨rfl, hb4⟩
      go_wp2
      go_ret
      exact ⟨rfl, hbw3.trans (hb4.mono (by have := hbw3.size; omega))⟩

end Go.Proofs.Ytemldlfolacekaa
