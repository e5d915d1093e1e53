/- MootNil: a nil moot takes nothing; a step opened. -/
import Derived.Test.YtijacbnoemjgcaaDoorPt33
import Derived.Test.YtijacbnoemjgcaaDoorPt34
import Derived.Test.YtijacbnoemjgcaaDoorPt35
set_option linter.unusedVariables false
set_option linter.unusedSimpArgs false
set_option linter.unnecessarySimpa false
namespace Go.Proofs.YtijacbnoemjgcaaDoor
open Go.RowKit Go.Shelf Go.ChangeShapes Go.WideShapes

def Stp.Ok (w : World) (o : Stp) : Prop := -9223372036854775808 ≤ o.n ∧ o.n ≤ 9223372036854775807
section
variable {H : Type} {enc : TypeId × Value → H} {w : World} {base : Nat} {spare : Nat → Bool} {held : Bool}
theorem cells_stpW : Tryd.prog.cellsOf 34 = 5 := by kernel_rfl
theorem cells_cmdW : Tryd.prog.cellsOf 32 = 3 := by kernel_rfl
theorem cells_iW : Tryd.prog.cellsOf 3 = 1 := by kernel_rfl
theorem open_stp (n : Nat) (cs : List Value) (y : DataW H × List MemPlace) (h : DataW.trod enc Tryd.prog w base spare held n 34 cs = some y) (hb : Rows.uptoBulk y.1 ≤ 1048576) :
    ∃ o : Stp, cs = o.cells ∧ o.Ok w := by
  have hcl := trod_cells Tryd.underlying34 h
  rw [cells_stpW] at hcl
  obtain ⟨v0, v1, v2, v3, v4, rfl⟩ : ∃ a b c d e, cs = [a, b, c, d, e] := by match cs, hcl with | [a, b, c, d, e], _ => exact ⟨a, b, c, d, e, rfl⟩
  obtain ⟨_, y0, t0, b0⟩ := trod_field Tryd.underlying34 h hb 0 _ rfl
  obtain ⟨_, y1, t1, b1⟩ := trod_field Tryd.underlying34 h hb 1 _ rfl
  obtain ⟨_, y2, t2, b2⟩ := trod_field Tryd.underlying34 h hb 2 _ rfl
  replace t0 : DataW.trod enc Tryd.prog w base spare held _ 3 (([v0, v1, v2, v3, v4].drop 0).take (Tryd.prog.cellsOf 3)) = some y0 := t0
  replace t1 : DataW.trod enc Tryd.prog w base spare held _ 3 (([v0, v1, v2, v3, v4].drop 1).take (Tryd.prog.cellsOf 3)) = some y1 := t1
  replace t2 : DataW.trod enc Tryd.prog w base spare held _ 32 (([v0, v1, v2, v3, v4].drop 2).take (Tryd.prog.cellsOf 32)) = some y2 := t2
  simp only [cells_iW, cells_cmdW, List.drop_zero, List.drop_succ_cons, List.take_succ_cons, List.take_zero] at t0 t1 t2
  obtain ⟨n0, e0, _⟩ := trod_i64 Tryd.underlying3 t0
  obtain ⟨n1, e1, hn⟩ := trod_i64 Tryd.underlying3 t1
  obtain ⟨_, x0, u0, _⟩ := trod_field Tryd.underlying32 t2 b2 0 _ rfl
  obtain ⟨_, x1, u1, _⟩ := trod_field Tryd.underlying32 t2 b2 1 _ rfl
  obtain ⟨_, x2, u2, _⟩ := trod_field Tryd.underlying32 t2 b2 2 _ rfl
  replace u0 : DataW.trod enc Tryd.prog w base spare held _ 3 (([v2, v3, v4].drop 0).take (Tryd.prog.cellsOf 3)) = some x0 := u0
  replace u1 : DataW.trod enc Tryd.prog w base spare held _ 3 (([v2, v3, v4].drop 1).take (Tryd.prog.cellsOf 3)) = some x1 := u1
  replace u2 : DataW.trod enc Tryd.prog w base spare held _ 3 (([v2, v3, v4].drop 2).take (Tryd.prog.cellsOf 3)) = some x2 := u2
  simp only [cells_iW, List.drop_zero, List.drop_succ_cons, List.take_succ_cons, List.take_zero] at u0 u1 u2
  obtain ⟨n2, e2, _⟩ := trod_i64 Tryd.underlying3 u0
  obtain ⟨n3, e3, _⟩ := trod_i64 Tryd.underlying3 u1
  obtain ⟨n4, e4, _⟩ := trod_i64 Tryd.underlying3 u2
  simp at e0 e1 e2 e3 e4
  subst e0 e1 e2 e3 e4
  exact ⟨⟨n0, n1, ⟨n2, n3, n4⟩⟩, rfl, hn⟩
theorem open_stpsW {fuel : Nat} {a0 : Option Addr} {len cap : Nat} {x : DataW H × List MemPlace} (h : DataW.trod enc Tryd.prog w base spare held fuel 22 [.slice a0 len cap] = some x) (hb : Rows.uptoBulk x.1 ≤ 1048576) :
    ∃ l : List Stp, l.length = len ∧ Rd w w.heap.size 5 (.slice a0 len cap) l.length (l.flatMap Stp.cells) ∧ l.length ≤ 1048576 ∧ ∀ o ∈ l, o.Ok w :=
  open_list Stp.cells 5 (by omega) (fun _ => rfl) (fun o => o.Ok w) Tryd.underlying22 cells_stpW open_stp h hb
end

set_option maxHeartbeats 1000000 in
set_option maxRecDepth 100000 in
theorem mget_nil (num : Int) (w : World) : Calls Tryd.prog 13 #[.pointer none, .int .i64 num] w fun e w' => ∃ s', e = .returned (.tuple #[cfg0.val s', .int .i64 6]) ∧ w'.ownsRow w.heap.size 3 1 s' cfg0.gs.length (ints cfg0.gs) ∧ Below w.heap.size w w' := by
  go_enter Tryd.func13, Tryd.ntmps13
  go_wp2_with fail
  refine bodyPost_ret (v := .tuple #[cfg0.val (.slice none 0 0), .int .i64 6]) (by simp [results, Tryd.results13, go_sem, Cfg.val, cfg0]) rfl ?_
  exact ⟨_, rfl, World.ownsRow_nil _ _ _ _, (Below.refl _ _).alloc (Nat.le_refl _) _⟩
set_option maxHeartbeats 1000000 in
set_option maxRecDepth 100000 in
theorem mlast_nil (w : World) : GivesC 15 #[.pointer none] w cfg0 := by
  unfold GivesC
  go_enter Tryd.func15, Tryd.ntmps15
  go_wp2_with fail
  refine bodyPost_ret (v := cfg0.val (.slice none 0 0)) (by simp [results, Tryd.results15, go_sem, Cfg.val, cfg0]) rfl ?_
  exact ⟨_, rfl, World.ownsRow_nil _ _ _ _, (Below.refl _ _).alloc (Nat.le_refl _) _⟩
set_option maxHeartbeats 1000000 in
set_option maxRecDepth 100000 in
theorem mtext_nil (w : World) : Calls Tryd.prog 10 #[.pointer none] w fun e w' => e = .returned (.string ⟨#[]⟩) ∧ w' = w := by
  go_enter Tryd.func10, Tryd.ntmps10
  go_wp2_with fail
  go_ret
  exact ⟨rfl, rfl⟩
set_option maxHeartbeats 2000000 in
set_option maxRecDepth 100000 in
theorem mdo_nil (c n : Int) (x : Cmd) (w : World) : Calls Tryd.prog 7 #[.pointer none, .int .i64 c, .int .i64 n, .agg #[.int .i64 x.kind, .int .i64 x.group, .int .i64 x.shard]] w fun e w' => e = .returned (.tuple #[.int .i64 0, .bool false, .int .i64 (if badA c n = true then 1 else 7)]) ∧ Below w.heap.size w w' := by
  have hb0 : Below w.heap.size w (w.alloc (.cells #[.int .i64 x.kind, .int .i64 x.group, .int .i64 x.shard] 32)) := (Below.refl _ w).alloc (Nat.le_refl _) _
  have HB := Lib.hid hb0
  have HD : Hid (badA c n = (decide (c < 0) || decide (8 ≤ c) || decide (n < 1) || decide (1099511627776 < n))) := rfl
  generalize badA c n = bb at *
  clear hb0
  by_cases c0 : c < 0
  · have hv : bb = true := by rw [HD.out]; simp [c0]
    subst hv
    clear HD
    go_enter Tryd.func7, Tryd.ntmps7
    go_wp2_with fail
    refine bodyPost_ret (v := .tuple #[.int .i64 0, .bool false, .int .i64 1]) (by simp [results, Tryd.results7, go_sem]) rfl ⟨rfl, HB.out⟩
  have c0' : decide (c < 0) = false := by rw [decide_eq_false_iff_not]; omega
  by_cases c8 : 8 ≤ c
  · have hv : bb = true := by rw [HD.out]; simp [c8]
    subst hv
    clear HD c0
    go_enter Tryd.func7, Tryd.ntmps7
    go_wp2_with fail
    refine bodyPost_ret (v := .tuple #[.int .i64 0, .bool false, .int .i64 1]) (by simp [results, Tryd.results7, go_sem]) rfl ⟨rfl, HB.out⟩
  have c8' : decide (8 ≤ c) = false := by rw [decide_eq_false_iff_not]; omega
  by_cases n1 : n < 1
  · have hv : bb = true := by rw [HD.out]; simp [n1]
    subst hv
    clear HD c0 c8
    go_enter Tryd.func7, Tryd.ntmps7
    go_wp2_with fail
    refine bodyPost_ret (v := .tuple #[.int .i64 0, .bool false, .int .i64 1]) (by simp [results, Tryd.results7, go_sem]) rfl ⟨rfl, HB.out⟩
  have n1' : decide (n < 1) = false := by rw [decide_eq_false_iff_not]; omega
  by_cases n2 : 1099511627776 < n
  · have hv : bb = true := by rw [HD.out]; simp [n2]
    subst hv
    clear HD c0 c8 n1
    go_enter Tryd.func7, Tryd.ntmps7
    go_wp2_with fail
    refine bodyPost_ret (v := .tuple #[.int .i64 0, .bool false, .int .i64 1]) (by simp [results, Tryd.results7, go_sem]) rfl ⟨rfl, HB.out⟩
  have n2' : decide (1099511627776 < n) = false := by rw [decide_eq_false_iff_not]; omega
  have hv : bb = false := by rw [HD.out, c0', c8', n1', n2']; rfl
  subst hv
  clear HD c0 c8 n1 n2
  go_enter Tryd.func7, Tryd.ntmps7
  go_wp2_with fail
  refine bodyPost_ret (v := .tuple #[.int .i64 0, .bool false, .int .i64 7]) (by simp [results, Tryd.results7, go_sem]) rfl ⟨rfl, HB.out⟩

set_option maxHeartbeats 2000000 in
set_option maxRecDepth 100000 in
theorem mnil_lawM (o : Stp) (w : World) :
    Calls Tryd.prog 4 #[.agg o.cells.toArray] w fun e w' => e = .returned (.bool true) ∧ Below w.heap.size w w' := by
  obtain ⟨c, n, x⟩ := o
  have hb0 := (Below.refl w.heap.size w).alloc (Nat.le_refl _) (.cells #[.int .i64 c, .int .i64 n, .int .i64 x.kind, .int .i64 x.group, .int .i64 x.shard] 34)
  have hB := Blk.new w 34 #[.int .i64 c, .int .i64 n, .int .i64 x.kind, .int .i64 x.group, .int .i64 x.shard]
  have hd := fun w1 => mdo_nil c n x w1
  have hbad : badA c n = (decide (c < 0) || decide (8 ≤ c) || decide (n < 1) || decide (1099511627776 < n)) := rfl
  simp only [Stp.cells]
  have hsp : (c < 0) ∨ (¬ c < 0 ∧ 8 ≤ c) ∨ (¬ c < 0 ∧ ¬ 8 ≤ c ∧ n < 1) ∨ (¬ c < 0 ∧ ¬ 8 ≤ c ∧ ¬ n < 1 ∧ 1099511627776 < n) ∨ (¬ c < 0 ∧ ¬ 8 ≤ c ∧ ¬ n < 1 ∧ ¬ 1099511627776 < n) := by omega
  have HB0 := Lib.hid hb0
  have HB := Lib.hid hB
  clear hb0 hB
  rcases hsp with h1 | ⟨h1, h2⟩ | ⟨h1, h2, h3⟩ | ⟨h1, h2, h3, h4⟩ | ⟨h1, h2, h3, h4⟩
  case' inl =>
    have g1 : decide (0 ≤ c) = false := by rw [decide_eq_false_iff_not]; omega
    rw [if_pos (by rw [hbad]; simp [h1])] at hd
  case' inr.inl =>
    have g1 : decide (0 ≤ c) = true := by rw [decide_eq_true_eq]; omega
    have g2 : decide (c ≤ 7) = false := by rw [decide_eq_false_iff_not]; omega
    rw [if_pos (by rw [hbad]; simp [h2])] at hd
  case' inr.inr.inl =>
    have g1 : decide (0 ≤ c) = true := by rw [decide_eq_true_eq]; omega
    have g2 : decide (c ≤ 7) = true := by rw [decide_eq_true_eq]; omega
    have g3 : decide (1 ≤ n) = false := by rw [decide_eq_false_iff_not]; omega
    rw [if_pos (by rw [hbad]; simp [h3])] at hd
  case' inr.inr.inr.inl =>
    have g1 : decide (0 ≤ c) = true := by rw [decide_eq_true_eq]; omega
    have g2 : decide (c ≤ 7) = true := by rw [decide_eq_true_eq]; omega
    have g3 : decide (1 ≤ n) = true := by rw [decide_eq_true_eq]; omega
    have g4 : decide (n ≤ 1099511627776) = false := by rw [decide_eq_false_iff_not]; omega
    rw [if_pos (by rw [hbad]; simp [h4])] at hd
  case' inr.inr.inr.inr =>
    have g1 : decide (0 ≤ c) = true := by rw [decide_eq_true_eq]; omega
    have g2 : decide (c ≤ 7) = true := by rw [decide_eq_true_eq]; omega
    have g3 : decide (1 ≤ n) = true := by rw [decide_eq_true_eq]; omega
    have g4 : decide (n ≤ 1099511627776) = true := by rw [decide_eq_true_eq]; omega
    rw [if_neg (by rw [hbad]; simp [h1, h2, h3, h4] <;> omega)] at hd
  all_goals
    have HD := Lib.hid hd
    clear hd hbad
    go_enter Tryd.func4, Tryd.ntmps4
    go_wp2_with fail
    refine (HD.out _).mono ?_
    rintro e w1 ⟨rfl, hb1⟩
    have hk := HB.out.below hb1 HB.out.lt
    have k0 := hk.cell 0
    have k1 := hk.cell 1
    have HB1 := Lib.hid (HB0.out.trans (hb1.mono HB0.out.size))
    clear hb1 hk HD
    go_wp2_with fail
    refine (mget_nil n w1).mono ?_
    rintro e w2 ⟨s', rfl, hs, hb2⟩
    obtain ⟨A, cc, rfl⟩ := own_shape hs
    have HB2 := Lib.hid (HB1.out.trans (hb2.mono HB1.out.size))
    unfold Cfg.val cfg0
    clear hs hb2
    have HB3 := Lib.hid (HB2.out.alloc HB2.out.size (.cells #[.int .i64 0, .slice A 0 cc, .int .i64 0, .int .i64 0, .int .i64 0, .int .i64 0] 49))
    go_wp2_with fail
    refine (mlast_nil _).mono ?_
    rintro e w4 ⟨s4, rfl, hs4, hb4⟩
    obtain ⟨A4, c4, rfl⟩ := own_shape hs4
    have HB4 := Lib.hid (HB3.out.trans (hb4.mono HB3.out.size))
    unfold Cfg.val cfg0
    have hfl := field_num 0 0 0 0 0 A4 0 c4 w4
    clear hs4 hb4
    simp only at hfl ⊢
    go_wp2_with fail
    clear hfl
    refine (mtext_nil _).mono ?_
    rintro e w5 ⟨rfl, rfl⟩
    go_wp2_with fail
    refine (one_any _).mono ?_
    rintro e w6 ⟨rfl, hb6⟩
    go_wp2
    go_ret
    exact ⟨rfl, HB4.out.trans (hb6.mono HB4.out.size)⟩

end Go.Proofs.YtijacbnoemjgcaaDoor
