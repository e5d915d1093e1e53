/- Done. -/
import Derived.Test.YtamlfapdifocoaaDoorBe
set_option linter.unusedVariables false
set_option linter.unusedSimpArgs false
set_option linter.unnecessarySimpa false
namespace Go.Proofs.YtamlfapdifocoaaDoor
open Go.RowKit Go.Shelf
attribute [local go_sem ↓] Go.wp_at_zero Go.wp_at_succ


set_option maxRecDepth 100000 in
set_option maxHeartbeats 400000 in
theorem done_wrong (p : Option Addr) (c n : Int) (w : World) (h : wrongB c n = true) :
    Calls Tryd.prog 12 #[.pointer p, .int .i64 c, .int .i64 n] w fun e w' => e = .returned (.tuple #[.bool false, .int .i64 1]) ∧ w = w' := by
  go_enter Tryd.func12, Tryd.ntmps12
  go_wp2_with (go_at_call 20; refine (wrong_yes _ _ _ h).mono ?_; rintro e w' ⟨rfl, rfl⟩)
  go_ret2
  exact ⟨rfl, rfl⟩

set_option maxRecDepth 100000 in
set_option maxHeartbeats 400000 in
theorem done_nil (c n : Int) (w : World) (h : wrongB c n = false) :
    Calls Tryd.prog 12 #[.pointer none, .int .i64 c, .int .i64 n] w fun e w' => e = .returned (.tuple #[.bool false, .int .i64 0]) ∧ w = w' := by
  go_enter Tryd.func12, Tryd.ntmps12
  go_wp2_with (go_at_call 20; refine (wrong_no _ _ _ h).mono ?_; rintro e w' ⟨rfl, rfl⟩)
  go_ret2
  exact ⟨rfl, rfl⟩

/-- what is done of each caller, with one number more -/
def upD (d : Nat → Int) (c : Nat) (n : Int) : Nat → Int := fun k => if k = c then max (d c) n else d k

theorem putD {w : World} {base B : Nat} {V : Value} {l : List Req} {d : Nat → Int} {c n : Int} (hp : PoolAt w base B V l d) (b1 : 0 ≤ c) (b2 : c ≤ 63) {M : Int} (hM : M = max (d c.toNat) n) :
    PoolAt (w.setCell ⟨B, 1 + c.toNat, none⟩ (.int .i64 M)).drew base B V l (upD d c.toNat n) ∧ Chg (fun k => k = B) w (w.setCell ⟨B, 1 + c.toNat, none⟩ (.int .i64 M)).drew := by
  have := hp.putNum (c := c.toNat) (by omega) M
  rw [Nat.add_comm, hM] at this
  rw [hM]
  exact ⟨(show PoolAt _ base B V l (upD d c.toNat n) from this).below (Below.refl _ _).drew, ((Chg.refl (fun k => k = B) w).setCell (p := ⟨B, 1 + c.toNat, none⟩) (fun _ => rfl) _).drew⟩

set_option maxRecDepth 100000 in
set_option maxHeartbeats 800000 in
theorem done_none (base B : Nat) (V : Value) (l : List Req) (d : Nat → Int) (c n : Int) (w : World) (hp : PoolAt w base B V l d) (h : wrongB c n = false) (hno : NoC c l) (hm : l.length ≤ 1000000) :
    Calls Tryd.prog 12 #[.pointer (some ⟨B, 0, none⟩), .int .i64 c, .int .i64 n] w fun e w' => e = .returned (.tuple #[.bool false, .int .i64 0]) ∧ PoolAt w' base B V l (upD d c.toNat n) ∧ Chg (fun k => k = B) w w' := by
  obtain ⟨b1, b2, b3, b4⟩ := wrong_bounds h
  have hlt := hp.lt
  have hd : w.cell? ⟨B, 1 + c.toNat, none⟩ = some (.int .i64 (d c.toNat)) := by rw [Nat.add_comm]; exact hp.num (by omega)
  have hf := hp.free (1 + c.toNat)
  have HP := Lib.hid hp
  clear hp
  by_cases hmx : n ≤ d c.toNat
  · go_enter Tryd.func12, Tryd.ntmps12
    go_wp2_with (go_at_call 20; refine (wrong_no _ _ _ h).mono ?_; rintro e w' ⟨rfl, rfl⟩)
    go_region
    go_wp2_with fail
    obtain ⟨hp1, hc1⟩ := putD (M := d c.toNat) (n := n) HP.out b1 b2 (by omega)
    refine (of_any base B V l _ c _ hp1 (by omega)).mono ?_
    rintro e w1 ⟨rfl, hb1⟩
    rw [idxC_none c l hno]
    go_wp2
    go_ret2
    exact ⟨rfl, hp1.below hb1, hc1.below hb1⟩
  · go_enter Tryd.func12, Tryd.ntmps12
    go_wp2_with (go_at_call 20; refine (wrong_no _ _ _ h).mono ?_; rintro e w' ⟨rfl, rfl⟩)
    go_region
    go_wp2_with fail
    obtain ⟨hp1, hc1⟩ := putD (M := n) (n := n) HP.out b1 b2 (by omega)
    refine (of_any base B V l _ c _ hp1 (by omega)).mono ?_
    rintro e w1 ⟨rfl, hb1⟩
    rw [idxC_none c l hno]
    go_wp2
    go_ret2
    exact ⟨rfl, hp1.below hb1, hc1.below hb1⟩

set_option maxRecDepth 100000 in
set_option maxHeartbeats 800000 in
theorem done_later (base B : Nat) (V : Value) (l : List Req) (d : Nat → Int) (c n : Int) (w : World) (hp : PoolAt w base B V l d) (h : wrongB c n = false) (k : Nat) (hk : k < l.length) (hat : AtC c l k) (h4 : n < l[k].n) (hm : l.length ≤ 1000000) :
    Calls Tryd.prog 12 #[.pointer (some ⟨B, 0, none⟩), .int .i64 c, .int .i64 n] w fun e w' => e = .returned (.tuple #[.bool false, .int .i64 0]) ∧ PoolAt w' base B V l (upD d c.toNat n) ∧ Chg (fun k => k = B) w w' := by
  obtain ⟨b1, b2, b3, b4⟩ := wrong_bounds h
  have hlt := hp.lt
  have hd : w.cell? ⟨B, 1 + c.toNat, none⟩ = some (.int .i64 (d c.toNat)) := by rw [Nat.add_comm]; exact hp.num (by omega)
  have hf := hp.free (1 + c.toNat)
  obtain ⟨g, cc, rfl, hg, _, hn, _⟩ := own_get hp.own hk
  have hk0 : (0 : Int) ≤ (k : Int) := by omega
  have hk1 : (k : Int) < (l.length : Int) := by omega
  have hk2 : decide ((k : Int) < 0) = false := by simp
  have HP := Lib.hid hp
  clear hp
  by_cases hmx : n ≤ d c.toNat
  · go_enter Tryd.func12, Tryd.ntmps12
    go_wp2_with (go_at_call 20; refine (wrong_no _ _ _ h).mono ?_; rintro e w' ⟨rfl, rfl⟩)
    go_region
    go_wp2_with fail
    obtain ⟨hp1, hc1⟩ := putD (M := d c.toNat) (n := n) HP.out b1 b2 (by omega)
    refine (of_any base B _ l _ c _ hp1 (by omega)).mono ?_
    rintro e w1 ⟨rfl, hb1⟩
    rw [hat.idx]
    have hp2 := hp1.below hb1
    have hc2 := hp2.head
    obtain ⟨_, _, hV, _, _, hn2, _⟩ := own_get hp2.own hk
    injection hV with hV _ _
    injection hV with hV
    injection hV with hV _ _
    subst hV
    have HP2 := Lib.hid hp2
    have HC2 := Lib.hid (hc1.below hb1)
    clear hp1 hp2 hc1 hn hd hf
    go_wp2
    go_ret2
    exact ⟨rfl, HP2.out, HC2.out⟩
  · go_enter Tryd.func12, Tryd.ntmps12
    go_wp2_with (go_at_call 20; refine (wrong_no _ _ _ h).mono ?_; rintro e w' ⟨rfl, rfl⟩)
    go_region
    go_wp2_with fail
    obtain ⟨hp1, hc1⟩ := putD (M := n) (n := n) HP.out b1 b2 (by omega)
    refine (of_any base B _ l _ c _ hp1 (by omega)).mono ?_
    rintro e w1 ⟨rfl, hb1⟩
    rw [hat.idx]
    have hp2 := hp1.below hb1
    have hc2 := hp2.head
    obtain ⟨_, _, hV, _, _, hn2, _⟩ := own_get hp2.own hk
    injection hV with hV _ _
    injection hV with hV
    injection hV with hV _ _
    subst hV
    have HP2 := Lib.hid hp2
    have HC2 := Lib.hid (hc1.below hb1)
    clear hp1 hp2 hc1 hn hd hf
    go_wp2
    go_ret2
    exact ⟨rfl, HP2.out, HC2.out⟩

set_option maxRecDepth 100000 in
set_option maxHeartbeats 800000 in
theorem done_gone (base B : Nat) (V : Value) (l : List Req) (d : Nat → Int) (c n : Int) (w : World) (hp : PoolAt w base B V l d) (h : wrongB c n = false) (k : Nat) (hk : k < l.length) (hat : AtC c l k) (h4 : l[k].n ≤ n) (hbase : base ≤ w.heap.size) (hm : l.length ≤ 1000000) :
    Calls Tryd.prog 12 #[.pointer (some ⟨B, 0, none⟩), .int .i64 c, .int .i64 n] w fun e w' => ∃ g cap, e = .returned (.tuple #[.bool true, .int .i64 0]) ∧ w.heap.size ≤ g ∧ PoolAt w' base B (.slice (some ⟨g, 0, none⟩) (l.length - 1) cap) (l.eraseIdx k) (upD d c.toNat n) ∧ Chg (fun k => k = B) w w' := by
  obtain ⟨b1, b2, b3, b4⟩ := wrong_bounds h
  have hlt := hp.lt
  have hd : w.cell? ⟨B, 1 + c.toNat, none⟩ = some (.int .i64 (d c.toNat)) := by rw [Nat.add_comm]; exact hp.num (by omega)
  have hf := hp.free (1 + c.toNat)
  obtain ⟨g, cc, rfl, hg, _, hn, _⟩ := own_get hp.own hk
  have hk0 : (0 : Int) ≤ (k : Int) := by omega
  have hk1 : (k : Int) < (l.length : Int) := by omega
  have hk2 : decide ((k : Int) < 0) = false := by simp
  have HP := Lib.hid hp
  clear hp
  by_cases hmx : n ≤ d c.toNat
  · go_enter Tryd.func12, Tryd.ntmps12
    go_wp2_with (go_at_call 20; refine (wrong_no _ _ _ h).mono ?_; rintro e w' ⟨rfl, rfl⟩)
    go_region
    go_wp2_with fail
    obtain ⟨hp1, hc1⟩ := putD (M := d c.toNat) (n := n) HP.out b1 b2 (by omega)
    refine (of_any base B _ l _ c _ hp1 (by omega)).mono ?_
    rintro e w1 ⟨rfl, hb1⟩
    rw [hat.idx]
    have hp2 := hp1.below hb1
    have hc2 := hp2.head
    obtain ⟨_, _, hV, _, _, hn2, _⟩ := own_get hp2.own hk
    injection hV with hV _ _
    injection hV with hV
    injection hV with hV _ _
    subst hV
    have HP2 := Lib.hid hp2
    have HC2 := Lib.hid (hc1.below hb1)
    have hs1 := HC2.out.size
    clear hp1 hp2 hc1 hn hd hf
    have hP1 := Lib.hid (gone_any base B _ l (upD d c.toNat n) k w1 HP2.out hk (by omega) (Nat.le_trans hbase hs1))
    go_wp2_with (go_at_call 22; refine hP1.out.mono ?_; rintro e w2 ⟨g1, cap1, rfl, hwg, hp3, hC3⟩)
    go_ret2
    exact ⟨g1, cap1, rfl, Nat.le_trans hs1 hwg, hp3, HC2.out.trans hC3 (fun _ _ h => h)⟩
  · go_enter Tryd.func12, Tryd.ntmps12
    go_wp2_with (go_at_call 20; refine (wrong_no _ _ _ h).mono ?_; rintro e w' ⟨rfl, rfl⟩)
    go_region
    go_wp2_with fail
    obtain ⟨hp1, hc1⟩ := putD (M := n) (n := n) HP.out b1 b2 (by omega)
    refine (of_any base B _ l _ c _ hp1 (by omega)).mono ?_
    rintro e w1 ⟨rfl, hb1⟩
    rw [hat.idx]
    have hp2 := hp1.below hb1
    have hc2 := hp2.head
    obtain ⟨_, _, hV, _, _, hn2, _⟩ := own_get hp2.own hk
    injection hV with hV _ _
    injection hV with hV
    injection hV with hV _ _
    subst hV
    have HP2 := Lib.hid hp2
    have HC2 := Lib.hid (hc1.below hb1)
    have hs1 := HC2.out.size
    clear hp1 hp2 hc1 hn hd hf
    have hP1 := Lib.hid (gone_any base B _ l (upD d c.toNat n) k w1 HP2.out hk (by omega) (Nat.le_trans hbase hs1))
    go_wp2_with (go_at_call 22; refine hP1.out.mono ?_; rintro e w2 ⟨g1, cap1, rfl, hwg, hp3, hC3⟩)
    go_ret2
    exact ⟨g1, cap1, rfl, Nat.le_trans hs1 hwg, hp3, HC2.out.trans hC3 (fun _ _ h => h)⟩


end Go.Proofs.YtamlfapdifocoaaDoor
