/- Add. -/
import Derived.Test.YtamlfapdifocoaaDoorBc
import Derived.Deep.QuietTactic
import Derived.BigQuiet
set_option linter.unusedVariables false
set_option linter.unusedSimpArgs false
set_option linter.unnecessarySimpa false
namespace Go.Proofs.YtamlfapdifocoaaDoor
open Go.RowKit Go.Shelf

/-- A pool's step: the pool lies at B as before, its list in its old row or in a new one. -/
def PoolTo (w w' : World) (base B : Nat) (V : Value) (l' : List Req) (d' : Nat → Int) : Prop :=
  ∃ V', PoolAt w' base B V' l' d' ∧ Chg (fun k => k = B ∨ V.ownBlock = some k) w w' ∧ ∀ g, V'.ownBlock = some g → V.ownBlock = some g ∨ w.heap.size ≤ g

set_option maxRecDepth 100000 in
set_option maxHeartbeats 400000 in
theorem add_wrong (p : Option Addr) (r : Req) (w : World) (h : wrongB r.c r.n = true) :
    Calls Tryd.prog 11 #[.pointer p, .agg #[.int .i64 r.c, .int .i64 r.n, .string r.t]] w fun e w' => e = .returned (.tuple #[.bool false, .int .i64 1]) ∧ Below w.heap.size w w' := by
  go_enter Tryd.func11, Tryd.ntmps11
  go_wp2_with (go_at_call 20; refine (wrong_yes _ _ _ h).mono ?_; rintro e w' ⟨rfl, rfl⟩)
  go_ret2
  exact ⟨rfl, (Below.refl _ _).alloc (Nat.le_refl _) _⟩

set_option maxRecDepth 100000 in
set_option maxHeartbeats 400000 in
theorem add_long (p : Option Addr) (r : Req) (w : World) (h : wrongB r.c r.n = false) (h2 : 4000 < r.t.size) :
    Calls Tryd.prog 11 #[.pointer p, .agg #[.int .i64 r.c, .int .i64 r.n, .string r.t]] w fun e w' => e = .returned (.tuple #[.bool false, .int .i64 2]) ∧ Below w.heap.size w w' := by
  go_enter Tryd.func11, Tryd.ntmps11
  go_wp2_with (go_at_call 20; refine (wrong_no _ _ _ h).mono ?_; rintro e w' ⟨rfl, rfl⟩)
  go_ret2
  exact ⟨rfl, (Below.refl _ _).alloc (Nat.le_refl _) _⟩

set_option maxRecDepth 100000 in
set_option maxHeartbeats 400000 in
theorem add_nil (r : Req) (w : World) (h : wrongB r.c r.n = false) (h2 : r.t.size ≤ 4000) :
    Calls Tryd.prog 11 #[.pointer none, .agg #[.int .i64 r.c, .int .i64 r.n, .string r.t]] w fun e w' => e = .returned (.tuple #[.bool false, .int .i64 5]) ∧ Below w.heap.size w w' := by
  go_enter Tryd.func11, Tryd.ntmps11
  go_wp2_with (go_at_call 20; refine (wrong_no _ _ _ h).mono ?_; rintro e w' ⟨rfl, rfl⟩)
  go_ret2
  exact ⟨rfl, (Below.refl _ _).alloc (Nat.le_refl _) _⟩

theorem wrong_bounds {c n : Int} (h : wrongB c n = false) : 0 ≤ c ∧ c ≤ 63 ∧ 1 ≤ n ∧ n ≤ 1099511627776 := by
  simp only [wrongB, Bool.or_eq_false_iff, decide_eq_false_iff_not] at h
  omega

set_option maxRecDepth 100000 in
set_option maxHeartbeats 400000 in
theorem add_done (base B : Nat) (V : Value) (l : List Req) (d : Nat → Int) (r : Req) (w : World) (hp : PoolAt w base B V l d) (h : wrongB r.c r.n = false) (h2 : r.t.size ≤ 4000) (h3 : r.n ≤ d r.c.toNat) :
    Calls Tryd.prog 11 #[.pointer (some ⟨B, 0, none⟩), .agg #[.int .i64 r.c, .int .i64 r.n, .string r.t]] w fun e w' => e = .returned (.tuple #[.bool false, .int .i64 0]) ∧ Below w.heap.size w w' := by
  obtain ⟨b1, b2, b3, b4⟩ := wrong_bounds h
  have hlt := hp.lt
  have hd : w.cell? ⟨B, 1 + r.c.toNat, none⟩ = some (.int .i64 (d r.c.toNat)) := by rw [Nat.add_comm]; exact hp.num (by omega)
  clear hp
  go_enter Tryd.func11, Tryd.ntmps11
  go_wp2_with (go_at_call 20; refine (wrong_no _ _ _ h).mono ?_; rintro e w' ⟨rfl, rfl⟩)
  go_quiet (fail)
  go_wp2
  go_ret2
  exact ⟨rfl, below_drewN ((Below.refl _ _).alloc (Nat.le_refl _) _) _⟩

/-- where the request of a caller stands, as 'of' tells it -/
def AtC (x : Int) (l : List Req) (k : Nat) : Prop := ∃ h : k < l.length, l[k].c = x ∧ ∀ j (hj : j < k), l[j].c ≠ x
def NoC (x : Int) (l : List Req) : Prop := ∀ j (hj : j < l.length), l[j].c ≠ x
theorem AtC.idx {x : Int} {l : List Req} {k : Nat} (h : AtC x l k) : idxC x l = k := by obtain ⟨h1, h2, h3⟩ := h; exact idxC_at x l k h1 h2 h3

set_option maxRecDepth 100000 in
set_option maxHeartbeats 400000 in
theorem add_full (base B : Nat) (V : Value) (l : List Req) (d : Nat → Int) (r : Req) (w : World) (hp : PoolAt w base B V l d) (h : wrongB r.c r.n = false) (h2 : r.t.size ≤ 4000) (h3 : d r.c.toNat < r.n)
    (hno : NoC r.c l) (hl : l.length = 24) :
    Calls Tryd.prog 11 #[.pointer (some ⟨B, 0, none⟩), .agg #[.int .i64 r.c, .int .i64 r.n, .string r.t]] w fun e w' => e = .returned (.tuple #[.bool false, .int .i64 5]) ∧ Below w.heap.size w w' := by
  obtain ⟨b1, b2, b3, b4⟩ := wrong_bounds h
  have hlt := hp.lt
  have hd : w.cell? ⟨B, 1 + r.c.toNat, none⟩ = some (.int .i64 (d r.c.toNat)) := by rw [Nat.add_comm]; exact hp.num (by omega)
  have H1 := fun (o : Obj) (n : Nat) => of_any base B V l d r.c ((w.alloc o).drewN n) (hp.below (below_drewN ((Below.refl _ _).alloc (Nat.le_refl _) _) _)) (by omega)
  rw [idxC_none r.c l hno] at H1
  have H2 := Lib.hid H1
  obtain ⟨A, c, rfl⟩ := hp.form
  have HP := Lib.hid hp
  clear H1 hp
  go_enter Tryd.func11, Tryd.ntmps11
  go_wp2_with (go_at_call 20; refine (wrong_no _ _ _ h).mono ?_; rintro e w' ⟨rfl, rfl⟩)
  go_quiet (fail)
  go_wp2_with (go_at_call 21; refine (H2.out _ _).mono ?_; rintro e w1 ⟨rfl, hb1⟩)
  have hbw : Below w.heap.size w w1 := (below_drewN ((Below.refl _ _).alloc (Nat.le_refl _) _) _).trans (hb1.mono (by simp))
  have hc1 := (HP.out.below hbw).head
  go_quiet (fail)
  go_wp2
  go_ret2
  exact ⟨rfl, below_drewN hbw _⟩

end Go.Proofs.YtamlfapdifocoaaDoor
