/- The law's small case: one. -/
import Derived.Test.YtamlfapdifocoaaDoorBj
import Derived.Test.YtamlfapdifocoaaDoorBg
set_option linter.unusedVariables false
set_option linter.unusedSimpArgs false
set_option linter.unnecessarySimpa false
namespace Go.Proofs.YtamlfapdifocoaaDoor
open Go.RowKit Go.Shelf

/-- Block B is a pool, all of it from block base on. -/
def PoolIn (w : World) (base B : Nat) (l : List Req) (d : Nat → Int) : Prop := base ≤ B ∧ base ≤ w.heap.size ∧ ∃ V, PoolAt w base B V l d

theorem PoolIn.below {w w' : World} {base B : Nat} {l : List Req} {d : Nat → Int} (h : PoolIn w base B l d) (hb : Below w.heap.size w w') : PoolIn w' base B l d := by
  obtain ⟨h1, h2, V, hp⟩ := h
  exact ⟨h1, Nat.le_trans h2 hb.size, V, hp.below hb⟩

theorem PoolIn.of_to {w w' : World} {base B : Nat} {V : Value} {l l' : List Req} {d d' : Nat → Int} (hB : base ≤ B) (hw : base ≤ w.heap.size) (hp : PoolAt w base B V l d) (ht : PoolTo w w' base B V l' d') :
    PoolIn w' base B l' d' ∧ Below base w w' := by
  obtain ⟨V', hp', hc, hV⟩ := ht
  refine ⟨⟨hB, Nat.le_trans hw hc.size, V', hp'⟩, hc.to_below (fun i hi f => ?_) hw⟩
  rcases f with rfl | f
  · omega
  · have := (hp.own.lt _ f).1; omega

theorem add_in (base B : Nat) (l : List Req) (d : Nat → Int) (c n : Int) (t : ByteArray) (w : World) (hp : PoolIn w base B l d) (hl : l.length ≤ 24) :
    Calls Tryd.prog 11 #[.pointer (some ⟨B, 0, none⟩), .agg #[.int .i64 c, .int .i64 n, .string t]] w fun e w' =>
      e = .returned (.tuple #[.bool (addS l d ⟨c, n, t⟩).1, .int .i64 (addS l d ⟨c, n, t⟩).2.1]) ∧ PoolIn w' base B (addS l d ⟨c, n, t⟩).2.2 d ∧ Below base w w' := by
  obtain ⟨h1, h2, V, hp⟩ := hp
  exact (add_any base B V l d ⟨c, n, t⟩ w hp hl h2).mono fun _ _ ⟨he, ht⟩ => ⟨he, PoolIn.of_to h1 h2 hp ht⟩

theorem done_in (base B : Nat) (l : List Req) (d : Nat → Int) (c n : Int) (w : World) (hp : PoolIn w base B l d) (hl : l.length ≤ 24) :
    Calls Tryd.prog 12 #[.pointer (some ⟨B, 0, none⟩), .int .i64 c, .int .i64 n] w fun e w' =>
      e = .returned (.tuple #[.bool (doneS l d c n).1, .int .i64 (doneS l d c n).2.1]) ∧ PoolIn w' base B (doneS l d c n).2.2.1 (doneS l d c n).2.2.2 ∧ Below base w w' := by
  obtain ⟨h1, h2, V, hp⟩ := hp
  exact (done_any base B V l d c n w hp hl h2).mono fun _ _ ⟨he, ht⟩ => ⟨he, PoolIn.of_to h1 h2 hp ht⟩

theorem last_in (base B : Nat) (l : List Req) (d : Nat → Int) (c : Int) (w : World) (hp : PoolIn w base B l d) :
    Calls Tryd.prog 13 #[.pointer (some ⟨B, 0, none⟩), .int .i64 c] w fun e w' => e = .returned (.int .i64 (if wrongB c 1 = true then 0 else d c.toNat)) ∧ Below w.heap.size w w' := by
  obtain ⟨h1, h2, V, hp⟩ := hp
  exact last_any base B V l d c w hp

def sa : ByteArray := ⟨#[97]⟩
def sb : ByteArray := ⟨#[98]⟩
def sc : ByteArray := ⟨#[99]⟩
def d0 : Nat → Int := fun _ => 0
theorem one1 : addS [] d0 ⟨1, 5, ⟨#[97]⟩⟩ = (true, 0, [⟨1, 5, ⟨#[97]⟩⟩]) := by rfl
theorem one2 : addS [⟨1, 5, ⟨#[97]⟩⟩] d0 ⟨1, 5, ⟨#[98]⟩⟩ = (false, 0, [⟨1, 5, ⟨#[97]⟩⟩]) := by rfl
theorem one3 : addS [⟨1, 5, ⟨#[97]⟩⟩] d0 ⟨1, 6, ⟨#[98]⟩⟩ = (true, 0, [⟨1, 6, ⟨#[98]⟩⟩]) := by rfl
theorem one4 : doneS [⟨1, 6, ⟨#[98]⟩⟩] d0 1 6 = (true, 0, [], upD d0 1 6) := by rfl
theorem one5 : addS [] (upD d0 1 6) ⟨1, 6, ⟨#[99]⟩⟩ = (false, 0, []) := by rfl

set_option maxRecDepth 100000 in
set_option maxHeartbeats 800000 in
theorem one_any (w : World) : Calls Tryd.prog 4 #[] w fun e w' => e = .returned (.bool true) ∧ Below w.heap.size w w' := by
  go_enter Tryd.func4, Tryd.ntmps4
  go_wp2_with fail
  refine (new_any w).mono ?_
  rintro e w1 ⟨rfl, hp, hb⟩
  have hp1 : PoolIn w1 w.heap.size w.heap.size [] d0 := ⟨Nat.le_refl _, hb.size, _, hp⟩
  clear hp
  go_wp2_with fail
  refine (add_in w.heap.size w.heap.size [] d0 _ _ _ _ hp1 (by simp)).mono ?_
  rw [one1]
  rintro e w2 ⟨rfl, hp2, hb2⟩
  go_wp2_with fail
  refine (add_in w.heap.size w.heap.size _ d0 _ _ _ _ hp2 (by simp)).mono ?_
  rw [one2]
  rintro e w3 ⟨rfl, hp3, hb3⟩
  go_wp2_with fail
  refine (add_in w.heap.size w.heap.size _ d0 _ _ _ _ hp3 (by simp)).mono ?_
  rw [one3]
  rintro e w4 ⟨rfl, hp4, hb4⟩
  go_wp2_with fail
  refine (done_in w.heap.size w.heap.size _ d0 _ _ _ hp4 (by simp)).mono ?_
  rw [one4]
  rintro e w5 ⟨rfl, hp5, hb5⟩
  go_wp2_with fail
  refine (add_in w.heap.size w.heap.size _ _ _ _ _ _ hp5 (by simp)).mono ?_
  rw [one5]
  rintro e w6 ⟨rfl, hp6, hb6⟩
  go_wp2_with fail
  refine (last_in w.heap.size w.heap.size _ _ _ _ hp6).mono ?_
  rintro e w7 ⟨rfl, hb7⟩
  go_wp2
  go_ret
  exact ⟨rfl, (((((hb.trans hb2).trans hb3).trans hb4).trans hb5).trans hb6).trans (hb7.mono hp6.2.1)⟩

end Go.Proofs.YtamlfapdifocoaaDoor
