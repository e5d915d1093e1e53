/- CertMeets: the law's walk. -/
import Derived.Test.YtkmhimaeakbpoaaDoorPc26
import Derived.Test.YtkmhimaeakbpoaaDoorPc27
set_option linter.unusedVariables false
set_option linter.unusedSimpArgs false
set_option linter.unnecessarySimpa false
namespace Go.Proofs.YtkmhimaeakbpoaaDoor
open Go.RowKit Go.Shelf

/-- How many of the first bits are 1 in both. -/
def cntC (a b : Int) : Nat → Int
  | 0 => 0
  | k + 1 => cntC a b k + bitI a k * bitI b k
theorem and_bits (x y : Int) (k : Nat) : bits BinOp.and IntKind.i64 (bits BinOp.and IntKind.i64 (x / 2 ^ k) (y / 2 ^ k)) 1 = bitI x k * bitI y k := and_both _ _
theorem bit2 (a b : Int) (k : Nat) : (bitI a k = 0 ∨ bitI a k = 1) ∧ (bitI b k = 0 ∨ bitI b k = 1) := by
  have := bitI_rng a k
  have := bitI_rng b k
  omega
theorem bit_mul (a b : Int) (k : Nat) : 0 ≤ bitI a k * bitI b k ∧ bitI a k * bitI b k ≤ 1 ∧ bitI a k + bitI b k ≤ 1 + bitI a k * bitI b k := by
  obtain ⟨h1 | h1, h2 | h2⟩ := bit2 a b k <;> rw [h1, h2] <;> decide
theorem cntC_rng (a b : Int) (k : Nat) : 0 ≤ cntC a b k ∧ cntC a b k ≤ k ∧ cntB a k + cntB b k ≤ k + cntC a b k := by
  induction k with
  | zero => simp [cntC, cntB]
  | succ k ih =>
    have := bit_mul a b k
    simp only [cntC, cntB]
    omega

set_option maxHeartbeats 4000000 in
set_option maxRecDepth 100000 in
theorem cmeets_law (f a b : Int) (w : World) (hl : LayN w) :
    Calls Tryd.prog 4 #[.int .i64 f, .int .i64 a, .int .i64 b] w fun e w' => e = .returned (.bool true) ∧ Below w.heap.size w w' := by
  have HO := Lib.hid (fun w1 (h : LayN w1) => one_any w1 h)
  by_cases h0 : f < 0
  · go_enter Tryd.func4, Tryd.ntmps4
    go_wp2_with fail
    refine (HO.out _ hl).mono ?_
    rintro e w1 ⟨rfl, hb⟩
    go_wp2
    go_ret
    exact ⟨rfl, hb⟩
  have d0 : decide (f < 0) = false := decide_eq_false h0
  by_cases h3 : 3 < f
  · clear h0
    go_enter Tryd.func4, Tryd.ntmps4
    go_wp2_with fail
    refine (HO.out _ hl).mono ?_
    rintro e w1 ⟨rfl, hb⟩
    go_wp2
    go_ret
    exact ⟨rfl, hb⟩
  have d3 : decide (3 < f) = false := decide_eq_false h3
  obtain ⟨q, rfl⟩ : ∃ q : Nat, f = q := ⟨f.toNat, by omega⟩
  have hq : q ≤ 3 := by omega
  have hand := and_bit
  have hand2 := and_bits
  have hw3 : IntKind.i64.wrap (3 * (q : Int)) = 3 * (q : Int) := by rw [IntKind.wrap_i64]; omega
  have hw4 : IntKind.i64.wrap (3 * (q : Int) + 1) = 3 * (q : Int) + 1 := by rw [IntKind.wrap_i64]; omega
  clear h0 h3
  go_enter Tryd.func4, Tryd.ntmps4
  go_wp2_with fail
  go_loopw [8, 9, 10, 11] (fun x y z k wr => ∃ (j : Nat), j ≤ 3 * q + 1 ∧ k = .int .i64 j ∧ x = .int .i64 (cntB a j) ∧ y = .int .i64 (cntB b j) ∧ z = .int .i64 (cntC a b j) ∧ wr = w) (fun _ _ _ k _ => 3 * q + 1 - (intOf k).toNat)
  case atStart => exact ⟨0, by omega, rfl, rfl, rfl, rfl, rfl⟩
  case round =>
    obtain ⟨j, hj, rfl, rfl, rfl, rfl, rfl⟩ := hrel
    have hc1 := cntB_rng a j
    have hc2 := cntB_rng b j
    have hc3 := cntC_rng a b j
    by_cases hlt : (j : Int) < 3 * (q : Int) + 1
    · have hb1 := bitI_rng a j
      have hb2 := bitI_rng b j
      have hb3 := bit_mul a b j
      have hww : IntKind.i64.wrap (cntC a b j + bitI a j * bitI b j) = cntC a b j + bitI a j * bitI b j := by rw [IntKind.wrap_i64]; omega
      have hww1 : IntKind.i64.wrap (cntB a j + bitI a j) = cntB a j + bitI a j := by rw [IntKind.wrap_i64]; omega
      have hww2 : IntKind.i64.wrap (cntB b j + bitI b j) = cntB b j + bitI b j := by rw [IntKind.wrap_i64]; omega
      go_wp2_with fail
      exact ⟨⟨j + 1, by omega, by simp, rfl, rfl, rfl, trivial⟩, by simp [intOf]; omega⟩
    · obtain rfl : j = 3 * q + 1 := by omega
      have hw5 : IntKind.i64.wrap (2 * (q : Int)) = 2 * (q : Int) := by rw [IntKind.wrap_i64]; omega
      have hw6 : IntKind.i64.wrap (2 * (q : Int) + 1) = 2 * (q : Int) + 1 := by rw [IntKind.wrap_i64]; omega
      have hw7 : IntKind.i64.wrap ((q : Int) + 1) = (q : Int) + 1 := by rw [IntKind.wrap_i64]; omega
      generalize cntB a (3 * q + 1) = x at *
      generalize cntB b (3 * q + 1) = y at *
      generalize cntC a b (3 * q + 1) = z at *
      clear hand hand2 hlt
      by_cases hx : x < 2 * (q : Int) + 1
      · clear hc1 hc2 hc3
        go_wp2_with fail
        refine (HO.out _ hl).mono ?_
        rintro e w1 ⟨rfl, hb⟩
        go_wp2
        go_ret
        exact ⟨rfl, hb⟩
      have dx : decide (x < 2 * (q : Int) + 1) = false := decide_eq_false hx
      by_cases hy : y < 2 * (q : Int) + 1
      · clear hc1 hc2 hc3 hx
        go_wp2_with fail
        refine (HO.out _ hl).mono ?_
        rintro e w1 ⟨rfl, hb⟩
        go_wp2
        go_ret
        exact ⟨rfl, hb⟩
      have dy : decide (y < 2 * (q : Int) + 1) = false := decide_eq_false hy
      have dz : (q : Int) + 1 ≤ z := by omega
      clear hc1 hc2 hc3 hx hy
      go_wp2_with fail
      refine (HO.out _ hl).mono ?_
      rintro e w1 ⟨rfl, hb⟩
      go_wp2
      go_ret
      exact ⟨rfl, hb⟩

end Go.Proofs.YtkmhimaeakbpoaaDoor
