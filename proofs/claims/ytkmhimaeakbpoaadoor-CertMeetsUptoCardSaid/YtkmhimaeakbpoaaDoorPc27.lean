/- Bits of a number: Go's 'x>>uint(k)&1'. -/
import Derived.Test.YtkmhimaeakbpoaaDoorPc2
import Derived.Laws.Bits64b
set_option linter.unusedVariables false
set_option linter.unusedSimpArgs false
set_option linter.unnecessarySimpa false
namespace Go.Proofs.YtkmhimaeakbpoaaDoor
open Go.RowKit

def bitI (x : Int) (k : Nat) : Int := (x / 2 ^ k) % 2
theorem bitI_rng (x : Int) (k : Nat) : 0 ≤ bitI x k ∧ bitI x k ≤ 1 := by unfold bitI; omega
theorem ofInt64 (x : Int) : ((BitVec.ofInt 64 x).toNat : Int) = x % 18446744073709551616 := by
  rw [BitVec.toNat_ofInt]
  omega
theorem and_one (x : Int) : bits BinOp.and IntKind.i64 x 1 = x % 2 := by
  show IntKind.i64.wrap ((BitVec.ofInt 64 x &&& BitVec.ofInt 64 1).toNat : Int) = _
  rw [BitVec.toNat_and, show (BitVec.ofInt 64 1).toNat = 1 from rfl, Nat.and_one_is_mod, IntKind.wrap_i64]
  have := ofInt64 x
  omega
theorem and_bit (x : Int) (k : Nat) : bits BinOp.and IntKind.i64 (x / 2 ^ k) 1 = bitI x k := and_one _
theorem wrap_two (n : Nat) : (IntKind.i64.wrap (n : Int)) % 2 = ((n % 2 : Nat) : Int) := by rw [IntKind.wrap_i64]; omega
theorem nat_and_two (a b : Nat) : (a &&& b) % 2 = (a % 2) * (b % 2) := by
  have hab : (a &&& b) % 2 = (a % 2) &&& (b % 2) := by
    rw [← Nat.and_one_is_mod, ← Nat.and_one_is_mod, ← Nat.and_one_is_mod]
    apply Nat.eq_of_testBit_eq
    intro i
    simp only [Nat.testBit_and]
    cases a.testBit i <;> cases b.testBit i <;> cases (1 : Nat).testBit i <;> rfl
  have h1 : a % 2 = 0 ∨ a % 2 = 1 := by omega
  have h2 : b % 2 = 0 ∨ b % 2 = 1 := by omega
  rw [hab]
  rcases h1 with h1 | h1 <;> rcases h2 with h2 | h2 <;> rw [h1, h2] <;> rfl
theorem ofInt_two (x : Int) : (((BitVec.ofInt 64 x).toNat % 2 : Nat) : Int) = x % 2 := by
  have := ofInt64 x
  omega
/-- The bit of both. -/
theorem and_both (x y : Int) : bits BinOp.and IntKind.i64 (bits BinOp.and IntKind.i64 x y) 1 = (x % 2) * (y % 2) := by
  rw [and_one]
  show (IntKind.i64.wrap ((BitVec.ofInt 64 x &&& BitVec.ofInt 64 y).toNat : Int)) % 2 = _
  rw [BitVec.toNat_and, wrap_two, nat_and_two, ← ofInt_two x, ← ofInt_two y, Int.natCast_mul]
/-- How many of the first bits are 1. -/
def cntB (x : Int) : Nat → Int
  | 0 => 0
  | k + 1 => cntB x k + bitI x k
theorem cntB_rng (x : Int) (k : Nat) : 0 ≤ cntB x k ∧ cntB x k ≤ k := by
  induction k with
  | zero => simp [cntB]
  | succ k ih => have := bitI_rng x k; simp only [cntB]; omega
theorem cntB_mono (x : Int) (i j : Nat) (h : i ≤ j) : cntB x i ≤ cntB x j := by
  induction j with
  | zero => have : i = 0 := by omega
            subst this; exact Int.le_refl _
  | succ j ih =>
    by_cases e : i = j + 1
    · subst e; exact Int.le_refl _
    · have := ih (by omega)
      have := bitI_rng x j
      simp only [cntB]; omega

end Go.Proofs.YtkmhimaeakbpoaaDoor
