/- Reeve: Compact of what has no two alike beside each other. -/
import Derived.Test.YtgelgjjhpioihaaVe
namespace Go.Proofs.Ytgelgjjhpioihaa
open Go.RowKit Go.Shelf
set_option linter.unusedVariables false
set_option linter.unusedSimpArgs false

set_option maxHeartbeats 1000000 in
set_option maxRecDepth 100000 in
theorem compact_any (v : Value) (l : List Int) (w : World) (B : Nat) (hr : Rd w B 1 v l.length (ints l)) (hm : l.length ≤ 1000) (hd : ∀ k, k + 1 < l.length → l.getD (k + 1) 0 ≠ l.getD k 0) :
    Calls Try.prog 28 #[v] w fun e w' => e = .returned v ∧ Below w.heap.size w w' ∧ ∀ p : Addr, p.block < w.heap.size → w'.cell? p = w.cell? p := by
  have HR := Lib.hid hr
  have HD := Lib.hid hd
  obtain ⟨_, A, c, rfl, hlc, _⟩ := hr
  by_cases h2 : l.length < 2
  · have h2' : (l.length : Int) < 2 := by omega
    go_enter Try.func28, Try.ntmps28
    go_wp2_with fail
    go_ret
    exact ⟨rfl, Below.refl _ _, fun _ _ => rfl⟩
  · have h2' : decide ((l.length : Int) < 2) = false := by rw [decide_eq_false_iff_not]; omega
    have h22 : 2 ≤ l.length := by omega
    clear h2
    go_enter Try.func28, Try.ntmps28
    go_wp2_with fail
    go_loopw [3] (fun i wr => ∃ k : Nat, 1 ≤ k ∧ k ≤ l.length ∧ i = .int .i64 k ∧ Hid (Below w.heap.size w wr) ∧ Hid (∀ p : Addr, p.block < w.heap.size → wr.cell? p = w.cell? p)) (fun i _ => l.length - (intOf i).toNat)
    case atStart => exact ⟨1, by omega, by omega, rfl, Below.refl _ _, fun _ _ => rfl⟩
    case round =>
      obtain ⟨k, hk1, hk, rfl, hq, hC⟩ := hrel
      by_cases hlt : k < l.length
      · obtain ⟨m, hmk⟩ : ∃ m, k = m + 1 := ⟨k - 1, by omega⟩
        obtain ⟨g, off, c', hV, hg, hc⟩ := rd_get1 HR.out hlt
        injection hV with hA _ hcc
        subst hA hcc
        obtain ⟨g', off', c', hV, hg', hc'⟩ := rd_get1 HR.out (k := m) (by omega)
        injection hV with hA _ hcc
        injection hA with hA
        injection hA with hA1 hA2
        subst hA1 hA2
        clear hcc
        have hne : (l[k] == l[m]'(by omega)) = false := by
          rw [beq_eq_false_iff_ne]
          subst hmk
          have := HD.out m hlt
          rwa [List.getD_eq_getElem?_getD, List.getD_eq_getElem?_getD, List.getElem?_eq_getElem hlt, List.getElem?_eq_getElem (by omega)] at this
        have y0 := (hC.out _ (World.block_lt_of_cell? _ _ hc)).trans hc
        have y1 := (hC.out _ (World.block_lt_of_cell? _ _ hc')).trans hc'
        clear hc hc'
        generalize l[k] = a at *
        generalize (l[m]'(by omega)) = b at *
        have hsub : IntKind.i64.wrap ((k : Int) - 1) = (m : Int) := by rw [IntKind.wrap_i64]; omega
        have hm0 : (0 : Int) ≤ (m : Int) := by omega
        have hm1 : (m : Int) < (l.length : Int) := by omega
        have hk0 : (0 : Int) ≤ (k : Int) := by omega
        have hkl : (k : Int) < (l.length : Int) := by omega
        have hk2 : (1 : Int) ≤ (k : Int) := by omega
        clear hmk
        go_wp2_with fail
        go_quiet (fail)
        go_wp2_with fail
        go_roundw
        case rel => exact ⟨k + 1, by omega, by omega, by go_num, below_drewN hq.out _, fun p hp => hC.out p hp⟩
        case measure => simp [intOf]; omega
      · obtain rfl : k = l.length := by omega
        go_wp2_with fail
        go_ret
        exact ⟨rfl, hq.out, hC.out⟩

end Go.Proofs.Ytgelgjjhpioihaa
