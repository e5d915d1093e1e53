/- The law's helpers: equal owners; equal lists; equal configurations. -/
import Derived.Test.YtijacbnoemjgcaaDoorPn35
import Derived.Laws.StructEq
import Derived.ChangeKeysEq
set_option linter.unusedVariables false
set_option linter.unusedSimpArgs false
set_option linter.unnecessarySimpa false
namespace Go.Proofs.YtijacbnoemjgcaaDoor
open Go.RowKit Go.Shelf

def ownEq (o p : Own) : Bool := o.a == p.a && (o.b == p.b && (o.c == p.c && o.d == p.d))
theorem ownEq_refl (o : Own) : ownEq o o = true := by simp [ownEq]
theorem ownEq_iff (o p : Own) : ownEq o p = true ↔ o = p := by
  obtain ⟨a, b, c, d⟩ := o
  obtain ⟨e, f, g, h⟩ := p
  simp [ownEq]
theorem eqi_one {d : Nat} {xs ys : Array Value} {i : Nat} {is : List Nat} {a b : Value} {r s : Bool} {w : World}
    (ha : (part 3 xs (i * Tryd.prog.cellsOf 3)).run Tryd.prog w = .ok a w) (hb : (part 3 ys (i * Tryd.prog.cellsOf 3)).run Tryd.prog w = .ok b w) (he : (Op.equalIn d 3 a b).run Tryd.prog w = .ok r w) (hr : (Op.eqItems d 3 (Tryd.prog.cellsOf 3) xs ys is).run Tryd.prog w = .ok s w) :
    (Op.eqItems d 3 (Tryd.prog.cellsOf 3) xs ys (i :: is)).run Tryd.prog w = .ok (r && s) w := by
  rw [Op.eqItems]
  simp only [Sem.run_bind, ha, hb, he, Result.andThen_ok]
  cases r
  · simp
  · simpa using hr
theorem eql_own (o p : Own) (w : World) :
    (binOp .eql 47 (.agg #[.int .i64 o.a, .int .i64 o.b, .int .i64 o.c, .int .i64 o.d]) (.agg #[.int .i64 p.a, .int .i64 p.b, .int .i64 p.c, .int .i64 p.d])).run Tryd.prog w = .ok (.bool (ownEq o p)) w := by
  obtain ⟨i0, hi0, hz0, hz1, hz2⟩ := info_parts int_info
  rw [run_eql_struct, run_equalIn_array w 9999 _ _ Tryd.underlying47 hi0]
  have h3 := fun (d : Nat) (a b : Int) => run_equalIn_int (P := Tryd.prog) w d 3 .i64 .i64 a b Tryd.underlying3
  have p0 : ∀ x : Own, (part 3 #[.int .i64 x.a, .int .i64 x.b, .int .i64 x.c, .int .i64 x.d] (0 * Tryd.prog.cellsOf 3)).run Tryd.prog w = .ok (.int .i64 x.a) w := fun x => by kernel_rfl
  have p1 : ∀ x : Own, (part 3 #[.int .i64 x.a, .int .i64 x.b, .int .i64 x.c, .int .i64 x.d] (1 * Tryd.prog.cellsOf 3)).run Tryd.prog w = .ok (.int .i64 x.b) w := fun x => by kernel_rfl
  have p2 : ∀ x : Own, (part 3 #[.int .i64 x.a, .int .i64 x.b, .int .i64 x.c, .int .i64 x.d] (2 * Tryd.prog.cellsOf 3)).run Tryd.prog w = .ok (.int .i64 x.c) w := fun x => by kernel_rfl
  have p3 : ∀ x : Own, (part 3 #[.int .i64 x.a, .int .i64 x.b, .int .i64 x.c, .int .i64 x.d] (3 * Tryd.prog.cellsOf 3)).run Tryd.prog w = .ok (.int .i64 x.d) w := fun x => by kernel_rfl
  have e4 : (Op.eqItems 9999 3 (Tryd.prog.cellsOf 3) #[.int .i64 o.a, .int .i64 o.b, .int .i64 o.c, .int .i64 o.d] #[.int .i64 p.a, .int .i64 p.b, .int .i64 p.c, .int .i64 p.d] []).run Tryd.prog w = .ok true w := by simp [Op.eqItems]
  have e3 := eqi_one (p3 o) (p3 p) (h3 9998 o.d p.d) e4
  have e2 := eqi_one (p2 o) (p2 p) (h3 9998 o.c p.c) e3
  have e1 := eqi_one (p1 o) (p1 p) (h3 9998 o.b p.b) e2
  have e0 := eqi_one (p0 o) (p0 p) (h3 9998 o.a p.a) e1
  rw [show List.range 4 = [0, 1, 2, 3] from rfl, e0]
  simp [ownEq]

def intsEq (l m : List Int) : Bool := l == m
theorem intsEq_refl (l : List Int) : intsEq l l = true := by simp [intsEq]

set_option maxHeartbeats 1000000 in
set_option maxRecDepth 100000 in
theorem ints_any (v u : Value) (l m : List Int) (w : World) (B : Nat) (hr : Rd w B 1 v l.length (ints l)) (hq : Rd w B 1 u m.length (ints m)) (hm : l.length ≤ 9223372036854775807) (hm2 : m.length ≤ 9223372036854775807) :
    Calls Tryd.prog 26 #[v, u] w fun e w' => e = .returned (.bool (intsEq l m)) ∧ Below w.heap.size w w' := by
  have HR := Lib.hid hr
  have HQ := Lib.hid hq
  obtain ⟨_, A, c, rfl, _, _⟩ := hr
  obtain ⟨_, A2, c2, rfl, hmc, _⟩ := hq
  go_enter Tryd.func26, Tryd.ntmps26
  go_wp2
  go_loopw [8] (fun i wr => ∃ k : Nat, k ≤ l.length ∧ i = .int .i64 k ∧ Hid (k ≤ m.length ∧ l.take k = m.take k) ∧ Hid (Below w.heap.size w wr) ∧ ∀ p : Addr, p.block < B → wr.cell? p = w.cell? p) (fun i _ => l.length - (intOf i).toNat)
  case atStart => exact ⟨0, Nat.zero_le _, rfl, ⟨by omega, by simp⟩, Below.refl _ _, fun _ _ => rfl⟩
  case round =>
    obtain ⟨k, hk, rfl, hI, hB, hC⟩ := hrel
    have HC := Lib.hid hC
    clear hC
    by_cases hlt : k < l.length
    · obtain ⟨g, off, c', hV, hg, hc⟩ := rd_get1 HR.out hlt
      injection hV with hA _ hcc
      subst hA hcc
      have hc1 := (HC.out _ hg).trans hc
      clear hc
      by_cases hmk : k < m.length
      · obtain ⟨g2, off2, c2', hV2, hg2, hd⟩ := rd_get1 HQ.out hmk
        injection hV2 with hA2 _ hcc2
        subst hA2 hcc2
        have hd1 := (HC.out _ hg2).trans hd
        clear hd
        have hmk2 : decide ((m.length : Int) ≤ (k : Int)) = false := by rw [decide_eq_false_iff_not]; omega
        have hmk3 : decide (m.length ≤ k) = false := by rw [decide_eq_false_iff_not]; omega
        have hmk4 : (k : Int) < (m.length : Int) := by omega
        have hk0 : (0 : Int) ≤ (k : Int) := by omega
        have hk1 : (k : Int) < (l.length : Int) := by omega
        cases hne : (l[k] != m[k]) with
        | true =>
          have hf : Hid (intsEq l m = false) := by
            unfold Hid intsEq
            rw [beq_eq_false_iff_ne]
            rintro rfl
            simp at hne
          go_wp2_with fail
          go_quiet (fail)
          go_wp2_with fail
          go_ret
          rw [hf.out]
          exact ⟨rfl, below_drewN hB.out _⟩
        | false =>
          have he : l[k] = m[k] := by simpa using hne
          have hI2 : Hid (k + 1 ≤ m.length ∧ l.take (k + 1) = m.take (k + 1)) := by
            refine ⟨by omega, ?_⟩
            rw [List.take_succ_eq_append_getElem hlt, List.take_succ_eq_append_getElem hmk, hI.out.2, he]
          clear he
          go_wp2_with fail
          go_quiet (fail)
          go_wp2_with fail
          go_roundw
          case rel => exact ⟨k + 1, by omega, by go_num, hI2, below_drewN hB.out _, fun p hp => HC.out p hp⟩
          case measure => simp [intOf]; omega
      · have hf : Hid (intsEq l m = false) := by
          unfold Hid intsEq
          rw [beq_eq_false_iff_ne]
          rintro rfl
          omega
        have hmk2 : (m.length : Int) ≤ (k : Int) := by omega
        have hmk3 : decide (m.length ≤ k) = true := by rw [decide_eq_true_iff]; omega
        go_wp2_with fail
        go_quiet (fail)
        go_wp2_with fail
        go_ret
        rw [hf.out]
        exact ⟨rfl, below_drewN hB.out _⟩
    · obtain rfl : k = l.length := by omega
      cases hml : ((l.length : Int) == (m.length : Int)) with
      | true =>
        have hml' : l.length = m.length := by have : (l.length : Int) = (m.length : Int) := by simpa using hml
                                              omega
        have hf : Hid (intsEq l m = true) := by
          unfold Hid intsEq
          rw [beq_iff_eq]
          have := hI.out.2
          rw [List.take_of_length_le (Nat.le_refl _), hml', List.take_of_length_le (Nat.le_refl _)] at this
          exact this
        clear hml'
        go_wp2_with fail
        go_ret
        rw [hf.out]
        exact ⟨rfl, hB.out⟩
      | false =>
        have hf : Hid (intsEq l m = false) := by
          unfold Hid intsEq
          rw [beq_eq_false_iff_ne]
          rintro rfl
          simp at hml
        go_wp2_with fail
        go_ret
        rw [hf.out]
        exact ⟨rfl, hB.out⟩

end Go.Proofs.YtijacbnoemjgcaaDoor
