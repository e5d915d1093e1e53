/- Reeve: equal lists; equal configurations; the law's own. -/
import Derived.Test.YtgelgjjhpioihaaVc
namespace Go.Proofs.Ytgelgjjhpioihaa
open Go.RowKit Go.Shelf
set_option linter.unusedVariables false
set_option linter.unusedSimpArgs false

set_option maxHeartbeats 1000000 in
set_option maxRecDepth 100000 in
theorem equal_any (v u : Value) (l m : List Int) (w : World) (B : Nat) (hr : Rd w B 1 v l.length (ints l)) (hq : Rd w B 1 u m.length (ints m)) (hm : l.length ≤ 9223372036854775807) (hm2 : m.length ≤ 9223372036854775807) :
    Calls Try.prog 40 #[v, u] w fun e w' => e = .returned (.bool (intsEq l m)) ∧ Below w.heap.size w w' := by
  have HR := Lib.hid hr
  have HQ := Lib.hid hq
  obtain ⟨_, A, c, rfl, _, _⟩ := hr
  obtain ⟨_, A2, c2, rfl, hmc, _⟩ := hq
  by_cases hl : l.length = m.length
  · have hl2 : ((l.length : Int) != (m.length : Int)) = false := by rw [hl]; simp
    have HL := Lib.hid hl
    clear hl
    go_enter Try.func40, Try.ntmps40
    go_wp2_with fail
    go_loopw [13] (fun i wr => ∃ k : Nat, k ≤ l.length ∧ i = .int .i64 k ∧ Hid (l.take k = m.take k) ∧ Hid (Below w.heap.size w wr) ∧ ∀ p : Addr, p.block < B → wr.cell? p = w.cell? p) (fun i _ => l.length - (intOf i).toNat)
    case atStart => exact ⟨0, Nat.zero_le _, rfl, by simp [Hid], Below.refl _ _, fun _ _ => rfl⟩
    case round =>
      obtain ⟨k, hk, rfl, hI, hB, hC⟩ := hrel
      have HC := Lib.hid hC
      clear hC
      by_cases hlt : k < l.length
      · obtain ⟨g, off, c', hV, hg, hc⟩ := rd_get1 HR.out hlt
        injection hV with hA _ hcc
        subst hA hcc
        have hc1 := (HC.out _ hg).trans hc
        clear hc
        have hmk : k < m.length := by have := HL.out; omega
        obtain ⟨g2, off2, c2', hV2, hg2, hd⟩ := rd_get1 HQ.out hmk
        injection hV2 with hA2 _ hcc2
        subst hA2 hcc2
        have hd1 := (HC.out _ hg2).trans hd
        clear hd
        have hmk4 : (k : Int) < (m.length : Int) := by omega
        have hk0 : (0 : Int) ≤ (k : Int) := by omega
        have hk1 : (k : Int) < (l.length : Int) := by omega
        cases hne : (l[k] != m[k]) with
        | true =>
          have hf : Hid (intsEq l m = false) := by
            unfold Hid intsEq
            rw [beq_eq_false_iff_ne]
            rintro rfl
            simp at hne
          go_wp2_with fail
          go_quiet (fail)
          go_wp2_with fail
          go_ret
          rw [hf.out]
          exact ⟨rfl, below_drewN hB.out _⟩
        | false =>
          have he : l[k] = m[k] := by simpa using hne
          have hI2 : Hid (l.take (k + 1) = m.take (k + 1)) := by
            unfold Hid
            rw [List.take_succ_eq_append_getElem hlt, List.take_succ_eq_append_getElem hmk, hI.out, he]
          clear he
          go_wp2_with fail
          go_quiet (fail)
          go_wp2_with fail
          go_roundw
          case rel => exact ⟨k + 1, by omega, by go_num, hI2, below_drewN hB.out _, fun p hp => HC.out p hp⟩
          case measure => simp [intOf]; omega
      · obtain rfl : k = l.length := by omega
        have hf : Hid (intsEq l m = true) := by
          unfold Hid intsEq
          rw [beq_iff_eq]
          have := hI.out
          rw [List.take_of_length_le (Nat.le_refl _), HL.out, List.take_of_length_le (Nat.le_refl _)] at this
          exact this
        go_wp2_with fail
        go_ret
        rw [hf.out]
        exact ⟨rfl, hB.out⟩
  · have hl2 : ((l.length : Int) != (m.length : Int)) = true := by simp; omega
    have hf : Hid (intsEq l m = false) := by
      unfold Hid intsEq
      rw [beq_eq_false_iff_ne]
      rintro rfl
      omega
    clear hl
    go_enter Try.func40, Try.ntmps40
    go_wp2_with fail
    go_ret
    rw [hf.out]
    exact ⟨rfl, Below.refl _ _⟩

theorem cfgEqB_is (c d : Cfg) : cfgEqB c d = (c.num == d.num && (ownEq c.o d.o && intsEq c.gs d.gs)) := rfl
set_option maxHeartbeats 1000000 in
set_option maxRecDepth 100000 in
theorem same_any (c d : Cfg) (A : Option Addr) (cc : Nat) (A2 : Option Addr) (cc2 : Nat) (w : World) (B : Nat) (hB : B ≤ w.heap.size) (hr : Rd w B 1 (.slice A c.gs.length cc) c.gs.length (ints c.gs)) (hq : Rd w B 1 (.slice A2 d.gs.length cc2) d.gs.length (ints d.gs)) (hm : c.gs.length ≤ 1000) (hm2 : d.gs.length ≤ 1000) :
    Calls Try.prog 27 #[.agg #[.int .i64 c.num, .slice A c.gs.length cc, .int .i64 c.o.a, .int .i64 c.o.b, .int .i64 c.o.c, .int .i64 c.o.d], .agg #[.int .i64 d.num, .slice A2 d.gs.length cc2, .int .i64 d.o.a, .int .i64 d.o.b, .int .i64 d.o.c, .int .i64 d.o.d]] w fun e w' => e = .returned (.bool (cfgEqB c d)) ∧ Below w.heap.size w w' := by
  have HR : Hid (∀ o o', Rd ((w.alloc o).alloc o') B 1 (.slice A c.gs.length cc) c.gs.length (ints c.gs)) := fun o o' => hr.below (((Below.refl _ w).alloc hB o).alloc (by simp; omega) o')
  have HQ : Hid (∀ o o', Rd ((w.alloc o).alloc o') B 1 (.slice A2 d.gs.length cc2) d.gs.length (ints d.gs)) := fun o o' => hq.below (((Below.refl _ w).alloc hB o).alloc (by simp; omega) o')
  have hgd : Try.prog.eqGuardType Try.prog.depth 36 = false := by kernel_rfl
  have HI : Hid (∀ o o', Calls Try.prog 40 #[.slice A c.gs.length cc, .slice A2 d.gs.length cc2] ((w.alloc o).alloc o') fun e w' => e = .returned (.bool (intsEq c.gs d.gs)) ∧ Below ((w.alloc o).alloc o').heap.size ((w.alloc o).alloc o') w') := fun o o' => equal_any _ _ c.gs d.gs _ B (HR.out _ _) (HQ.out _ _) (by omega) (by omega)
  have HE := Lib.hid (cfgEqB_is c d)
  clear hr hq
  cases h1 : (c.num == d.num) with
  | false =>
    have HF : Hid (cfgEqB c d = false) := by unfold Hid; rw [HE.out, h1]; rfl
    go_enter Try.func27, Try.ntmps27
    go_wp2_with fail
    go_ret
    rw [HF.out]
    exact ⟨rfl, (((Below.refl _ _).alloc (Nat.le_refl _) _).alloc (by simp) _)⟩
  | true =>
    have heq := fun wx => eql_own c.o d.o wx
    cases h2 : ownEq c.o d.o with
    | false =>
      have HF : Hid (cfgEqB c d = false) := by unfold Hid; rw [HE.out, h1, h2]; rfl
      rw [h2] at heq
      go_enter Try.func27, Try.ntmps27
      go_wp2_with fail
      go_ret
      rw [HF.out]
      exact ⟨rfl, (((Below.refl _ _).alloc (Nat.le_refl _) _).alloc (by simp) _)⟩
    | true =>
      have HF : Hid (cfgEqB c d = intsEq c.gs d.gs) := by unfold Hid; rw [HE.out, h1, h2]; rfl
      rw [h2] at heq
      generalize intsEq c.gs d.gs = bb at *
      go_enter Try.func27, Try.ntmps27
      go_wp2_with fail
      refine (HI.out _ _).mono ?_
      rintro e w1 ⟨rfl, hb⟩
      cases bb
      · go_wp2_with fail
        go_ret
        rw [HF.out]
        exact ⟨rfl, (((Below.refl _ _).alloc (Nat.le_refl _) _).alloc (by simp) _).trans (hb.mono (by simp; omega))⟩
      · go_wp2_with fail
        go_ret
        rw [HF.out]
        exact ⟨rfl, (((Below.refl _ _).alloc (Nat.le_refl _) _).alloc (by simp) _).trans (hb.mono (by simp; omega))⟩

set_option maxHeartbeats 1000000 in
set_option maxRecDepth 100000 in
theorem same28_any (c d : Cfg) (A : Option Addr) (cc : Nat) (A2 : Option Addr) (cc2 : Nat) (w : World) (B : Nat) (hB : B ≤ w.heap.size) (hr : Rd w B 1 (.slice A c.gs.length cc) c.gs.length (ints c.gs)) (hq : Rd w B 1 (.slice A2 d.gs.length cc2) d.gs.length (ints d.gs)) (hm : c.gs.length ≤ 1000) (hm2 : d.gs.length ≤ 1000) :
    Calls Try.prog 11 #[.agg #[.int .i64 c.num, .slice A c.gs.length cc, .int .i64 c.o.a, .int .i64 c.o.b, .int .i64 c.o.c, .int .i64 c.o.d], .agg #[.int .i64 d.num, .slice A2 d.gs.length cc2, .int .i64 d.o.a, .int .i64 d.o.b, .int .i64 d.o.c, .int .i64 d.o.d]] w fun e w' => e = .returned (.bool (cfgEqB c d)) ∧ Below w.heap.size w w' := by
  have HR : Hid (∀ o o', Rd ((w.alloc o).alloc o') B 1 (.slice A c.gs.length cc) c.gs.length (ints c.gs)) := fun o o' => hr.below (((Below.refl _ w).alloc hB o).alloc (by simp; omega) o')
  have HQ : Hid (∀ o o', Rd ((w.alloc o).alloc o') B 1 (.slice A2 d.gs.length cc2) d.gs.length (ints d.gs)) := fun o o' => hq.below (((Below.refl _ w).alloc hB o).alloc (by simp; omega) o')
  have hgd : Try.prog.eqGuardType Try.prog.depth 36 = false := by kernel_rfl
  have HI : Hid (∀ o o', Calls Try.prog 19 #[.slice A c.gs.length cc, .slice A2 d.gs.length cc2] ((w.alloc o).alloc o') fun e w' => e = .returned (.bool (intsEq c.gs d.gs)) ∧ Below ((w.alloc o).alloc o').heap.size ((w.alloc o).alloc o') w') := fun o o' => ints_any _ _ c.gs d.gs _ B (HR.out _ _) (HQ.out _ _) (by omega) (by omega)
  have HE := Lib.hid (cfgEqB_is c d)
  clear hr hq
  cases h1 : (c.num == d.num) with
  | false =>
    have HF : Hid (cfgEqB c d = false) := by unfold Hid; rw [HE.out, h1]; rfl
    go_enter Try.func11, Try.ntmps11
    go_wp2_with fail
    go_ret
    rw [HF.out]
    exact ⟨rfl, (((Below.refl _ _).alloc (Nat.le_refl _) _).alloc (by simp) _)⟩
  | true =>
    have heq := fun wx => eql_own c.o d.o wx
    cases h2 : ownEq c.o d.o with
    | false =>
      have HF : Hid (cfgEqB c d = false) := by unfold Hid; rw [HE.out, h1, h2]; rfl
      rw [h2] at heq
      go_enter Try.func11, Try.ntmps11
      go_wp2_with fail
      go_ret
      rw [HF.out]
      exact ⟨rfl, (((Below.refl _ _).alloc (Nat.le_refl _) _).alloc (by simp) _)⟩
    | true =>
      have HF : Hid (cfgEqB c d = intsEq c.gs d.gs) := by unfold Hid; rw [HE.out, h1, h2]; rfl
      rw [h2] at heq
      generalize intsEq c.gs d.gs = bb at *
      go_enter Try.func11, Try.ntmps11
      go_wp2_with fail
      refine (HI.out _ _).mono ?_
      rintro e w1 ⟨rfl, hb⟩
      cases bb
      · go_wp2_with fail
        go_ret
        rw [HF.out]
        exact ⟨rfl, (((Below.refl _ _).alloc (Nat.le_refl _) _).alloc (by simp) _).trans (hb.mono (by simp; omega))⟩
      · go_wp2_with fail
        go_ret
        rw [HF.out]
        exact ⟨rfl, (((Below.refl _ _).alloc (Nat.le_refl _) _).alloc (by simp) _).trans (hb.mono (by simp; omega))⟩

set_option maxHeartbeats 1000000 in
set_option maxRecDepth 100000 in
theorem config_any (c : Cfg) (A : Option Addr) (n cc : Nat) (w : World) :
    Calls Try.prog 12 #[.agg #[.int .i64 c.num, .slice A n cc, .int .i64 c.o.a, .int .i64 c.o.b, .int .i64 c.o.c, .int .i64 c.o.d]] w fun e w' => e = .returned (c.val (.slice A n cc)) ∧ Below w.heap.size w w' := by
  go_enter Try.func12, Try.ntmps12
  go_wp2_with fail
  refine bodyPost_ret (v := c.val (.slice A n cc)) (by simp [results, Try.results12, go_sem, Cfg.val]) rfl ?_
  exact ⟨rfl, ((Below.refl _ _).alloc (Nat.le_refl _) _).alloc (by simp) _⟩

end Go.Proofs.Ytgelgjjhpioihaa
