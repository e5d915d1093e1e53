/- The reference: in, Load. -/
import Derived.Test.YtijacbnoemjgcaaDoorPn15
set_option linter.unusedVariables false
set_option linter.unusedSimpArgs false
set_option linter.unnecessarySimpa false
namespace Go.Proofs.YtijacbnoemjgcaaDoor
open Go.RowKit Go.Shelf

theorem inS_take (x : Int) (l : List Int) (k : Nat) (hk : k < l.length) : inS x (l.take (k + 1)) = (inS x (l.take k) || (l[k] == x)) := by
  have e := List.take_succ_eq_append_getElem hk
  unfold inS
  rw [Bool.eq_iff_iff, e]
  simp only [Bool.or_eq_true, List.contains_iff_mem, List.mem_append, List.mem_singleton, beq_iff_eq]
  constructor
  · rintro (h | h)
    · exact .inl h
    · exact .inr h.symm
  · rintro (h | h)
    · exact .inl h
    · exact .inr h.symm

set_option maxHeartbeats 400000 in
theorem rin_any (v : Value) (l : List Int) (x : Int) (w : World) (B : Nat) (hr : Rd w B 1 v l.length (ints l)) (hm : l.length ≤ 9223372036854775807) :
    Calls Tryd.prog 37 #[v, .int .i64 x] w fun e w' => e = .returned (.bool (inS x l)) ∧ w = w' := by
  have HR := Lib.hid hr
  obtain ⟨_, A, c, rfl, _, _⟩ := hr
  go_enter Tryd.func37, Tryd.ntmps37
  go_wp2
  go_loopw [9] (fun s wr => ∃ k : Nat, k ≤ l.length ∧ s = .int .i64 k ∧ wr = w ∧ Hid (inS x (l.take k) = false)) (fun i _ => l.length - (intOf i).toNat)
  case atStart => exact ⟨0, Nat.zero_le _, rfl, rfl, rfl⟩
  case round =>
    obtain ⟨k, hk, rfl, rfl, hno⟩ := hrel
    by_cases hlt : k < l.length
    · obtain ⟨g, off, c', hV, hg, hc⟩ := rd_get1 HR.out hlt
      injection hV with hA _ hcc
      subst hA
      clear hcc
      have htk := Lib.hid (inS_take x l k hlt)
      cases hq : (l[k] == x) with
      | true =>
        have hin : Hid (inS x l = true) := by
          unfold Hid inS
          have : l[k] = x := by simpa using hq
          simp [← this]
        go_wp2
        go_ret
        rw [hin.out]
        exact ⟨rfl, rfl⟩
      | false =>
        have hn2 : Hid (inS x (l.take (k + 1)) = false) := by unfold Hid; rw [htk.out, hno.out, hq]; rfl
        go_wp2
        go_roundw
        case rel => exact ⟨k + 1, by omega, by go_num, by trivial, hn2⟩
        case measure => simp [intOf]; omega
    · have e : l.take k = l := List.take_of_length_le (by omega)
      rw [e] at hno
      go_wp2
      go_ret
      rw [hno.out]
      exact ⟨rfl, rfl⟩

set_option maxHeartbeats 400000 in
set_option maxRecDepth 100000 in
theorem load_any (c : Cfg) (s : Value) (g : Int) (w : World) :
    Calls Tryd.prog 50 #[.agg #[.int .i64 c.num, s, .int .i64 c.o.a, .int .i64 c.o.b, .int .i64 c.o.c, .int .i64 c.o.d], .int .i64 g] w fun e w' => e = .returned (.int .i64 (cnt c.own g)) ∧ Below w.heap.size w w' := by
  go_enter Tryd.func50, Tryd.ntmps50
  go_wp2
  go_loopw [5, 10] (fun n i wr => ∃ k : Nat, k ≤ 4 ∧ i = .int .i64 k ∧ n = .int .i64 (cnt (c.own.take k) g) ∧ Hid (Below w.heap.size w wr)) (fun _ i _ => 4 - (intOf i).toNat)
  case atStart => exact ⟨0, by omega, rfl, rfl, (Below.refl _ _).alloc (Nat.le_refl _) _⟩
  case round =>
    obtain ⟨k, hk, rfl, rfl, hbw⟩ := hrel
    by_cases hlt : k < 4
    · have hix := ix_get c.o k hlt
      have hsn : Hid (cnt (c.own.take (k + 1)) g = cnt (c.own.take k) g + (if c.o.get k = g then 1 else 0)) := by
        unfold Hid; rw [show c.own.take (k + 1) = c.own.take k ++ [c.o.get k] from own_take c.o k hlt, cnt_snoc]
      obtain ⟨c0, c4⟩ := cnt_le (c.own.take k) g
      have hl : (c.own.take k).length = k := by simp [Cfg.own, Own.list]; omega
      rw [hl] at c4
      clear hl
      generalize cnt (c.own.take k) g = q at *
      generalize c.o.get k = x at *
      cases hq : (x == g) with
      | true =>
        have hq' : x = g := by simpa using hq
        have hs2 : Hid (cnt (c.own.take (k + 1)) g = q + 1) := by unfold Hid; rw [hsn.out, if_pos hq']
        clear hq'
        go_wp2
        go_roundw
        case rel => exact ⟨k + 1, by omega, by go_num, by rw [hs2.out], hbw⟩
        case measure => simp [intOf]; omega
      | false =>
        have hq' : x ≠ g := by simpa using hq
        have hs2 : Hid (cnt (c.own.take (k + 1)) g = q) := by unfold Hid; rw [hsn.out, if_neg hq']; omega
        clear hq'
        go_wp2
        go_roundw
        case rel => exact ⟨k + 1, by omega, by go_num, by rw [hs2.out], hbw⟩
        case measure => simp [intOf]; omega
    · have e : c.own.take k = c.own := List.take_of_length_le (by simp [Cfg.own, Own.list]; omega)
      rw [e]
      go_wp2
      go_ret
      exact ⟨rfl, hbw.out⟩

end Go.Proofs.YtijacbnoemjgcaaDoor
