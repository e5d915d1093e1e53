/- Configurations: what is wrong with a command; the next configuration. -/
import Derived.Test.YtijacbnoemjgcaaGreatDoorPb9
import Derived.Test.YtijacbnoemjgcaaGreatDoorPb11
set_option linter.unusedVariables false
set_option linter.unusedSimpArgs false
set_option linter.unnecessarySimpa false
namespace Go.Proofs.YtijacbnoemjgcaaGreatDoor
open Go.RowKit Go.Shelf

structure Cmd where
  kind : Int
  group : Int
  shard : Int

/-- What is wrong with a command. -/
def refusedS (c : Cfg) (x : Cmd) : Int :=
  if x.kind < 1 ∨ 3 < x.kind ∨ groupB x.group = false then 1
  else if (x.kind = 3 ∧ (x.shard < 0 ∨ 4 ≤ x.shard)) ∨ (x.kind ≠ 3 ∧ x.shard ≠ 0) then 1
  else if (inS x.group c.gs = decide (x.kind = 1)) ∨ (x.kind = 2 ∧ c.gs.length = 1) ∨ (x.kind = 3 ∧ c.o.get x.shard.toNat = x.group) then 150
  else if c.num = 1099511627776 then 151 else 0

set_option maxHeartbeats 8000000 in
set_option maxRecDepth 100000 in
theorem refused_any (c : Cfg) (x : Cmd) (s : Value) (w : World) (B : Nat) (hB : B ≤ w.heap.size) (hr : Rd w B 1 s c.gs.length (ints c.gs)) (hm : c.gs.length ≤ 1000) :
    Calls Tryz.prog 55 #[.agg #[.int .i64 c.num, s, .int .i64 c.o.a, .int .i64 c.o.b, .int .i64 c.o.c, .int .i64 c.o.d], .agg #[.int .i64 x.kind, .int .i64 x.group, .int .i64 x.shard]] w fun e w' => e = .returned (.int .i64 (refusedS c x)) ∧ Below w.heap.size w w' := by
  have HR := Lib.hid hr
  obtain ⟨_, A, cc, rfl, _, _⟩ := hr
  have hR2 : Hid (∀ o o', Rd ((w.alloc o).alloc o') B 1 (.slice A c.gs.length cc) c.gs.length (ints c.gs)) := fun o o' => HR.out.below (((Below.refl B w).alloc hB o).alloc (by simp; omega) o')
  have hBe : Hid (∀ o o', Below w.heap.size w ((w.alloc o).alloc o')) := fun o o' => ((Below.refl _ w).alloc (Nat.le_refl _) o).alloc (by simp) o'
  obtain ⟨kind, grp, sh⟩ := x
  have hm2 : (c.gs.length : Int) ≤ 1000 := by omega
  by_cases k1 : kind < 1
  · have he : Hid (refusedS c ⟨kind, grp, sh⟩ = 1) := by unfold Hid refusedS; rw [if_pos (Or.inl k1)]
    go_enter Tryz.func55, Tryz.ntmps55
    go_wp2_with (first
      | (go_at_call 72; refine (contains_any _ c.gs _ _ B (hR2.out _ _) (by omega)).mono ?_; rintro e w' ⟨rfl, rfl⟩)
      | (go_at_call 71; refine (group_any _ _).mono ?_; rintro e w' ⟨rfl, rfl⟩))
    go_ret
    rw [he.out]
    exact ⟨rfl, hBe.out _ _⟩
  by_cases k3 : 3 < kind
  · have he : Hid (refusedS c ⟨kind, grp, sh⟩ = 1) := by unfold Hid refusedS; rw [if_pos (Or.inr (Or.inl k3))]
    go_enter Tryz.func55, Tryz.ntmps55
    go_wp2_with (first
      | (go_at_call 72; refine (contains_any _ c.gs _ _ B (hR2.out _ _) (by omega)).mono ?_; rintro e w' ⟨rfl, rfl⟩)
      | (go_at_call 71; refine (group_any _ _).mono ?_; rintro e w' ⟨rfl, rfl⟩))
    go_ret
    rw [he.out]
    exact ⟨rfl, hBe.out _ _⟩
  cases hg : groupB grp with
  | false =>
    have he : Hid (refusedS c ⟨kind, grp, sh⟩ = 1) := by unfold Hid refusedS; rw [if_pos (Or.inr (Or.inr hg))]
    go_enter Tryz.func55, Tryz.ntmps55
    go_wp2_with (first
      | (go_at_call 72; refine (contains_any _ c.gs _ _ B (hR2.out _ _) (by omega)).mono ?_; rintro e w' ⟨rfl, rfl⟩)
      | (go_at_call 71; refine (group_any _ _).mono ?_; rintro e w' ⟨rfl, rfl⟩))
    go_ret
    rw [he.out]
    exact ⟨rfl, hBe.out _ _⟩
  | true =>
    have hk : kind = 3 ∨ kind = 1 ∨ kind = 2 := by omega
    clear k1 k3
    rcases hk with rfl | rfl | rfl
    · by_cases s0 : sh < 0
      · have he : Hid (refusedS c ⟨3, grp, sh⟩ = 1) := by unfold Hid refusedS; simp [hg, s0]
        go_enter Tryz.func55, Tryz.ntmps55
        go_wp2_with (first
          | (go_at_call 72; refine (contains_any _ c.gs _ _ B (hR2.out _ _) (by omega)).mono ?_; rintro e w' ⟨rfl, rfl⟩)
          | (go_at_call 71; refine (group_any _ _).mono ?_; rintro e w' ⟨rfl, rfl⟩))
        go_ret
        rw [he.out]
        exact ⟨rfl, hBe.out _ _⟩
      by_cases s4 : 4 ≤ sh
      · have he : Hid (refusedS c ⟨3, grp, sh⟩ = 1) := by unfold Hid refusedS; simp [hg, s4]
        go_enter Tryz.func55, Tryz.ntmps55
        go_wp2_with (first
          | (go_at_call 72; refine (contains_any _ c.gs _ _ B (hR2.out _ _) (by omega)).mono ?_; rintro e w' ⟨rfl, rfl⟩)
          | (go_at_call 71; refine (group_any _ _).mono ?_; rintro e w' ⟨rfl, rfl⟩))
        go_ret
        rw [he.out]
        exact ⟨rfl, hBe.out _ _⟩
      have s0' : 0 ≤ sh := by omega
      have s4' : sh < 4 := by omega
      clear s0 s4
      have hcell : Hid (∀ W : World, Blk W w.heap.size 46 (cfgCells c.num (.slice A c.gs.length cc) c.o) → W.cell? ⟨w.heap.size, 2 + sh.toNat, none⟩ = some (.int .i64 (c.o.get sh.toNat))) := fun W h => blk_own h sh.toNat (by omega)
      have ck : ∀ o', ((w.alloc (.cells #[.int .i64 c.num, .slice A c.gs.length cc, .int .i64 c.o.a, .int .i64 c.o.b, .int .i64 c.o.c, .int .i64 c.o.d] 46)).alloc o').cell? ⟨w.heap.size, 2 + sh.toNat, none⟩ = some (.int .i64 (c.o.get sh.toNat)) := fun o' => hcell.out _ ((Blk.new _ _ _).alloc _)
      clear hcell
      cases hj : inS grp c.gs with
      | false =>
        have he : Hid (refusedS c ⟨3, grp, sh⟩ = 150) := by unfold Hid refusedS; simp [hg, s0', s4', hj] <;> omega
        go_enter Tryz.func55, Tryz.ntmps55
        go_wp2_with (first
          | (go_at_call 72; refine (contains_any _ c.gs _ _ B (hR2.out _ _) (by omega)).mono ?_; rintro e w' ⟨rfl, rfl⟩)
          | (go_at_call 71; refine (group_any _ _).mono ?_; rintro e w' ⟨rfl, rfl⟩))
        go_quiet (fail)
        go_wp2_with fail
        go_ret
        rw [he.out]
        exact ⟨rfl, below_drewN (hBe.out _ _) _⟩
      | true =>
        cases ho : (c.o.get sh.toNat == grp) with
        | true =>
          have ho' : c.o.get sh.toNat = grp := by simpa using ho
          have he : Hid (refusedS c ⟨3, grp, sh⟩ = 150) := by unfold Hid refusedS; simp [hg, hj, ho'] <;> omega
          clear ho'
          go_enter Tryz.func55, Tryz.ntmps55
          go_wp2_with (first
            | (go_at_call 72; refine (contains_any _ c.gs _ _ B (hR2.out _ _) (by omega)).mono ?_; rintro e w' ⟨rfl, rfl⟩)
            | (go_at_call 71; refine (group_any _ _).mono ?_; rintro e w' ⟨rfl, rfl⟩))
          go_quiet (fail)
          go_wp2_with fail
          go_ret
          rw [he.out]
          exact ⟨rfl, below_drewN (hBe.out _ _) _⟩
        | false =>
          have ho' : c.o.get sh.toNat ≠ grp := by simpa using ho
          cases hn : (c.num == 1099511627776) with
          | true =>
            have hn' : c.num = 1099511627776 := by simpa using hn
            have he : Hid (refusedS c ⟨3, grp, sh⟩ = 151) := by unfold Hid refusedS; simp [hg, hj, ho', hn'] <;> omega
            clear ho' hn'
            go_enter Tryz.func55, Tryz.ntmps55
            go_wp2_with (first
              | (go_at_call 72; refine (contains_any _ c.gs _ _ B (hR2.out _ _) (by omega)).mono ?_; rintro e w' ⟨rfl, rfl⟩)
              | (go_at_call 71; refine (group_any _ _).mono ?_; rintro e w' ⟨rfl, rfl⟩))
            go_quiet (fail)
            go_wp2_with fail
            go_ret
            rw [he.out]
            exact ⟨rfl, below_drewN (hBe.out _ _) _⟩
          | false =>
            have hn' : c.num ≠ 1099511627776 := by simpa using hn
            have he : Hid (refusedS c ⟨3, grp, sh⟩ = 0) := by unfold Hid refusedS; simp [hg, hj, ho', hn'] <;> omega
            clear ho' hn'
            go_enter Tryz.func55, Tryz.ntmps55
            go_wp2_with (first
              | (go_at_call 72; refine (contains_any _ c.gs _ _ B (hR2.out _ _) (by omega)).mono ?_; rintro e w' ⟨rfl, rfl⟩)
              | (go_at_call 71; refine (group_any _ _).mono ?_; rintro e w' ⟨rfl, rfl⟩))
            go_quiet (fail)
            go_wp2_with fail
            go_ret
            rw [he.out]
            exact ⟨rfl, below_drewN (hBe.out _ _) _⟩
    · cases hs : (sh == 0) with
      | false =>
        have hs' : sh ≠ 0 := by simpa using hs
        have hs2 : (sh != 0) = true := by simpa using hs'
        have he : Hid (refusedS c ⟨1, grp, sh⟩ = 1) := by unfold Hid refusedS; simp [hg, hs']
        clear hs'
        go_enter Tryz.func55, Tryz.ntmps55
        go_wp2_with (first
          | (go_at_call 72; refine (contains_any _ c.gs _ _ B (hR2.out _ _) (by omega)).mono ?_; rintro e w' ⟨rfl, rfl⟩)
          | (go_at_call 71; refine (group_any _ _).mono ?_; rintro e w' ⟨rfl, rfl⟩))
        go_ret
        rw [he.out]
        exact ⟨rfl, hBe.out _ _⟩
      | true =>
        obtain rfl : sh = 0 := by simpa using hs
        clear hs
        cases hj : inS grp c.gs with
        | true =>
          have he : Hid (refusedS c ⟨1, grp, 0⟩ = 150) := by unfold Hid refusedS; simp [hg, hj]
          go_enter Tryz.func55, Tryz.ntmps55
          go_wp2_with (first
            | (go_at_call 72; refine (contains_any _ c.gs _ _ B (hR2.out _ _) (by omega)).mono ?_; rintro e w' ⟨rfl, rfl⟩)
            | (go_at_call 71; refine (group_any _ _).mono ?_; rintro e w' ⟨rfl, rfl⟩))
          go_quiet (fail)
          go_wp2_with fail
          go_ret
          rw [he.out]
          exact ⟨rfl, below_drewN (hBe.out _ _) _⟩
        | false =>
          cases hn : (c.num == 1099511627776) with
          | true =>
            have hn' : c.num = 1099511627776 := by simpa using hn
            have he : Hid (refusedS c ⟨1, grp, 0⟩ = 151) := by unfold Hid refusedS; simp [hg, hj, hn']
            clear hn'
            go_enter Tryz.func55, Tryz.ntmps55
            go_wp2_with (first
              | (go_at_call 72; refine (contains_any _ c.gs _ _ B (hR2.out _ _) (by omega)).mono ?_; rintro e w' ⟨rfl, rfl⟩)
              | (go_at_call 71; refine (group_any _ _).mono ?_; rintro e w' ⟨rfl, rfl⟩))
            go_quiet (fail)
            go_wp2_with fail
            go_ret
            rw [he.out]
            exact ⟨rfl, below_drewN (hBe.out _ _) _⟩
          | false =>
            have hn' : c.num ≠ 1099511627776 := by simpa using hn
            have he : Hid (refusedS c ⟨1, grp, 0⟩ = 0) := by unfold Hid refusedS; simp [hg, hj, hn']
            clear hn'
            go_enter Tryz.func55, Tryz.ntmps55
            go_wp2_with (first
              | (go_at_call 72; refine (contains_any _ c.gs _ _ B (hR2.out _ _) (by omega)).mono ?_; rintro e w' ⟨rfl, rfl⟩)
              | (go_at_call 71; refine (group_any _ _).mono ?_; rintro e w' ⟨rfl, rfl⟩))
            go_quiet (fail)
            go_wp2_with fail
            go_ret
            rw [he.out]
            exact ⟨rfl, below_drewN (hBe.out _ _) _⟩
    · cases hs : (sh == 0) with
      | false =>
        have hs' : sh ≠ 0 := by simpa using hs
        have hs2 : (sh != 0) = true := by simpa using hs'
        have he : Hid (refusedS c ⟨2, grp, sh⟩ = 1) := by unfold Hid refusedS; simp [hg, hs']
        clear hs'
        go_enter Tryz.func55, Tryz.ntmps55
        go_wp2_with (first
          | (go_at_call 72; refine (contains_any _ c.gs _ _ B (hR2.out _ _) (by omega)).mono ?_; rintro e w' ⟨rfl, rfl⟩)
          | (go_at_call 71; refine (group_any _ _).mono ?_; rintro e w' ⟨rfl, rfl⟩))
        go_ret
        rw [he.out]
        exact ⟨rfl, hBe.out _ _⟩
      | true =>
        obtain rfl : sh = 0 := by simpa using hs
        clear hs
        cases hj : inS grp c.gs with
        | false =>
          have he : Hid (refusedS c ⟨2, grp, 0⟩ = 150) := by unfold Hid refusedS; simp [hg, hj]
          go_enter Tryz.func55, Tryz.ntmps55
          go_wp2_with (first
            | (go_at_call 72; refine (contains_any _ c.gs _ _ B (hR2.out _ _) (by omega)).mono ?_; rintro e w' ⟨rfl, rfl⟩)
            | (go_at_call 71; refine (group_any _ _).mono ?_; rintro e w' ⟨rfl, rfl⟩))
          go_quiet (fail)
          go_wp2_with fail
          go_ret
          rw [he.out]
          exact ⟨rfl, below_drewN (hBe.out _ _) _⟩
        | true =>
          cases hl : ((c.gs.length : Int) == 1) with
          | true =>
            have hl' : c.gs.length = 1 := by have : (c.gs.length : Int) = 1 := by simpa using hl
                                             omega
            have he : Hid (refusedS c ⟨2, grp, 0⟩ = 150) := by unfold Hid refusedS; simp [hg, hj, hl']
            have hl2 : (c.gs.length == 1) = true := by simpa using hl'
            clear hl'
            go_enter Tryz.func55, Tryz.ntmps55
            go_wp2_with (first
              | (go_at_call 72; refine (contains_any _ c.gs _ _ B (hR2.out _ _) (by omega)).mono ?_; rintro e w' ⟨rfl, rfl⟩)
              | (go_at_call 71; refine (group_any _ _).mono ?_; rintro e w' ⟨rfl, rfl⟩))
            go_quiet (fail)
            go_wp2_with fail
            go_ret
            rw [he.out]
            exact ⟨rfl, below_drewN (hBe.out _ _) _⟩
          | false =>
            have hl' : c.gs.length ≠ 1 := by have : ¬ (c.gs.length : Int) = 1 := by simpa using hl
                                             omega
            have hl2 : (c.gs.length == 1) = false := by simpa using hl'
            cases hn : (c.num == 1099511627776) with
            | true =>
              have hn' : c.num = 1099511627776 := by simpa using hn
              have he : Hid (refusedS c ⟨2, grp, 0⟩ = 151) := by unfold Hid refusedS; simp [hg, hj, hn', hl']
              clear hn'
              go_enter Tryz.func55, Tryz.ntmps55
              go_wp2_with (first
                | (go_at_call 72; refine (contains_any _ c.gs _ _ B (hR2.out _ _) (by omega)).mono ?_; rintro e w' ⟨rfl, rfl⟩)
                | (go_at_call 71; refine (group_any _ _).mono ?_; rintro e w' ⟨rfl, rfl⟩))
              go_quiet (fail)
              go_wp2_with fail
              go_ret
              rw [he.out]
              exact ⟨rfl, below_drewN (hBe.out _ _) _⟩
            | false =>
              have hn' : c.num ≠ 1099511627776 := by simpa using hn
              have he : Hid (refusedS c ⟨2, grp, 0⟩ = 0) := by unfold Hid refusedS; simp [hg, hj, hn', hl']
              clear hn'
              go_enter Tryz.func55, Tryz.ntmps55
              go_wp2_with (first
                | (go_at_call 72; refine (contains_any _ c.gs _ _ B (hR2.out _ _) (by omega)).mono ?_; rintro e w' ⟨rfl, rfl⟩)
                | (go_at_call 71; refine (group_any _ _).mono ?_; rintro e w' ⟨rfl, rfl⟩))
              go_quiet (fail)
              go_wp2_with fail
              go_ret
              rw [he.out]
              exact ⟨rfl, below_drewN (hBe.out _ _) _⟩

end Go.Proofs.YtijacbnoemjgcaaGreatDoor
