/- Plain laws of configurations, by looking at all of them: groups are a part of 1, 2, 3, 4; each shard's owner is one of them (or 0, where there are none). -/
import Derived.Test.YtijacbnoemjgcaaGreatDoorPb9
import Derived.Test.YtijacbnoemjgcaaGreatDoorPb11
import Derived.Test.YtijacbnoemjgcaaGreatDoorPb8
set_option linter.unusedVariables false
set_option linter.unusedSimpArgs false
set_option linter.unnecessarySimpa false
namespace Go.Proofs.YtijacbnoemjgcaaGreatDoor

def allFrom : List Int → List (List Int)
  | [] => [[]]
  | g :: r => allFrom r ++ (allFrom r).map (g :: ·)
def upFrom (last : Int) : List Int := [1, 2, 3, 4].filter (fun g => decide (last < g))
theorem asc_mem (gs : List Int) : ∀ last : Int, 0 ≤ last → last ≤ 4 → ascB last gs = true → gs ∈ allFrom (upFrom last) := by
  induction gs with
  | nil =>
    intro last h0 h4 _
    have e : last = 0 ∨ last = 1 ∨ last = 2 ∨ last = 3 ∨ last = 4 := by omega
    rcases e with rfl | rfl | rfl | rfl | rfl <;> decide
  | cons g r ih =>
    intro last h0 h4 h
    simp only [ascB, groupB, Bool.and_eq_true, Bool.not_eq_true', decide_eq_false_iff_not, decide_eq_true_eq] at h
    obtain ⟨⟨h1, h2, h3⟩, h5⟩ := h
    have hr := ih g (by omega) h3 h5
    have e : last = 0 ∨ last = 1 ∨ last = 2 ∨ last = 3 := by omega
    have eg : g = 1 ∨ g = 2 ∨ g = 3 ∨ g = 4 := by omega
    rcases e with rfl | rfl | rfl | rfl <;> rcases eg with rfl | rfl | rfl | rfl <;> first | omega | (simp [upFrom, allFrom] at hr ⊢; rcases hr with hr | hr | hr | hr | hr | hr | hr | hr <;> simp [hr]) | (simp [upFrom, allFrom] at hr ⊢; rcases hr with hr | hr | hr | hr <;> simp [hr]) | (simp [upFrom, allFrom] at hr ⊢; rcases hr with hr | hr <;> simp [hr]) | (simp [upFrom, allFrom] at hr ⊢; simp [hr])

/-- Whether p holds of all groups, owners and one group more. -/
def allCfg (p : List Int → Own → Int → Bool) : Bool :=
  (allFrom [1, 2, 3, 4]).all fun gs => (if gs.isEmpty then [0] else gs).all fun a => (if gs.isEmpty then [0] else gs).all fun b => (if gs.isEmpty then [0] else gs).all fun c => (if gs.isEmpty then [0] else gs).all fun d => [1, 2, 3, 4].all fun g => p gs ⟨a, b, c, d⟩ g
theorem allCfg_at {p : List Int → Own → Int → Bool} (h : allCfg p = true) {c : Cfg} (hc : checkB c = true) {g : Int} (hg : groupB g = true) : p c.gs c.o g = true := by
  simp only [checkB, Bool.and_eq_true] at hc
  obtain ⟨⟨_, hasc⟩, hown⟩ := hc
  have hm := asc_mem c.gs 0 (by omega) (by omega) hasc
  have hm' : c.gs ∈ allFrom [1, 2, 3, 4] := hm
  have ho : ∀ o ∈ c.own, o ∈ (if c.gs.isEmpty then [0] else c.gs) := by
    intro o ho
    have := List.all_eq_true.1 hown o ho
    unfold ownB at this
    by_cases h0 : c.gs.length = 0
    · rw [if_pos h0] at this
      rw [if_pos (by simpa using h0)]
      simpa using this
    · rw [if_neg h0] at this
      rw [if_neg (by simpa using h0)]
      simpa [inS] using this
  have hgm : g ∈ [(1 : Int), 2, 3, 4] := by
    simp only [groupB, Bool.and_eq_true, decide_eq_true_eq] at hg
    have : g = 1 ∨ g = 2 ∨ g = 3 ∨ g = 4 := by omega
    rcases this with rfl | rfl | rfl | rfl <;> simp
  unfold allCfg at h
  have h1 := List.all_eq_true.1 h c.gs hm'
  have h2 := List.all_eq_true.1 h1 c.o.a (ho _ (by simp [Cfg.own, Own.list]))
  have h3 := List.all_eq_true.1 h2 c.o.b (ho _ (by simp [Cfg.own, Own.list]))
  have h4 := List.all_eq_true.1 h3 c.o.c (ho _ (by simp [Cfg.own, Own.list]))
  have h5 := List.all_eq_true.1 h4 c.o.d (ho _ (by simp [Cfg.own, Own.list]))
  exact List.all_eq_true.1 h5 g hgm

/-- The last loop comes to its end within five rounds. -/
theorem gives : allCfg (fun gs o g => (inS g gs || (giveS (isort (gs ++ [g])) o).isSome) && (!inS g gs || gs.length == 1 || (giveS (offS g gs) o).isSome)) = true := by decide +kernel

end Go.Proofs.YtijacbnoemjgcaaGreatDoor

namespace Go.Proofs.YtijacbnoemjgcaaGreatDoor
open Go.RowKit Go.Shelf

theorem inS_take (x : Int) (l : List Int) (k : Nat) (hk : k < l.length) : inS x (l.take (k + 1)) = (inS x (l.take k) || (l[k] == x)) := by
  have e := List.take_succ_eq_append_getElem hk
  unfold inS
  rw [Bool.eq_iff_iff, e]
  simp only [Bool.or_eq_true, List.contains_iff_mem, List.mem_append, List.mem_singleton, beq_iff_eq]
  constructor
  · rintro (h | h)
    · exact .inl h
    · exact .inr h.symm
  · rintro (h | h)
    · exact .inl h
    · exact .inr h.symm

set_option maxHeartbeats 400000 in
theorem rin_any (v : Value) (l : List Int) (x : Int) (w : World) (B : Nat) (hr : Rd w B 1 v l.length (ints l)) (hm : l.length ≤ 9223372036854775807) :
    Calls Tryz.prog 46 #[v, .int .i64 x] w fun e w' => e = .returned (.bool (inS x l)) ∧ w = w' := by
  have HR := Lib.hid hr
  obtain ⟨_, A, c, rfl, _, _⟩ := hr
  go_enter Tryz.func46, Tryz.ntmps46
  go_wp2
  go_loopw [9] (fun s wr => ∃ k : Nat, k ≤ l.length ∧ s = .int .i64 k ∧ wr = w ∧ Hid (inS x (l.take k) = false)) (fun i _ => l.length - (intOf i).toNat)
  case atStart => exact ⟨0, Nat.zero_le _, rfl, rfl, rfl⟩
  case round =>
    obtain ⟨k, hk, rfl, rfl, hno⟩ := hrel
    by_cases hlt : k < l.length
    · obtain ⟨g, off, c', hV, hg, hc⟩ := rd_get1 HR.out hlt
      injection hV with hA _ hcc
      subst hA
      clear hcc
      have htk := Lib.hid (inS_take x l k hlt)
      cases hq : (l[k] == x) with
      | true =>
        have hin : Hid (inS x l = true) := by
          unfold Hid inS
          have : l[k] = x := by simpa using hq
          simp [← this]
        go_wp2
        go_ret
        rw [hin.out]
        exact ⟨rfl, rfl⟩
      | false =>
        have hn2 : Hid (inS x (l.take (k + 1)) = false) := by unfold Hid; rw [htk.out, hno.out, hq]; rfl
        go_wp2
        go_roundw
        case rel => exact ⟨k + 1, by omega, by go_num, by trivial, hn2⟩
        case measure => simp [intOf]; omega
    · have e : l.take k = l := List.take_of_length_le (by omega)
      rw [e] at hno
      go_wp2
      go_ret
      rw [hno.out]
      exact ⟨rfl, rfl⟩

set_option maxHeartbeats 400000 in
set_option maxRecDepth 100000 in
theorem load_any (c : Cfg) (s : Value) (g : Int) (w : World) :
    Calls Tryz.prog 62 #[.agg #[.int .i64 c.num, s, .int .i64 c.o.a, .int .i64 c.o.b, .int .i64 c.o.c, .int .i64 c.o.d], .int .i64 g] w fun e w' => e = .returned (.int .i64 (cnt c.own g)) ∧ Below w.heap.size w w' := by
  go_enter Tryz.func62, Tryz.ntmps62
  go_wp2
  go_loopw [5, 10] (fun n i wr => ∃ k : Nat, k ≤ 4 ∧ i = .int .i64 k ∧ n = .int .i64 (cnt (c.own.take k) g) ∧ Hid (Below w.heap.size w wr)) (fun _ i _ => 4 - (intOf i).toNat)
  case atStart => exact ⟨0, by omega, rfl, rfl, (Below.refl _ _).alloc (Nat.le_refl _) _⟩
  case round =>
    obtain ⟨k, hk, rfl, rfl, hbw⟩ := hrel
    by_cases hlt : k < 4
    · have hix := ix_get c.o k hlt
      have hsn : Hid (cnt (c.own.take (k + 1)) g = cnt (c.own.take k) g + (if c.o.get k = g then 1 else 0)) := by
        unfold Hid; rw [show c.own.take (k + 1) = c.own.take k ++ [c.o.get k] from own_take c.o k hlt, cnt_snoc]
      obtain ⟨c0, c4⟩ := cnt_le (c.own.take k) g
      have hl : (c.own.take k).length = k := by simp [Cfg.own, Own.list]; omega
      rw [hl] at c4
      clear hl
      generalize cnt (c.own.take k) g = q at *
      generalize c.o.get k = x at *
      cases hq : (x == g) with
      | true =>
        have hq' : x = g := by simpa using hq
        have hs2 : Hid (cnt (c.own.take (k + 1)) g = q + 1) := by unfold Hid; rw [hsn.out, if_pos hq']
        clear hq'
        go_wp2
        go_roundw
        case rel => exact ⟨k + 1, by omega, by go_num, by rw [hs2.out], hbw⟩
        case measure => simp [intOf]; omega
      | false =>
        have hq' : x ≠ g := by simpa using hq
        have hs2 : Hid (cnt (c.own.take (k + 1)) g = q) := by unfold Hid; rw [hsn.out, if_neg hq']; omega
        clear hq'
        go_wp2
        go_roundw
        case rel => exact ⟨k + 1, by omega, by go_num, by rw [hs2.out], hbw⟩
        case measure => simp [intOf]; omega
    · have e : c.own.take k = c.own := List.take_of_length_le (by simp [Cfg.own, Own.list]; omega)
      rw [e]
      go_wp2
      go_ret
      exact ⟨rfl, hbw.out⟩

end Go.Proofs.YtijacbnoemjgcaaGreatDoor
