/- Equal lists of texts. -/
import Derived.Test.YtamlfapdifocoaaDoorNl
set_option linter.unusedVariables false
set_option linter.unusedSimpArgs false
set_option linter.unnecessarySimpa false
namespace Go.Proofs.YtamlfapdifocoaaDoor
open Go.RowKit Go.Shelf

set_option maxHeartbeats 4000000 in
set_option maxRecDepth 100000 in
theorem same_any (a b : Value) (la lb : List Bs) (B0 : Nat) (w : World) (hB0 : B0 ≤ w.heap.size) (ha : Rd w B0 1 a la.length (strs la)) (hb : Rd w B0 1 b lb.length (strs lb)) (hma : la.length ≤ 1000000000000) (hmb : lb.length ≤ 1000000000000) :
    Calls Tryd.prog 9 #[a, b] w fun e w' => e = .returned (.bool (decide (la = lb))) ∧ Below w.heap.size w w' := by
  have HA : Hid (Rd w w.heap.size 1 a la.length (strs la)) := ha.more hB0
  have HB : Hid (Rd w w.heap.size 1 b lb.length (strs lb)) := hb.more hB0
  obtain ⟨_, A, c, rfl, _, _⟩ := ha
  obtain ⟨_, A', c', rfl, _, _⟩ := hb
  go_enter Tryd.func9, Tryd.ntmps9
  go_wp2
  go_loopw [5, 8] (fun _ s wr => ∃ k : Nat, k ≤ la.length ∧ s = .int .i64 k ∧ Hid (k ≤ lb.length ∧ la.take k = lb.take k ∧ Below w.heap.size w wr)) (fun _ i _ => la.length - (intOf i).toNat)
  case atStart => exact ⟨0, Nat.zero_le _, rfl, Nat.zero_le _, rfl, Below.refl _ _⟩
  case round =>
    obtain ⟨k, hk, rfl, HI⟩ := hrel
    by_cases hlt : k < la.length
    · obtain ⟨g, off, c1, hV, hg, hc⟩ := rd_gets (HA.out.below HI.out.2.2) hlt
      injection hV with hA _ hcc
      subst hA
      clear hcc
      by_cases hlb : k < lb.length
      · obtain ⟨g2, off2, c2, hV, hg2, hc2⟩ := rd_gets (HB.out.below HI.out.2.2) hlb
        injection hV with hA2 _ hcc
        subst hA2
        clear hcc
        cases he : decide (la[k] = lb[k]) with
        | true =>
          have he' : la[k] = lb[k] := of_decide_eq_true he
          rw [← he'] at hc2
          go_wp2
          rename (∀ (a : Act) (w : World), Code.wp _ _ _ a w → _) => ha
          go_quiet (fail)
          refine ha _ _ ?_
          go_wp2
          refine ⟨⟨k + 1, by omega, by simp, by omega, ?_, below_drewN HI.out.2.2 _⟩, by simp [intOf]; omega⟩
          rw [List.take_succ_eq_append_getElem hlt, List.take_succ_eq_append_getElem hlb, HI.out.2.1, he']
        | false =>
          have he' : ¬ la[k] = lb[k] := of_decide_eq_false he
          have he2 : (la[k] == lb[k]) = false := by simpa using he'
          have hne : Hid (¬ la = lb) := by
            intro e
            subst e
            exact he' rfl
          go_wp2
          rename (∀ (a : Act) (w : World), Code.wp _ _ _ a w → _) => ha
          go_quiet (fail)
          refine ha _ _ ?_
          go_wp2
          go_ret
          exact ⟨by rw [decide_eq_false hne.out]; rfl, below_drewN HI.out.2.2 _⟩
      · have hne : Hid (¬ la = lb) := by
          intro e
          subst e
          exact hlb hlt
        go_wp2
        rename (∀ (a : Act) (w : World), Code.wp _ _ _ a w → _) => ha
        go_quiet (fail)
        refine ha _ _ ?_
        go_wp2
        go_ret
        exact ⟨by rw [decide_eq_false hne.out]; rfl, below_drewN HI.out.2.2 _⟩
    · obtain rfl : k = la.length := by omega
      have heq : Hid (((la.length : Int) == (lb.length : Int)) = decide (la = lb)) := by
        unfold Hid
        have h1 := HI.out.2.1
        rw [List.take_length] at h1
        by_cases hl : la.length = lb.length
        · have : la = lb := by rw [h1, hl, List.take_length]
          rw [decide_eq_true this, hl]; simp
        · rw [decide_eq_false (fun e => hl (by rw [e]))]; simp; omega
      go_wp2
      go_ret
      refine ⟨?_, HI.out.2.2⟩
      rw [← heq.out]
      rfl

end Go.Proofs.YtamlfapdifocoaaDoor
