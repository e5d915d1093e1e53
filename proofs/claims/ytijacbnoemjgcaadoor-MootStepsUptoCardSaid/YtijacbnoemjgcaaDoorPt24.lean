/- The reference: the next configuration, whatever the command. -/
import Derived.Test.YtijacbnoemjgcaaDoorPt23
set_option linter.unusedVariables false
set_option linter.unusedSimpArgs false
set_option linter.unnecessarySimpa false
namespace Go.Proofs.YtijacbnoemjgcaaDoor
open Go.RowKit Go.Shelf

theorem rnext_any (c : Cfg) (x : Cmd) (s : Value) (w : World) (hr : Rd w w.heap.size 1 s c.gs.length (ints c.gs)) (hm : c.gs.length ≤ 1000) : RNext c x s w := by
  cases hck : checkB c with
  | false => exact rnext_form c x s w hr hm hck
  | true =>
    have hr0 := hr
    obtain ⟨_, A, cc, rfl, _, _⟩ := hr0
    obtain ⟨kind, grp, sh⟩ := x
    have bad : ∀ r, refusedS c ⟨kind, grp, sh⟩ = r → r ≠ 0 → Hid (nextS c ⟨kind, grp, sh⟩ = (cfg0, r)) := by
      intro r h1 h2
      unfold Hid nextS
      rw [if_neg (by rw [hck]; simp), if_pos (by rw [h1]; exact h2), h1]
    by_cases k1 : kind < 1
    · exact rnext_k1 c kind grp sh A cc w hr hm hck (bad 1 (by unfold refusedS; rw [if_pos (Or.inl k1)]) (by omega)) k1
    by_cases k3 : 3 < kind
    · exact rnext_k3 c kind grp sh A cc w hr hm hck (bad 1 (by unfold refusedS; rw [if_pos (Or.inr (Or.inl k3))]) (by omega)) k3
    have k1' : 1 ≤ kind := by omega
    have k3' : kind ≤ 3 := by omega
    by_cases g1 : grp < 1
    · have hg : groupB grp = false := by simp [groupB]; omega
      exact rnext_g1 c kind grp sh A cc w hr hm hck (bad 1 (by unfold refusedS; rw [if_pos (Or.inr (Or.inr hg))]) (by omega)) k1' k3' g1
    by_cases g4 : 4 < grp
    · have hg : groupB grp = false := by simp [groupB]; omega
      exact rnext_g4 c kind grp sh A cc w hr hm hck (bad 1 (by unfold refusedS; rw [if_pos (Or.inr (Or.inr hg))]) (by omega)) k1' k3' g4
    have hg : groupB grp = true := by simp [groupB]; omega
    have d1 : decide (grp < 1) = false := by simpa using g1
    have d4 : decide (4 < grp) = false := by simpa using g4
    have hk : kind = 3 ∨ kind = 1 ∨ kind = 2 := by omega
    clear k1 k3 k1' k3'
    rcases hk with rfl | rfl | rfl
    · by_cases s0 : sh < 0
      · exact rnext_s0 c grp sh A cc w hr hm hck (bad 1 (by unfold refusedS; simp [hg, s0]) (by omega)) d1 d4 s0
      by_cases s4 : 4 ≤ sh
      · exact rnext_s4 c grp sh A cc w hr hm hck (bad 1 (by unfold refusedS; simp [hg, s4]) (by omega)) d1 d4 s4
      have s0' : 0 ≤ sh := by omega
      have s4' : sh < 4 := by omega
      have e0 : decide (sh < 0) = false := by simpa using s0
      have e4 : decide (4 ≤ sh) = false := by simpa using s4'
      cases hj : inS grp c.gs with
      | false => exact rnext_mi c grp sh A cc w hr hm hck (bad 150 (by unfold refusedS; simp [hg, s0', s4', hj] <;> omega) (by omega)) d1 d4 s0' s4' e0 e4 hj
      | true =>
        cases ho : (c.o.get sh.toNat == grp) with
        | true =>
          have ho' : c.o.get sh.toNat = grp := by simpa using ho
          exact rnext_mo c grp sh A cc w hr hm hck (bad 150 (by unfold refusedS; simp [hg, hj, ho'] <;> omega) (by omega)) d1 d4 s0' s4' e0 e4 hj ho
        | false =>
          have ho' : c.o.get sh.toNat ≠ grp := by simpa using ho
          cases hn : (c.num == 1099511627776) with
          | true =>
            have hn' : c.num = 1099511627776 := by simpa using hn
            exact rnext_mn c grp sh A cc w hr hm hck (bad 151 (by unfold refusedS; simp [hg, hj, ho', hn'] <;> omega) (by omega)) d1 d4 s0' s4' e0 e4 hj ho hn
          | false =>
            have hn' : c.num ≠ 1099511627776 := by simpa using hn
            exact rnext_move c grp sh A cc w hr hm hck (by unfold refusedS; simp [hg, hj, ho', hn'] <;> omega) d1 d4 hj hn s0' s4' e0 e4 ho
    · cases hs : (sh == 0) with
      | false =>
        have hs' : sh ≠ 0 := by simpa using hs
        exact rnext_sj c grp sh A cc w hr hm hck (bad 1 (by unfold refusedS; simp [hg, hs']) (by omega)) d1 d4 hs
      | true =>
        obtain rfl : sh = 0 := by simpa using hs
        cases hj : inS grp c.gs with
        | true => exact rnext_ji c grp A cc w hr hm hck (bad 150 (by unfold refusedS; simp [hg, hj]) (by omega)) d1 d4 hj
        | false =>
          cases hn : (c.num == 1099511627776) with
          | true =>
            have hn' : c.num = 1099511627776 := by simpa using hn
            exact rnext_jn c grp A cc w hr hm hck (bad 151 (by unfold refusedS; simp [hg, hj, hn']) (by omega)) d1 d4 hj hn
          | false =>
            have hn' : c.num ≠ 1099511627776 := by simpa using hn
            exact rnext_join c grp A cc w hr hm hck (by unfold refusedS; simp [hg, hj, hn']) d1 d4 hj hn
    · cases hs : (sh == 0) with
      | false =>
        have hs' : sh ≠ 0 := by simpa using hs
        exact rnext_sl c grp sh A cc w hr hm hck (bad 1 (by unfold refusedS; simp [hg, hs']) (by omega)) d1 d4 hs
      | true =>
        obtain rfl : sh = 0 := by simpa using hs
        cases hj : inS grp c.gs with
        | false => exact rnext_li c grp A cc w hr hm hck (bad 150 (by unfold refusedS; simp [hg, hj]) (by omega)) d1 d4 hj
        | true =>
          cases hl : ((c.gs.length : Int) == 1) with
          | true =>
            have hl' : c.gs.length = 1 := by have : (c.gs.length : Int) = 1 := by simpa using hl
                                             omega
            exact rnext_l1 c grp A cc w hr hm hck (bad 150 (by unfold refusedS; simp [hg, hj, hl']) (by omega)) d1 d4 hj hl
          | false =>
            have hl' : c.gs.length ≠ 1 := by have : ¬ (c.gs.length : Int) = 1 := by simpa using hl
                                             omega
            cases hn : (c.num == 1099511627776) with
            | true =>
              have hn' : c.num = 1099511627776 := by simpa using hn
              exact rnext_ln c grp A cc w hr hm hck (bad 151 (by unfold refusedS; simp [hg, hj, hl', hn']) (by omega)) d1 d4 hj hl hn
            | false =>
              have hn' : c.num ≠ 1099511627776 := by simpa using hn
              exact rnext_leave c grp A cc w hr hm hck (by unfold refusedS; simp [hg, hj, hl', hn']) d1 d4 hj hn hl

end Go.Proofs.YtijacbnoemjgcaaDoor
