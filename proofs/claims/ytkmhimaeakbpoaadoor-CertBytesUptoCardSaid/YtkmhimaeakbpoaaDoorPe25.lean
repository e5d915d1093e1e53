/- cert: form, Count. -/
import Derived.Test.YtkmhimaeakbpoaaDoorPe19
set_option linter.unusedVariables false
set_option linter.unusedSimpArgs false
set_option linter.unnecessarySimpa false
namespace Go.Proofs.YtkmhimaeakbpoaaDoor
open Go.RowKit Go.Shelf

theorem rd_tag {w : World} {B : Nat} {v : Value} {l : List TagV} (h : Rd w B 2 v l.length (cellsT l)) {k : Nat} (hk : k < l.length) :
    ∃ g off c, v = .slice (some ⟨g, off, none⟩) l.length c ∧ g < B ∧ w.cell? ⟨g, off + k * 2, none⟩ = some (.int .i64 l[k].1) ∧ w.cell? ⟨g, off + k * 2 + 1, none⟩ = some (.string ⟨l[k].2.toArray⟩) := by
  obtain ⟨_, A, c, rfl, _, h0 | ⟨g, off, rfl, hg, hc⟩⟩ := h
  · omega
  · obtain ⟨h1, h2⟩ := cellsT_get l k hk
    exact ⟨g, off, c, rfl, hg, hc _ _ h1, by rw [Nat.add_assoc]; exact hc _ _ h2⟩
def crtVal (t : Bs) (g : Int) (v : Value) : Value := .agg #[.string ⟨t.toArray⟩, .int .i64 g, v]

set_option maxHeartbeats 4000000 in
set_option maxRecDepth 100000 in
theorem form_any (c : Crt) (v : Value) (w : World) (B : Nat) (hB : B ≤ w.heap.size) (hr : Rd w B 2 v c.tags.length (cellsT c.tags)) (hm : c.tags.length ≤ 1048576) :
    Calls Tryd.prog 24 #[.agg #[.string ⟨c.t.toArray⟩, .int .i64 c.g, v]] w fun e w' => e = .returned (.int .i64 (formS c)) ∧ Below w.heap.size w w' := by
  obtain ⟨t, g, l⟩ := c
  simp only at hr hm ⊢
  obtain ⟨hl, A, cc, rfl, hlc, hA⟩ := hr
  have HR : Hid (Rd w w.heap.size 2 (.slice A l.length cc) l.length (cellsT l)) := Rd.more ⟨hl, A, cc, rfl, hlc, hA⟩ hB
  clear hA
  have hbW : Below w.heap.size w (w.alloc (.cells #[.string ⟨t.toArray⟩, .int .i64 g, .slice A l.length cc] 24)) := (Below.refl _ w).alloc (Nat.le_refl _) _
  by_cases hg0 : g < 0
  · have HF : Hid (formS ⟨t, g, l⟩ = 1) := by unfold Hid formS; simp [hg0]
    go_enter Tryd.func24, Tryd.ntmps24
    go_wp2_with fail
    go_ret
    exact ⟨by rw [HF.out]; rfl, hbW⟩
  by_cases hg4 : 4 < g
  · have HF : Hid (formS ⟨t, g, l⟩ = 1) := by unfold Hid formS; simp [hg4]
    have hd : decide (g < 0) = false := by rw [decide_eq_false_iff_not]; omega
    clear hg0
    go_enter Tryd.func24, Tryd.ntmps24
    go_wp2_with fail
    go_ret
    exact ⟨by rw [HF.out]; rfl, hbW⟩
  · have HF : Hid (formS ⟨t, g, l⟩ = tagsE (-1) l) := by unfold Hid formS; rw [if_neg (by simp; omega)]
    have hd : decide (g < 0) = false := by rw [decide_eq_false_iff_not]; omega
    have hd4 : decide (4 < g) = false := by rw [decide_eq_false_iff_not]; omega
    clear hg0 hg4
    go_enter Tryd.func24, Tryd.ntmps24
    go_wp2_with fail
    go_loopw [3, 17] (fun la i wr => ∃ k : Nat, k ≤ l.length ∧ la = .int .i64 (lastT l k) ∧ i = .int .i64 k ∧ Hid (tagsE (-1) l = tagsE (lastT l k) (l.drop k) ∧ Below w.heap.size w wr)) (fun _ i _ => l.length - (intOf i).toNat)
    case atStart => exact ⟨0, Nat.zero_le _, rfl, rfl, rfl, hbW⟩
    case round =>
      obtain ⟨k, hk, rfl, rfl, HI⟩ := hrel
      by_cases hlt : k < l.length
      · obtain ⟨gb, off, c', hV, hgb, x0, x1⟩ := rd_tag (HR.out.below HI.out.2) hlt
        injection hV with hA _ hcc
        subst hA
        clear hcc
        have HD := Lib.hid (tagsE_drop l k hlt (lastT l k))
        have HL := Lib.hid (lastT_succ l k hlt)
        have HB2 := Lib.hid (HI.out.2.alloc HI.out.2.size (.cells #[.int .i64 l[k].1, .string ⟨l[k].2.toArray⟩] 64))
        generalize lastT l k = last at *
        generalize l[k] = x at *
        obtain ⟨n, s⟩ := x
        simp only at x0 x1 HD HL HB2
        by_cases h1 : n < 0
        · have HE : Hid (formS ⟨t, g, l⟩ = 41) := by unfold Hid; rw [HF.out, HI.out.1, HD.out, if_pos (.inl h1)]
          go_wp2_with fail
          go_ret
          exact ⟨by rw [HE.out]; rfl, HB2.out⟩
        have d1 : decide (n < 0) = false := by rw [decide_eq_false_iff_not]; exact h1
        by_cases h2 : 15 < n
        · have HE : Hid (formS ⟨t, g, l⟩ = 41) := by unfold Hid; rw [HF.out, HI.out.1, HD.out, if_pos (.inr h2)]
          clear h1
          go_wp2_with fail
          go_ret
          exact ⟨by rw [HE.out]; rfl, HB2.out⟩
        have d2 : decide (15 < n) = false := by rw [decide_eq_false_iff_not]; exact h2
        by_cases h3 : n ≤ last
        · have HE : Hid (formS ⟨t, g, l⟩ = 42) := by unfold Hid; rw [HF.out, HI.out.1, HD.out, if_neg (by omega), if_pos h3]
          clear h1 h2
          go_wp2_with fail
          go_ret
          exact ⟨by rw [HE.out]; rfl, HB2.out⟩
        have d3 : decide (n ≤ last) = false := by rw [decide_eq_false_iff_not]; exact h3
        by_cases h4 : s.length = 16
        · have d4 : ((s.length : Int) != 16) = false := by simp [h4]
          have HE : Hid (tagsE (-1) l = tagsE (lastT l (k + 1)) (l.drop (k + 1))) := by unfold Hid; rw [HI.out.1, HD.out, if_neg (by omega), if_neg h3, if_neg (by omega), HL.out]
          clear h1 h2 h3 HI HD
          have HL2 : Hid (n = lastT l (k + 1)) := HL.out.symm
          clear HL h4
          go_wp2_with fail
          go_roundw
          case rel => exact ⟨k + 1, by omega, by rw [HL2.out], by go_num, HE.out, HB2.out⟩
          case measure => simp [intOf]; omega
        · have d4 : ((s.length : Int) != 16) = true := by simp only [bne_iff_ne, ne_eq]; omega
          have HE : Hid (formS ⟨t, g, l⟩ = 4) := by unfold Hid; rw [HF.out, HI.out.1, HD.out, if_neg (by omega), if_neg h3, if_pos h4]
          clear h1 h2 h3 h4
          go_wp2_with fail
          go_ret
          exact ⟨by rw [HE.out]; rfl, HB2.out⟩
      · obtain rfl : k = l.length := by omega
        have HE : Hid (formS ⟨t, g, l⟩ = 0) := by unfold Hid; rw [HF.out, HI.out.1, List.drop_length, tagsE]
        go_wp2_with fail
        go_ret
        exact ⟨by rw [HE.out]; rfl, HI.out.2⟩

end Go.Proofs.YtkmhimaeakbpoaaDoor
