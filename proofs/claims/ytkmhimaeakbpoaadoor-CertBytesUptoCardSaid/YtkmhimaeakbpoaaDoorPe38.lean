/- The reference: Form. -/
import Derived.Test.YtkmhimaeakbpoaaDoorPe25
import Derived.Test.YtkmhimaeakbpoaaDoorPe37
set_option linter.unusedVariables false
set_option linter.unusedSimpArgs false
set_option linter.unnecessarySimpa false
namespace Go.Proofs.YtkmhimaeakbpoaaDoor
open Go.RowKit Go.Shelf

theorem tagsE_nonneg {l : List TagV} {last : Int} : ∀ (k : Nat), k < l.length → tagsE (-1) l = tagsE (lastT l k) (l.drop k) → True := fun _ _ _ => trivial

set_option maxHeartbeats 8000000 in
set_option maxRecDepth 100000 in
theorem rform_any (c : Crt) (v : Value) (w : World) (B : Nat) (hB : B ≤ w.heap.size) (hr : Rd w B 2 v c.tags.length (cellsT c.tags)) (hm : c.tags.length ≤ 1048576) :
    Calls Tryd.prog 31 #[.agg #[.string ⟨c.t.toArray⟩, .int .i64 c.g, v]] w fun e w' => e = .returned (.int .i64 (formS c)) ∧ Below w.heap.size w w' := by
  obtain ⟨t, g, l⟩ := c
  simp only at hr hm ⊢
  obtain ⟨hl, A, cc, rfl, hlc, hA⟩ := hr
  have HR : Hid (Rd w w.heap.size 2 (.slice A l.length cc) l.length (cellsT l)) := Rd.more ⟨hl, A, cc, rfl, hlc, hA⟩ hB
  clear hA
  have hbW : Below w.heap.size w (w.alloc (.cells #[.string ⟨t.toArray⟩, .int .i64 g, .slice A l.length cc] 36)) := (Below.refl _ w).alloc (Nat.le_refl _) _
  have HX := Lib.hid (Blk.new w 36 #[.string ⟨t.toArray⟩, .int .i64 g, .slice A l.length cc])
  by_cases hg0 : g < 0
  · have HF : Hid (formS ⟨t, g, l⟩ = 1) := by unfold Hid formS; simp [hg0]
    go_enter Tryd.func31, Tryd.ntmps31
    go_wp2_with fail
    go_ret
    exact ⟨by rw [HF.out]; rfl, hbW⟩
  by_cases hg4 : 4 < g
  · have HF : Hid (formS ⟨t, g, l⟩ = 1) := by unfold Hid formS; simp [hg4]
    have hd : decide (g < 0) = false := by rw [decide_eq_false_iff_not]; omega
    clear hg0
    go_enter Tryd.func31, Tryd.ntmps31
    go_wp2_with fail
    go_ret
    exact ⟨by rw [HF.out]; rfl, hbW⟩
  · have HF : Hid (formS ⟨t, g, l⟩ = tagsE (-1) l) := by unfold Hid formS; rw [if_neg (by simp; omega)]
    have hd : decide (g < 0) = false := by rw [decide_eq_false_iff_not]; omega
    have hd4 : decide (4 < g) = false := by rw [decide_eq_false_iff_not]; omega
    clear hg0 hg4
    go_enter Tryd.func31, Tryd.ntmps31
    go_wp2_with fail
    go_loopw [16] (fun i wr => ∃ k : Nat, k ≤ l.length ∧ i = .int .i64 k ∧ Hid (tagsE (-1) l = tagsE (lastT l k) (l.drop k) ∧ Below w.heap.size w wr ∧ Blk wr w.heap.size 36 #[.string ⟨t.toArray⟩, .int .i64 g, .slice A l.length cc])) (fun i _ => l.length - (intOf i).toNat)
    case atStart => exact ⟨0, Nat.zero_le _, rfl, rfl, hbW, HX.out⟩
    case round =>
      obtain ⟨k, hk, rfl, HI⟩ := hrel
      by_cases hlt : k < l.length
      · obtain ⟨gb, off, c', hV, hgb, x0, x1⟩ := rd_tag (HR.out.below HI.out.2.1) hlt
        injection hV with hA _ hcc
        subst hA
        clear hcc
        have HD := Lib.hid (tagsE_drop l k hlt (lastT l k))
        have HL := Lib.hid (lastT_succ l k hlt)
        have HB2 := Lib.hid (HI.out.2.1.alloc HI.out.2.1.size (.cells #[.int .i64 l[k].1, .string ⟨l[k].2.toArray⟩] 75))
        have HX2 := Lib.hid (HI.out.2.2.alloc (.cells #[.int .i64 l[k].1, .string ⟨l[k].2.toArray⟩] 75))
        have b2 : wr.cell? ⟨w.heap.size, 2, none⟩ = some (.slice (some ⟨gb, off, none⟩) l.length cc) := HI.out.2.2.cell 2
        have hwr := HI.out.2.2.lt
        have HPREV : Hid (∀ m, m + 1 = k → wr.cell? ⟨gb, off + m * 2, none⟩ = some (.int .i64 (lastT l k))) := fun m hmk => by
          obtain ⟨gb', off', c'', hV', hgb', y0, y1⟩ := rd_tag (HR.out.below HI.out.2.1) (show m < l.length by omega)
          injection hV' with hA' _ _
          injection hA' with hA'
          injection hA' with h1 h2 _
          subst h1 h2 hmk
          rw [lastT_succ l m (by omega)]
          exact y0
        have HGB : Hid (gb < wr.heap.size) := Nat.lt_of_lt_of_le hgb HI.out.2.1.size
        generalize hlast : lastT l k = last at *
        generalize l[k] = x at *
        obtain ⟨n, s⟩ := x
        simp only at x0 x1 HD HL HB2 HX2
        by_cases h1 : n < 0
        · have HE : Hid (formS ⟨t, g, l⟩ = 41) := by unfold Hid; rw [HF.out, HI.out.1, HD.out, if_pos (.inl h1)]
          go_wp2_with fail
          go_ret
          exact ⟨by rw [HE.out]; rfl, HB2.out⟩
        have d1 : decide (n < 0) = false := by rw [decide_eq_false_iff_not]; exact h1
        by_cases h2 : 15 < n
        · have HE : Hid (formS ⟨t, g, l⟩ = 41) := by unfold Hid; rw [HF.out, HI.out.1, HD.out, if_pos (.inr h2)]
          clear h1
          go_wp2_with fail
          go_ret
          exact ⟨by rw [HE.out]; rfl, HB2.out⟩
        have d2 : decide (15 < n) = false := by rw [decide_eq_false_iff_not]; exact h2
        -- the drawn test
        have hgbw := HGB.out
        go_upto_region 8 with fail
        go_cut [42] (fun tv wc => tv = .bool (decide (n ≤ last)) ∧ wc = (wr.alloc (.cells #[.int .i64 n, .string ⟨s.toArray⟩] 75)).drew)
        case first =>
          by_cases hk0 : k = 0
          · subst hk0
            have hln : decide (n ≤ last) = false := by rw [decide_eq_false_iff_not, ← hlast]; show ¬ n ≤ -1; omega
            have HLN := Lib.hid hln
            clear hln
            go_region
            all_goals
              go_wp2_with fail
              go_meet
              case rel => exact ⟨by rw [HLN.out], rfl⟩
          · obtain ⟨m, rfl⟩ : ∃ m, k = m + 1 := ⟨k - 1, by omega⟩
            have y0 := HPREV.out m rfl
            have hpos : (0 : Int) < (m : Int) + 1 := by omega
            have hpos2 : decide ((0 : Int) < (m : Int) + 1) = true := decide_eq_true hpos
            have hml : (m : Int) < (l.length : Int) := by omega
            have hm0 : (0 : Int) ≤ (m : Int) := by omega
            go_region
            all_goals
              go_wp2_with fail
              go_meet
              case rel => exact ⟨rfl, rfl⟩
        case rest =>
          obtain ⟨rfl, rfl⟩ := hcut
          by_cases h3 : n ≤ last
          · have HE : Hid (formS ⟨t, g, l⟩ = 42) := by unfold Hid; rw [HF.out, HI.out.1, HD.out, if_neg (by omega), if_pos h3]
            rw [decide_eq_true h3]
            clear h1 h2
            go_wp2_with fail
            go_ret
            exact ⟨by rw [HE.out]; rfl, HB2.out.drew⟩
          rw [decide_eq_false h3]
          by_cases h4 : s.length = 16
          · have d4 : ((s.length : Int) != 16) = false := by simp [h4]
            have HE : Hid (tagsE (-1) l = tagsE (lastT l (k + 1)) (l.drop (k + 1))) := by unfold Hid; rw [HI.out.1, HD.out, if_neg (by omega), if_neg h3, if_neg (by omega), HL.out]
            clear h1 h2 h3 HI HD HL h4 hlast
            go_wp2_with fail
            exact ⟨⟨k + 1, by omega, by simp, HE.out, HB2.out.drew, HX2.out.drew⟩, by simp [intOf]; omega⟩
          · have d4 : ((s.length : Int) != 16) = true := by simp only [bne_iff_ne, ne_eq]; omega
            have HE : Hid (formS ⟨t, g, l⟩ = 4) := by unfold Hid; rw [HF.out, HI.out.1, HD.out, if_neg (by omega), if_neg h3, if_pos h4]
            clear h1 h2 h3 h4
            go_wp2_with fail
            go_ret
            exact ⟨by rw [HE.out]; rfl, HB2.out.drew⟩
      · obtain rfl : k = l.length := by omega
        have HE : Hid (formS ⟨t, g, l⟩ = 0) := by unfold Hid; rw [HF.out, HI.out.1, List.drop_length, tagsE]
        go_wp2_with fail
        go_ret
        exact ⟨by rw [HE.out]; rfl, HI.out.2.1⟩

end Go.Proofs.YtkmhimaeakbpoaaDoor
