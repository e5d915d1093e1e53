/- Plain laws of the next configuration: it is one. -/
import Derived.Test.YtijacbnoemjgcaaDoorPn29
set_option linter.unusedVariables false
set_option linter.unusedSimpArgs false
set_option linter.unnecessarySimpa false
namespace Go.Proofs.YtijacbnoemjgcaaDoor

def okB (gs : List Int) (o : Own) : Bool := ascB 0 gs && o.list.all (ownB gs)
theorem okNext : allCfg (fun gs o g => (inS g gs || okB (isort (gs ++ [g])) ((giveS (isort (gs ++ [g])) o).getD o)) && (!inS g gs || gs.length == 1 || okB (offS g gs) ((giveS (offS g gs) o).getD o)) && (!inS g gs || (okB gs (o.put 0 g) && okB gs (o.put 1 g) && okB gs (o.put 2 g) && okB gs (o.put 3 g)))) = true := by decide +kernel

theorem next_is {c : Cfg} {x : Cmd} (h : (nextS c x).2 = 0) : checkB c = true ∧ refusedS c x = 0 ∧ nextS c x = (⟨c.num + 1, nextGs c.gs x, nextOwn c x⟩, 0) := by
  unfold nextS at h ⊢
  by_cases h1 : checkB c = false
  · rw [if_pos h1] at h; simp at h
  · rw [if_neg h1] at h ⊢
    by_cases h2 : refusedS c x ≠ 0
    · rw [if_pos h2] at h; exact absurd h h2
    · rw [if_neg h2]
      exact ⟨by simpa using h1, by simpa using h2, rfl⟩
theorem next_check {c : Cfg} {x : Cmd} (h : (nextS c x).2 = 0) : checkB (nextS c x).1 = true := by
  obtain ⟨hck, hrf, he⟩ := next_is h
  rw [he]
  obtain ⟨hgb, hnum, hcase⟩ := refused_zero hrf
  obtain ⟨n0, n1, _⟩ := check_bounds hck
  have hL := allCfg_at okNext hck hgb
  simp only [Bool.and_eq_true, Bool.or_eq_true, Bool.not_eq_true'] at hL
  obtain ⟨⟨hA, hB⟩, hC⟩ := hL
  have key : okB (nextGs c.gs x) (nextOwn c x) = true := by
    rcases hcase with ⟨h1, hin⟩ | ⟨h1, hin, hl⟩ | ⟨h1, hin, s0, s4⟩
    · have hgs : nextGs c.gs x = isort (c.gs ++ [x.group]) := by unfold nextGs; rw [if_pos h1]
      have how : nextOwn c x = (giveS (nextGs c.gs x) c.o).getD c.o := by unfold nextOwn; rw [if_neg (by omega)]
      rw [how, hgs]
      rw [hin] at hA
      simpa using hA
    · have hgs : nextGs c.gs x = offS x.group c.gs := by unfold nextGs; rw [if_neg (by omega), if_pos h1]
      have how : nextOwn c x = (giveS (nextGs c.gs x) c.o).getD c.o := by unfold nextOwn; rw [if_neg (by omega)]
      rw [how, hgs]
      rw [hin] at hB
      simpa [hl] using hB
    · have hgs : nextGs c.gs x = c.gs := by unfold nextGs; rw [if_neg (by omega), if_neg (by omega)]
      have how : nextOwn c x = c.o.put x.shard.toNat x.group := by unfold nextOwn; rw [if_pos h1]
      rw [how, hgs]
      rw [hin] at hC
      have hC' : ((okB c.gs (c.o.put 0 x.group) = true ∧ okB c.gs (c.o.put 1 x.group) = true) ∧ okB c.gs (c.o.put 2 x.group) = true) ∧ okB c.gs (c.o.put 3 x.group) = true := by simpa using hC
      have h4 : x.shard.toNat = 0 ∨ x.shard.toNat = 1 ∨ x.shard.toNat = 2 ∨ x.shard.toNat = 3 := by omega
      rcases h4 with h | h | h | h <;> rw [h]
      · exact hC'.1.1.1
      · exact hC'.1.1.2
      · exact hC'.1.2
      · exact hC'.2
  unfold okB at key
  simp only [Bool.and_eq_true] at key
  simp only [checkB, Bool.and_eq_true, Bool.not_eq_true', decide_eq_false_iff_not]
  exact ⟨⟨⟨by omega, by omega⟩, key.1⟩, key.2⟩

end Go.Proofs.YtijacbnoemjgcaaDoor
