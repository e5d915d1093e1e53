/- Plain laws: behind a join or a leave no group has two shards more than another one. -/
import Derived.Test.YtoaocdhpbpghgaaPb
namespace Go.Proofs.Ytoaocdhpbpghgaa

theorem next_small (c : Cfg) (x : Cmd) : (nextS c x).1.gs.length ≤ 4 := by
  by_cases h : (nextS c x).2 = 0
  · exact (check_bounds (next_check h)).2.2.1
  · unfold nextS at h ⊢
    by_cases h1 : checkB c = false
    · rw [if_pos h1]; simp [cfg0]
    · rw [if_neg h1] at h ⊢
      by_cases h2 : refusedS c x ≠ 0
      · rw [if_pos h2]; simp [cfg0]
      · rw [if_neg h2] at h; simp at h

def loadsS (c : Cfg) : List Int := if checkB c = true then c.gs.map (cnt c.own) else []
def sumS (l : List Int) : Int := l.foldl (· + ·) 0
theorem sumS_snoc (l : List Int) (a : Int) : sumS (l ++ [a]) = sumS l + a := by simp [sumS, List.foldl_append]
def balB (gs : List Int) (o : Own) : Bool := (gs.map (cnt o.list)).all (fun a => (gs.map (cnt o.list)).all fun b => decide (a - b ≤ 1)) && sumS (gs.map (cnt o.list)) == 4
theorem balAll : allCfg (fun gs o g => (inS g gs || balB (isort (gs ++ [g])) ((giveS (isort (gs ++ [g])) o).getD o)) && (!inS g gs || gs.length == 1 || balB (offS g gs) ((giveS (offS g gs) o).getD o))) = true := by decide +kernel
theorem next_bal {c : Cfg} {x : Cmd} (h : (nextS c x).2 = 0) (hk : x.kind ≠ 3) : balB (nextS c x).1.gs (nextS c x).1.o = true := by
  obtain ⟨hck, hrf, he⟩ := next_is h
  rw [he]
  obtain ⟨hgb, hnum, hcase⟩ := refused_zero hrf
  have hL := allCfg_at balAll hck hgb
  simp only [Bool.and_eq_true, Bool.or_eq_true, Bool.not_eq_true'] at hL
  obtain ⟨hA, hB⟩ := hL
  rcases hcase with ⟨h1, hin⟩ | ⟨h1, hin, hl⟩ | ⟨h1, hin, s0, s4⟩
  · have hgs : nextGs c.gs x = isort (c.gs ++ [x.group]) := by unfold nextGs; rw [if_pos h1]
    have how : nextOwn c x = (giveS (nextGs c.gs x) c.o).getD c.o := by unfold nextOwn; rw [if_neg (by omega)]
    rw [how, hgs]
    rw [hin] at hA
    simpa using hA
  · have hgs : nextGs c.gs x = offS x.group c.gs := by unfold nextGs; rw [if_neg (by omega), if_pos h1]
    have how : nextOwn c x = (giveS (nextGs c.gs x) c.o).getD c.o := by unfold nextOwn; rw [if_neg (by omega)]
    rw [how, hgs]
    rw [hin] at hB
    simpa [hl] using hB
  · exact absurd h1 hk
theorem next_loads {c : Cfg} {x : Cmd} (h : (nextS c x).2 = 0) (hk : x.kind ≠ 3) : (∀ i j (hi : i < (loadsS (nextS c x).1).length) (hj : j < (loadsS (nextS c x).1).length), (loadsS (nextS c x).1)[i] - (loadsS (nextS c x).1)[j] ≤ 1) ∧ sumS (loadsS (nextS c x).1) = 4 := by
  have hb := next_bal h hk
  have hl : loadsS (nextS c x).1 = (nextS c x).1.gs.map (cnt (nextS c x).1.o.list) := by unfold loadsS; rw [if_pos (next_check h)]; rfl
  rw [hl]
  unfold balB at hb
  simp only [Bool.and_eq_true, List.all_eq_true, decide_eq_true_eq, beq_iff_eq] at hb
  exact ⟨fun i j hi hj => hb.1 _ (List.getElem_mem hi) _ (List.getElem_mem hj), hb.2⟩
theorem loads_small (c : Cfg) : (∀ a ∈ loadsS c, 0 ≤ a ∧ a ≤ 4) ∧ (loadsS c).length ≤ 4 := by
  unfold loadsS
  split
  · rename_i h
    refine ⟨fun a ha => ?_, by rw [List.length_map]; exact (check_bounds h).2.2.1⟩
    obtain ⟨g, _, rfl⟩ := List.mem_map.1 ha
    exact cnt_le c.own g
  · simp

end Go.Proofs.Ytoaocdhpbpghgaa
