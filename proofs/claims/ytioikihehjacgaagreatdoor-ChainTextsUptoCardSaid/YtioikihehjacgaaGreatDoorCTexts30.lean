/- The reference: shards are given. -/
import Derived.Test.YtioikihehjacgaaGreatDoorCTexts18
import Derived.Test.YtioikihehjacgaaGreatDoorCTexts15
import Derived.Test.YtioikihehjacgaaGreatDoorCTexts28
import Derived.Test.YtioikihehjacgaaGreatDoorCTexts29
set_option linter.unusedVariables false
set_option linter.unusedSimpArgs false
set_option linter.unnecessarySimpa false
namespace Go.Proofs.YtioikihehjacgaaGreatDoor
open Go.RowKit Go.Shelf

def revenK (gs : List Int) (o : Own) : Nat → Own
  | 0 => o
  | n + 1 => if cnt o.list (endsG gs o).1 - cnt o.list (endsG gs o).2 < 2 then o else revenK gs (o.put (idxS (endsG gs o).1 o.list).toNat (endsG gs o).2) n
theorem reven_even (gs : List Int) (n : Nat) : ∀ (o of : Own), evenK gs o (n + 1) = some of → revenK gs o n = of := by
  induction n with
  | zero =>
    intro o of h
    rw [evenK] at h
    split at h
    · exact Option.some.inj h
    · simp [evenK] at h
  | succ n ih =>
    intro o of h
    rw [evenK] at h
    rw [revenK]
    split at h
    · rename_i ht
      rw [if_pos ht]; exact Option.some.inj h
    · rename_i ht
      rw [if_neg ht]; exact ih _ _ h
theorem idxS_first (x : Int) (l : List Int) (p : Nat) (h : idxS x l = p) (j : Nat) (hj : j < p) (hl : j < l.length) : l[j] ≠ x := by
  obtain ⟨hp, _, ht⟩ := offS_idx x l p h
  intro e
  have hm : l[j] ∈ offS x (l.take p) := by rw [ht, List.mem_take_iff_getElem]; exact ⟨j, by omega, rfl⟩
  unfold offS at hm
  rw [List.mem_filter] at hm
  simp [e] at hm
theorem own_get_list (o : Own) (k : Nat) (hk : k < 4) : o.list[k]? = some (o.get k) := by
  have h : k = 0 ∨ k = 1 ∨ k = 2 ∨ k = 3 := by omega
  rcases h with rfl | rfl | rfl | rfl <;> rfl

section
variable {w W : World} {b : Nat} {num : Int} {s : Value} {o : Own}
theorem rblk_own (h : Blk w b 32 (cfgCells num s o)) (k : Nat) (hk : k < 4) : w.cell? ⟨b, 2 + k, none⟩ = some (.int .i64 (o.get k)) := by
  rw [h.cell]; exact cfgCells_get num s o k hk
theorem rblk_put (h : Blk w b 32 (cfgCells num s o)) (k : Nat) (hk : k < 4) (v : Int) : Blk (w.setCell ⟨b, 2 + k, none⟩ (.int .i64 v)) b 32 (cfgCells num s (o.put k v)) := by
  rw [← cfgCells_set num s o k hk v]; exact h.set_ _ _
end

end Go.Proofs.YtioikihehjacgaaGreatDoor

namespace Go.Proofs.YtioikihehjacgaaGreatDoor
open Go.RowKit Go.Shelf

end Go.Proofs.YtioikihehjacgaaGreatDoor

namespace Go.Proofs.YtioikihehjacgaaGreatDoor
open Go.RowKit Go.Shelf

/-- Is g a group behind the command? -/
def isG (gs : List Int) (x : Cmd) (g : Int) : Bool := if x.group == g then x.kind != 2 else inS g gs
def upG (gs : List Int) (x : Cmd) : Nat → List Int
  | 0 => []
  | k + 1 => if isG gs x (k + 1 : Nat) = true then upG gs x k ++ [((k + 1 : Nat) : Int)] else upG gs x k
theorem upG_length (gs : List Int) (x : Cmd) (k : Nat) : (upG gs x k).length ≤ k := by
  induction k with
  | zero => simp [upG]
  | succ k ih => rw [upG]; split <;> first | omega | (simp; omega)
theorem ups : allCfg (fun gs _ g => (inS g gs || upG gs ⟨1, g, 0⟩ 4 == isort (gs ++ [g])) && (!inS g gs || upG gs ⟨2, g, 0⟩ 4 == offS g gs) && (!inS g gs || upG gs ⟨3, g, 0⟩ 4 == gs)) = true := by decide +kernel
theorem upG_shard (gs : List Int) (k g s s' : Int) (n : Nat) : upG gs ⟨k, g, s⟩ n = upG gs ⟨k, g, s'⟩ n := by
  induction n with
  | zero => rfl
  | succ n ih => rw [upG, upG, ih]; rfl
theorem upG_next {c : Cfg} {x : Cmd} (hck : checkB c = true) (hrf : refusedS c x = 0) : upG c.gs x 4 = nextGs c.gs x := by
  obtain ⟨hgb, _, hcase⟩ := refused_zero hrf
  have hU := allCfg_at ups hck hgb
  obtain ⟨kind, grp, sh⟩ := x
  rw [upG_shard _ _ _ sh 0]
  simp only [Bool.and_eq_true, Bool.or_eq_true, Bool.not_eq_true', beq_iff_eq] at hU
  obtain ⟨⟨h1, h2⟩, h3⟩ := hU
  rcases hcase with ⟨rfl, hin⟩ | ⟨rfl, hin, _⟩ | ⟨rfl, hin, _⟩
  · simp only at hin; rw [hin] at h1; simpa [nextGs] using h1
  · simp only at hin; rw [hin] at h2; simpa [nextGs] using h2
  · simp only at hin; rw [hin] at h3; simpa [nextGs] using h3

theorem upG_mem (gs : List Int) (x : Cmd) (k : Nat) (hk : k ≤ 4) : ∀ g ∈ upG gs x k, 0 ≤ g ∧ g < 5 := by
  induction k with
  | zero => simp [upG]
  | succ k ih =>
    intro g hg
    rw [upG] at hg
    split at hg
    · rcases List.mem_append.1 hg with h | h
      · exact ih (by omega) g h
      · simp at h; omega
    · exact ih (by omega) g hg
theorem give_some {c : Cfg} {x : Cmd} (hck : checkB c = true) (hrf : refusedS c x = 0) (hk : x.kind ≠ 3) : giveS (nextGs c.gs x) c.o = some (nextOwn c x) ∧ 0 < (nextGs c.gs x).length := by
  obtain ⟨hgb, _, hcase⟩ := refused_zero hrf
  have hG := allCfg_at gives hck hgb
  have hP := allCfg_at offpos hck hgb
  have how : nextOwn c x = (giveS (nextGs c.gs x) c.o).getD c.o := by unfold nextOwn; rw [if_neg hk]
  rcases hcase with ⟨h1, hin⟩ | ⟨h1, hin, hl⟩ | ⟨h1, _⟩
  · have hgs : nextGs c.gs x = isort (c.gs ++ [x.group]) := by unfold nextGs; rw [if_pos h1]
    rw [how, hgs]
    rw [hin] at hG
    refine ⟨?_, by rw [isort_length]; simp⟩
    cases e : giveS (isort (c.gs ++ [x.group])) c.o with
    | none => rw [e] at hG; simp at hG
    | some of => rfl
  · have hgs : nextGs c.gs x = offS x.group c.gs := by unfold nextGs; rw [if_neg (by omega), if_pos h1]
    have hl1b : (c.gs.length == 1) = false := by simpa using hl
    rw [how, hgs]
    rw [hin, hl1b] at hG hP
    refine ⟨?_, by simpa using hP⟩
    cases e : giveS (offS x.group c.gs) c.o with
    | none => rw [e] at hG; simp at hG
    | some of => rfl
  · exact absurd h1 hk

/-- What holds at the head of the loop over the groups: b is the block of 'out'. -/
structure RL (c : Cfg) (x : Cmd) (b : Nat) (W : World) (k : Nat) (so : Value) (wr : World) : Prop where
  hb : Blk wr b 32 (cfgCells (c.num + 1) so c.o)
  ho : wr.ownsRow (b + 1) 3 1 so (upG c.gs x k).length (ints (upG c.gs x k))
  hw : Below b W wr
end Go.Proofs.YtioikihehjacgaaGreatDoor

namespace Go.Proofs.YtioikihehjacgaaGreatDoor
open Go.RowKit Go.Shelf

end Go.Proofs.YtioikihehjacgaaGreatDoor
