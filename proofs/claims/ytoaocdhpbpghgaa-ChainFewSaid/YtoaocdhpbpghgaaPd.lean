/- Plain laws: as few shards change their owner as can be. -/
import Derived.Test.YtoaocdhpbpghgaaPc
namespace Go.Proofs.Ytoaocdhpbpghgaa

def movedS (a b : Own) : Int := (if a.a = b.a then 0 else 1) + (if a.b = b.b then 0 else 1) + (if a.c = b.c then 0 else 1) + (if a.d = b.d then 0 else 1)
theorem moved_bd (a b : Own) : 0 ≤ movedS a b ∧ movedS a b ≤ 4 := by
  unfold movedS
  split <;> split <;> split <;> split <;> omega
def rightB (gs : List Int) (o : Own) : Bool := gs.all fun a => gs.all fun b => decide (cnt o.list a - cnt o.list b < 2)
/-- The j'th shard's place among the groups, in the way m. -/
def placeW (k m j : Nat) : Nat := m / 4 ^ j % 4 % k
def wayOwn (gs : List Int) (m : Nat) : Own := ⟨gs.getD (placeW gs.length m 0) 0, gs.getD (placeW gs.length m 1) 0, gs.getD (placeW gs.length m 2) 0, gs.getD (placeW gs.length m 3) 0⟩
def leastS (o : Own) (gs : List Int) : Nat → Int
  | 0 => 4
  | n + 1 => if rightB gs (wayOwn gs n) = true ∧ movedS o (wayOwn gs n) < leastS o gs n then movedS o (wayOwn gs n) else leastS o gs n
theorem least_bd (o : Own) (gs : List Int) (n : Nat) : 0 ≤ leastS o gs n ∧ leastS o gs n ≤ 4 := by
  induction n with
  | zero => simp [leastS]
  | succ n ih =>
    rw [leastS]
    have := moved_bd o (wayOwn gs n)
    split <;> omega
theorem least_le (o : Own) (gs : List Int) (n m : Nat) (h : m < n) (hr : rightB gs (wayOwn gs m) = true) : leastS o gs n ≤ movedS o (wayOwn gs m) := by
  induction n with
  | zero => omega
  | succ n ih =>
    rw [leastS]
    by_cases e : m = n
    · subst e
      split
      · omega
      · rename_i hh
        have : ¬ movedS o (wayOwn gs m) < leastS o gs m := fun h2 => hh ⟨hr, h2⟩
        omega
    · have := ih (by omega)
      split
      · rename_i hh; omega
      · exact this
theorem least_ge (o : Own) (gs : List Int) (M : Int) (h4 : M ≤ 4) (n : Nat) (h : ∀ m, m < n → rightB gs (wayOwn gs m) = true → M ≤ movedS o (wayOwn gs m)) : M ≤ leastS o gs n := by
  induction n with
  | zero => exact h4
  | succ n ih =>
    rw [leastS]
    split
    · rename_i hh; exact h n (by omega) hh.1
    · exact ih (fun m hm => h m (by omega))

def rlit (gs : List Int) : List Own :=
  if gs = [1] then [⟨1, 1, 1, 1⟩] else
  if gs = [2] then [⟨2, 2, 2, 2⟩] else
  if gs = [3] then [⟨3, 3, 3, 3⟩] else
  if gs = [4] then [⟨4, 4, 4, 4⟩] else
  if gs = [1, 2] then [⟨1, 1, 2, 2⟩, ⟨1, 2, 1, 2⟩, ⟨1, 2, 2, 1⟩, ⟨2, 1, 1, 2⟩, ⟨2, 1, 2, 1⟩, ⟨2, 2, 1, 1⟩] else
  if gs = [1, 3] then [⟨1, 1, 3, 3⟩, ⟨1, 3, 1, 3⟩, ⟨1, 3, 3, 1⟩, ⟨3, 1, 1, 3⟩, ⟨3, 1, 3, 1⟩, ⟨3, 3, 1, 1⟩] else
  if gs = [1, 4] then [⟨1, 1, 4, 4⟩, ⟨1, 4, 1, 4⟩, ⟨1, 4, 4, 1⟩, ⟨4, 1, 1, 4⟩, ⟨4, 1, 4, 1⟩, ⟨4, 4, 1, 1⟩] else
  if gs = [2, 3] then [⟨2, 2, 3, 3⟩, ⟨2, 3, 2, 3⟩, ⟨2, 3, 3, 2⟩, ⟨3, 2, 2, 3⟩, ⟨3, 2, 3, 2⟩, ⟨3, 3, 2, 2⟩] else
  if gs = [2, 4] then [⟨2, 2, 4, 4⟩, ⟨2, 4, 2, 4⟩, ⟨2, 4, 4, 2⟩, ⟨4, 2, 2, 4⟩, ⟨4, 2, 4, 2⟩, ⟨4, 4, 2, 2⟩] else
  if gs = [3, 4] then [⟨3, 3, 4, 4⟩, ⟨3, 4, 3, 4⟩, ⟨3, 4, 4, 3⟩, ⟨4, 3, 3, 4⟩, ⟨4, 3, 4, 3⟩, ⟨4, 4, 3, 3⟩] else
  if gs = [1, 2, 3] then [⟨1, 1, 2, 3⟩, ⟨1, 1, 3, 2⟩, ⟨1, 2, 1, 3⟩, ⟨1, 2, 2, 3⟩, ⟨1, 2, 3, 1⟩, ⟨1, 2, 3, 2⟩, ⟨1, 2, 3, 3⟩, ⟨1, 3, 1, 2⟩, ⟨1, 3, 2, 1⟩, ⟨1, 3, 2, 2⟩, ⟨1, 3, 2, 3⟩, ⟨1, 3, 3, 2⟩, ⟨2, 1, 1, 3⟩, ⟨2, 1, 2, 3⟩, ⟨2, 1, 3, 1⟩, ⟨2, 1, 3, 2⟩, ⟨2, 1, 3, 3⟩, ⟨2, 2, 1, 3⟩, ⟨2, 2, 3, 1⟩, ⟨2, 3, 1, 1⟩, ⟨2, 3, 1, 2⟩, ⟨2, 3, 1, 3⟩, ⟨2, 3, 2, 1⟩, ⟨2, 3, 3, 1⟩, ⟨3, 1, 1, 2⟩, ⟨3, 1, 2, 1⟩, ⟨3, 1, 2, 2⟩, ⟨3, 1, 2, 3⟩, ⟨3, 1, 3, 2⟩, ⟨3, 2, 1, 1⟩, ⟨3, 2, 1, 2⟩, ⟨3, 2, 1, 3⟩, ⟨3, 2, 2, 1⟩, ⟨3, 2, 3, 1⟩, ⟨3, 3, 1, 2⟩, ⟨3, 3, 2, 1⟩] else
  if gs = [1, 2, 4] then [⟨1, 1, 2, 4⟩, ⟨1, 1, 4, 2⟩, ⟨1, 2, 1, 4⟩, ⟨1, 2, 2, 4⟩, ⟨1, 2, 4, 1⟩, ⟨1, 2, 4, 2⟩, ⟨1, 2, 4, 4⟩, ⟨1, 4, 1, 2⟩, ⟨1, 4, 2, 1⟩, ⟨1, 4, 2, 2⟩, ⟨1, 4, 2, 4⟩, ⟨1, 4, 4, 2⟩, ⟨2, 1, 1, 4⟩, ⟨2, 1, 2, 4⟩, ⟨2, 1, 4, 1⟩, ⟨2, 1, 4, 2⟩, ⟨2, 1, 4, 4⟩, ⟨2, 2, 1, 4⟩, ⟨2, 2, 4, 1⟩, ⟨2, 4, 1, 1⟩, ⟨2, 4, 1, 2⟩, ⟨2, 4, 1, 4⟩, ⟨2, 4, 2, 1⟩, ⟨2, 4, 4, 1⟩, ⟨4, 1, 1, 2⟩, ⟨4, 1, 2, 1⟩, ⟨4, 1, 2, 2⟩, ⟨4, 1, 2, 4⟩, ⟨4, 1, 4, 2⟩, ⟨4, 2, 1, 1⟩, ⟨4, 2, 1, 2⟩, ⟨4, 2, 1, 4⟩, ⟨4, 2, 2, 1⟩, ⟨4, 2, 4, 1⟩, ⟨4, 4, 1, 2⟩, ⟨4, 4, 2, 1⟩] else
  if gs = [1, 3, 4] then [⟨1, 1, 3, 4⟩, ⟨1, 1, 4, 3⟩, ⟨1, 3, 1, 4⟩, ⟨1, 3, 3, 4⟩, ⟨1, 3, 4, 1⟩, ⟨1, 3, 4, 3⟩, ⟨1, 3, 4, 4⟩, ⟨1, 4, 1, 3⟩, ⟨1, 4, 3, 1⟩, ⟨1, 4, 3, 3⟩, ⟨1, 4, 3, 4⟩, ⟨1, 4, 4, 3⟩, ⟨3, 1, 1, 4⟩, ⟨3, 1, 3, 4⟩, ⟨3, 1, 4, 1⟩, ⟨3, 1, 4, 3⟩, ⟨3, 1, 4, 4⟩, ⟨3, 3, 1, 4⟩, ⟨3, 3, 4, 1⟩, ⟨3, 4, 1, 1⟩, ⟨3, 4, 1, 3⟩, ⟨3, 4, 1, 4⟩, ⟨3, 4, 3, 1⟩, ⟨3, 4, 4, 1⟩, ⟨4, 1, 1, 3⟩, ⟨4, 1, 3, 1⟩, ⟨4, 1, 3, 3⟩, ⟨4, 1, 3, 4⟩, ⟨4, 1, 4, 3⟩, ⟨4, 3, 1, 1⟩, ⟨4, 3, 1, 3⟩, ⟨4, 3, 1, 4⟩, ⟨4, 3, 3, 1⟩, ⟨4, 3, 4, 1⟩, ⟨4, 4, 1, 3⟩, ⟨4, 4, 3, 1⟩] else
  if gs = [2, 3, 4] then [⟨2, 2, 3, 4⟩, ⟨2, 2, 4, 3⟩, ⟨2, 3, 2, 4⟩, ⟨2, 3, 3, 4⟩, ⟨2, 3, 4, 2⟩, ⟨2, 3, 4, 3⟩, ⟨2, 3, 4, 4⟩, ⟨2, 4, 2, 3⟩, ⟨2, 4, 3, 2⟩, ⟨2, 4, 3, 3⟩, ⟨2, 4, 3, 4⟩, ⟨2, 4, 4, 3⟩, ⟨3, 2, 2, 4⟩, ⟨3, 2, 3, 4⟩, ⟨3, 2, 4, 2⟩, ⟨3, 2, 4, 3⟩, ⟨3, 2, 4, 4⟩, ⟨3, 3, 2, 4⟩, ⟨3, 3, 4, 2⟩, ⟨3, 4, 2, 2⟩, ⟨3, 4, 2, 3⟩, ⟨3, 4, 2, 4⟩, ⟨3, 4, 3, 2⟩, ⟨3, 4, 4, 2⟩, ⟨4, 2, 2, 3⟩, ⟨4, 2, 3, 2⟩, ⟨4, 2, 3, 3⟩, ⟨4, 2, 3, 4⟩, ⟨4, 2, 4, 3⟩, ⟨4, 3, 2, 2⟩, ⟨4, 3, 2, 3⟩, ⟨4, 3, 2, 4⟩, ⟨4, 3, 3, 2⟩, ⟨4, 3, 4, 2⟩, ⟨4, 4, 2, 3⟩, ⟨4, 4, 3, 2⟩] else
  if gs = [1, 2, 3, 4] then [⟨1, 2, 3, 4⟩, ⟨1, 2, 4, 3⟩, ⟨1, 3, 2, 4⟩, ⟨1, 3, 4, 2⟩, ⟨1, 4, 2, 3⟩, ⟨1, 4, 3, 2⟩, ⟨2, 1, 3, 4⟩, ⟨2, 1, 4, 3⟩, ⟨2, 3, 1, 4⟩, ⟨2, 3, 4, 1⟩, ⟨2, 4, 1, 3⟩, ⟨2, 4, 3, 1⟩, ⟨3, 1, 2, 4⟩, ⟨3, 1, 4, 2⟩, ⟨3, 2, 1, 4⟩, ⟨3, 2, 4, 1⟩, ⟨3, 4, 1, 2⟩, ⟨3, 4, 2, 1⟩, ⟨4, 1, 2, 3⟩, ⟨4, 1, 3, 2⟩, ⟨4, 2, 1, 3⟩, ⟨4, 2, 3, 1⟩, ⟨4, 3, 1, 2⟩, ⟨4, 3, 2, 1⟩] else
  []

def subsets : List (List Int) := [[1], [2], [3], [4], [1, 2], [1, 3], [1, 4], [2, 3], [2, 4], [3, 4], [1, 2, 3], [1, 2, 4], [1, 3, 4], [2, 3, 4], [1, 2, 3, 4]]
theorem rlit_all : (subsets.all fun gs => gs.all fun a => gs.all fun b => gs.all fun c => gs.all fun d => !rightB gs ⟨a, b, c, d⟩ || (rlit gs).any (fun w => w.a == a && w.b == b && w.c == c && w.d == d)) = true := by decide +kernel
def optB (gs : List Int) (o o' : Own) : Bool := (rlit gs).all fun w => decide (movedS o o' ≤ movedS o w)
theorem optAll : allCfg (fun gs o g => (inS g gs || optB (isort (gs ++ [g])) o ((giveS (isort (gs ++ [g])) o).getD o)) && (!inS g gs || gs.length == 1 || optB (offS g gs) o ((giveS (offS g gs) o).getD o))) = true := by decide +kernel

theorem subset_of {gs : List Int} (hm : gs ∈ allFrom [1, 2, 3, 4]) (h0 : 0 < gs.length) : gs ∈ subsets := by
  have : ∀ gs ∈ allFrom [1, 2, 3, 4], gs = [] ∨ gs ∈ subsets := by decide
  rcases this gs hm with rfl | h
  · simp at h0
  · exact h
theorem opt_at {gs : List Int} {o o' : Own} (hs : gs ∈ subsets) (h : optB gs o o' = true) (w : Own) (ha : w.a ∈ gs) (hb : w.b ∈ gs) (hc : w.c ∈ gs) (hd : w.d ∈ gs) (hr : rightB gs w = true) : movedS o o' ≤ movedS o w := by
  have h1 := List.all_eq_true.1 rlit_all gs hs
  have h2 := List.all_eq_true.1 h1 w.a ha
  have h3 := List.all_eq_true.1 h2 w.b hb
  have h4 := List.all_eq_true.1 h3 w.c hc
  have h5 := List.all_eq_true.1 h4 w.d hd
  rw [show (⟨w.a, w.b, w.c, w.d⟩ : Own) = w from rfl, hr] at h5
  simp only [Bool.not_true, Bool.false_or, List.any_eq_true, Bool.and_eq_true, beq_iff_eq] at h5
  obtain ⟨v, hv, ⟨⟨e1, e2⟩, e3⟩, e4⟩ := h5
  have ev : v = w := by
    obtain ⟨a, b, c, d⟩ := v
    obtain ⟨p, q, r, s⟩ := w
    simp only at e1 e2 e3 e4
    subst e1 e2 e3 e4
    rfl
  have := List.all_eq_true.1 h v hv
  rw [ev] at this
  exact of_decide_eq_true this
theorem place_lt {k m j : Nat} (h : 0 < k) : placeW k m j < k := Nat.mod_lt _ h
theorem getD_mem {gs : List Int} {i : Nat} (h : i < gs.length) : gs.getD i 0 ∈ gs := by
  rw [List.getD_eq_getElem?_getD, List.getElem?_eq_getElem h]
  exact List.getElem_mem h
theorem way_of {gs : List Int} {o : Own} (h4 : gs.length ≤ 4) (ha : o.a ∈ gs) (hb : o.b ∈ gs) (hc : o.c ∈ gs) (hd : o.d ∈ gs) : ∃ m, m < 256 ∧ wayOwn gs m = o := by
  obtain ⟨i, hi, ei⟩ := List.getElem_of_mem ha
  obtain ⟨j, hj, ej⟩ := List.getElem_of_mem hb
  obtain ⟨k, hk, ek⟩ := List.getElem_of_mem hc
  obtain ⟨l, hl, el⟩ := List.getElem_of_mem hd
  refine ⟨i + 4 * j + 16 * k + 64 * l, by omega, ?_⟩
  have p0 : placeW gs.length (i + 4 * j + 16 * k + 64 * l) 0 = i := by
    unfold placeW
    rw [show (i + 4 * j + 16 * k + 64 * l) / 4 ^ 0 % 4 = i by omega]
    exact Nat.mod_eq_of_lt hi
  have p1 : placeW gs.length (i + 4 * j + 16 * k + 64 * l) 1 = j := by
    unfold placeW
    rw [show (i + 4 * j + 16 * k + 64 * l) / 4 ^ 1 % 4 = j by omega]
    exact Nat.mod_eq_of_lt hj
  have p2 : placeW gs.length (i + 4 * j + 16 * k + 64 * l) 2 = k := by
    unfold placeW
    rw [show (i + 4 * j + 16 * k + 64 * l) / 4 ^ 2 % 4 = k by omega]
    exact Nat.mod_eq_of_lt hk
  have p3 : placeW gs.length (i + 4 * j + 16 * k + 64 * l) 3 = l := by
    unfold placeW
    rw [show (i + 4 * j + 16 * k + 64 * l) / 4 ^ 3 % 4 = l by omega]
    exact Nat.mod_eq_of_lt hl
  unfold wayOwn
  rw [p0, p1, p2, p3]
  have g : ∀ n (h : n < gs.length), gs.getD n 0 = gs[n] := fun n h => by rw [List.getD_eq_getElem?_getD, List.getElem?_eq_getElem h]; rfl
  rw [g i hi, g j hj, g k hk, g l hl, ei, ej, ek, el]

theorem next_opt {c : Cfg} {x : Cmd} (h : (nextS c x).2 = 0) (hk : x.kind ≠ 3) : optB (nextS c x).1.gs c.o (nextS c x).1.o = true ∧ 0 < (nextS c x).1.gs.length := by
  obtain ⟨hck, hrf, he⟩ := next_is h
  have hgv := (give_some hck hrf hk).2
  rw [he]
  refine ⟨?_, hgv⟩
  obtain ⟨hgb, hnum, hcase⟩ := refused_zero hrf
  have hL := allCfg_at optAll hck hgb
  simp only [Bool.and_eq_true, Bool.or_eq_true, Bool.not_eq_true'] at hL
  obtain ⟨hA, hB⟩ := hL
  rcases hcase with ⟨h1, hin⟩ | ⟨h1, hin, hl⟩ | ⟨h1, hin, s0, s4⟩
  · have hgs : nextGs c.gs x = isort (c.gs ++ [x.group]) := by unfold nextGs; rw [if_pos h1]
    have how : nextOwn c x = (giveS (nextGs c.gs x) c.o).getD c.o := by unfold nextOwn; rw [if_neg (by omega)]
    rw [how, hgs]
    rw [hin] at hA
    simpa using hA
  · have hgs : nextGs c.gs x = offS x.group c.gs := by unfold nextGs; rw [if_neg (by omega), if_pos h1]
    have how : nextOwn c x = (giveS (nextGs c.gs x) c.o).getD c.o := by unfold nextOwn; rw [if_neg (by omega)]
    rw [how, hgs]
    rw [hin] at hB
    simpa [hl] using hB
  · exact absurd h1 hk

theorem few_law {c : Cfg} {x : Cmd} (h : (nextS c x).2 = 0) (hk : x.kind ≠ 3) : movedS c.o (nextS c x).1.o = leastS c.o (nextS c x).1.gs 256 := by
  obtain ⟨hopt, h0⟩ := next_opt h hk
  have hcn := next_check h
  have hbal := next_bal h hk
  generalize (nextS c x).1 = n at *
  have hc2 := hcn
  simp only [checkB, Bool.and_eq_true, Bool.not_eq_true', decide_eq_false_iff_not] at hc2
  obtain ⟨⟨_, hasc⟩, hown⟩ := hc2
  have hm : n.gs ∈ allFrom [1, 2, 3, 4] := asc_mem n.gs 0 (by omega) (by omega) hasc
  have hs := subset_of hm h0
  have hl4 := (check_bounds hcn).2.2.1
  have hmem : ∀ o ∈ n.own, o ∈ n.gs := by
    intro o ho
    have := List.all_eq_true.1 hown o ho
    unfold ownB at this
    rw [if_neg (by omega)] at this
    simpa [inS] using this
  have hr : rightB n.gs n.o = true := by
    unfold balB at hbal
    simp only [Bool.and_eq_true, List.all_eq_true, decide_eq_true_eq] at hbal
    unfold rightB
    simp only [List.all_eq_true, decide_eq_true_eq]
    intro a ha b hb
    have := hbal.1 _ (List.mem_map.2 ⟨a, ha, rfl⟩) _ (List.mem_map.2 ⟨b, hb, rfl⟩)
    omega
  obtain ⟨m, hm256, hw⟩ := way_of hl4 (hmem _ (by simp [Cfg.own, Own.list])) (hmem _ (by simp [Cfg.own, Own.list])) (hmem _ (by simp [Cfg.own, Own.list])) (hmem n.o.d (by simp [Cfg.own, Own.list]))
  have hle := least_le c.o n.gs 256 m hm256 (by rw [hw]; exact hr)
  rw [hw] at hle
  have hge := least_ge c.o n.gs (movedS c.o n.o) (moved_bd _ _).2 256 (fun q _ hq => opt_at hs hopt _ (getD_mem (place_lt h0)) (getD_mem (place_lt h0)) (getD_mem (place_lt h0)) (getD_mem (place_lt h0)) hq)
  omega

end Go.Proofs.Ytoaocdhpbpghgaa
