/- Plain laws of rulings: a chain's configurations have their places for numbers; beginnings; moves. -/
import Derived.Test.YtijacbnoemjgcaaGreatDoorPb30
import Derived.Test.YtijacbnoemjgcaaGreatDoorPb24
set_option linter.unusedVariables false
set_option linter.unusedSimpArgs false
set_option linter.unnecessarySimpa false
namespace Go.Proofs.YtijacbnoemjgcaaGreatDoor

/-- Each is a configuration; their numbers are their places. -/
def Good (cs : List Cfg) : Prop := (∀ c ∈ cs, checkB c = true) ∧ ∀ k (h : k < cs.length), (cs[k]).num = (k : Int)
theorem good0 : Good [cfg0] := by
  refine ⟨fun c hc => ?_, fun k h => ?_⟩
  · simp at hc; subst hc; rfl
  · simp at h; subst h; rfl
theorem doS_is (cs : List Cfg) (x : Cmd) : doS cs x = if (nextS (cs.getLastD cfg0) x).2 ≠ 0 then (cs, (nextS (cs.getLastD cfg0) x).2) else if 40 < cs.length then (cs, 151) else (cs ++ [(nextS (cs.getLastD cfg0) x).1], 0) := rfl
theorem last_get (cs : List Cfg) (h0 : 0 < cs.length) : cs.getLastD cfg0 = cs[cs.length - 1] := by
  rw [List.getLastD_eq_getLast?, List.getLast?_eq_getElem?, List.getElem?_eq_getElem (by omega)]; rfl
theorem good_do {cs : List Cfg} (x : Cmd) (h : Good cs) (h0 : 0 < cs.length) : Good (doS cs x).1 := by
  rw [doS_is]
  split
  · exact h
  · rename_i hn
    have hn : (nextS (cs.getLastD cfg0) x).2 = 0 := by simpa using hn
    split
    · exact h
    · have hc := next_check hn
      obtain ⟨_, _, he⟩ := next_is hn
      have hnum : (nextS (cs.getLastD cfg0) x).1.num = (cs.length : Int) := by
        rw [he, last_get cs h0]
        show (cs[cs.length - 1]).num + 1 = _
        rw [h.2 _ (by omega)]
        omega
      refine ⟨fun c hcm => ?_, fun k hk => ?_⟩
      · rcases List.mem_append.1 hcm with hm | hm
        · exact h.1 c hm
        · rw [List.mem_singleton] at hm; subst hm; exact hc
      · rcases Nat.lt_or_ge k cs.length with hl | hl
        · simp only [List.getElem_append_left hl]; exact h.2 k hl
        · have : k = cs.length := by simp at hk; omega
          subst this
          simpa using hnum
theorem do_prefix (cs : List Cfg) (x : Cmd) : cs <+: (doS cs x).1 := by
  rw [doS_is]
  split
  · exact List.prefix_rfl
  · split
    · exact List.prefix_rfl
    · exact List.prefix_append _ _
theorem judge_prefix (l : List Rul) : ∀ (cs : List Cfg) (i : Nat), cs <+: (judgeS cs l i).1 := by
  induction l with
  | nil => intro cs i; exact List.prefix_rfl
  | cons r l ih =>
    intro cs i
    rw [judgeS]
    split
    · exact do_prefix cs r.x
    · exact (do_prefix cs r.x).trans (ih _ _)
theorem judge_len (l : List Rul) : ∀ (cs : List Cfg) (i : Nat), cs.length ≤ 41 → 0 < cs.length → (judgeS cs l i).1.length ≤ 41 ∧ 0 < (judgeS cs l i).1.length := by
  induction l with
  | nil => intro cs i h h0; exact ⟨h, h0⟩
  | cons r l ih =>
    intro cs i h h0
    rw [judgeS]
    split
    · exact doS_len cs r.x h h0
    · exact ih _ _ (doS_len cs r.x h h0).1 (doS_len cs r.x h h0).2
theorem judge_good (l : List Rul) : ∀ (cs : List Cfg) (i : Nat), Good cs → cs.length ≤ 41 → 0 < cs.length → Good (judgeS cs l i).1 := by
  induction l with
  | nil => intro cs i h _ _; exact h
  | cons r l ih =>
    intro cs i h h1 h0
    rw [judgeS]
    split
    · exact good_do _ h h0
    · exact ih _ _ (good_do _ h h0) (doS_len cs r.x h1 h0).1 (doS_len cs r.x h1 h0).2
theorem judge_at (l : List Rul) : ∀ (cs : List Cfg) (i : Nat), (judgeS cs l i).2 = -1 ∨ ((i : Int) ≤ (judgeS cs l i).2 ∧ (judgeS cs l i).2 < i + l.length) := by
  induction l with
  | nil => intro cs i; exact .inl rfl
  | cons r l ih =>
    intro cs i
    rw [judgeS]
    split
    · right; simp only [List.length_cons]; omega
    · rcases ih (doS cs r.x).1 (i + 1) with h | ⟨h1, h2⟩
      · exact .inl h
      · right; simp only [List.length_cons]; omega
theorem judge_take (l : List Rul) : ∀ (cs : List Cfg) (i n : Nat), (judgeS cs l i).2 = -1 → (judgeS cs (l.take n) i).2 = -1 ∧ (judgeS cs (l.take n) i).1 <+: (judgeS cs l i).1 := by
  induction l with
  | nil => intro cs i n h; rw [List.take_nil]; exact ⟨rfl, List.prefix_rfl⟩
  | cons r l ih =>
    intro cs i n h
    cases n with
    | zero => exact ⟨rfl, judge_prefix _ _ _⟩
    | succ n =>
      rw [List.take_succ_cons]
      rw [judgeS] at h ⊢
      split at h
      · exfalso; simp only at h; omega
      · rename_i hne
        rw [if_neg hne]
        have := ih _ _ n h
        refine ⟨this.1, ?_⟩
        rw [judgeS, if_neg hne]
        exact this.2
theorem prefix_get {a b : List Cfg} (h : a <+: b) (k : Nat) (hk : k < a.length) : ∃ hb : k < b.length, b[k] = a[k] := by
  obtain ⟨t, rfl⟩ := h
  exact ⟨by rw [List.length_append]; omega, List.getElem_append_left hk⟩

/-- What a chain of configurations cs says of one that was seen. -/
def cfgEqB (a b : Cfg) : Bool := a.num == b.num && (ownEq a.o b.o && (a.gs == b.gs))
theorem cfgEqB_iff (a b : Cfg) : cfgEqB a b = true ↔ a = b := by
  obtain ⟨n, g, o⟩ := a
  obtain ⟨m, k, p⟩ := b
  simp only [cfgEqB, Bool.and_eq_true, beq_iff_eq, Cfg.mk.injEq]
  rw [ownEq_iff]
  constructor
  · rintro ⟨h1, h2, h3⟩; exact ⟨h1, h3, h2⟩
  · rintro ⟨h1, h2, h3⟩; exact ⟨h1, h3, h2⟩
def badC (cs : List Cfg) (c : Cfg) : Bool := !((getS cs c.num).2 == 0 && cfgEqB (getS cs c.num).1 c)
def seenS (cs : List Cfg) : List Cfg → Nat → Int × Int
  | [], _ => (0, 0)
  | c :: l, i => if badC cs c = true then (2, (i : Int)) else seenS cs l (i + 1)
theorem seen_drop (cs l : List Cfg) (k : Nat) (hk : k < l.length) : seenS cs (l.drop k) k = if badC cs l[k] = true then (2, (k : Int)) else seenS cs (l.drop (k + 1)) (k + 1) := by
  rw [List.drop_eq_getElem_cons hk]; rfl
theorem seen_good (cs : List Cfg) (l : List Cfg) : ∀ i, (∀ c ∈ l, badC cs c = false) → seenS cs l i = (0, 0) := by
  induction l with
  | nil => intro i _; rfl
  | cons c l ih =>
    intro i h
    rw [seenS, if_neg (by rw [h c (by simp)]; simp)]
    exact ih _ (fun d hd => h d (by simp [hd]))
theorem begins_good {a b : List Cfg} (h : a <+: b) (hg : Good b) : ∀ c ∈ a, badC b c = false := by
  intro c hc
  obtain ⟨k, hk, rfl⟩ := List.getElem_of_mem hc
  obtain ⟨hb, he⟩ := prefix_get h k hk
  have hn : (a[k]).num = (k : Int) := by rw [← he]; exact hg.2 k hb
  have hs : getS b (a[k]).num = (a[k], 0) := by
    unfold getS
    rw [hn, if_pos (by omega), Int.toNat_natCast, List.getD_eq_getElem?_getD, List.getElem?_eq_getElem hb]
    simp [he]
  unfold badC
  rw [hs]
  simp only [Bool.not_eq_false', Bool.and_eq_true]
  exact ⟨rfl, (cfgEqB_iff _ _).2 rfl⟩

/-- How many shards move. -/
def mv1 (a b : Own) (k : Nat) : Int := if a.get k ≠ 0 ∧ a.get k ≠ b.get k then 1 else 0
def mvK (a b : Own) : Nat → Int
  | 0 => 0
  | k + 1 => mvK a b k + mv1 a b k
def mv (a b : Own) : Int := mvK a b 4
theorem mvK_bd (a b : Own) (k : Nat) : 0 ≤ mvK a b k ∧ mvK a b k ≤ k := by
  induction k with
  | zero => simp [mvK]
  | succ k ih => rw [mvK]; unfold mv1; split <;> omega
def cntK (a : Own) (g : Int) : Nat → Int
  | 0 => 0
  | k + 1 => cntK a g k + (if a.get k = g then 1 else 0)
theorem cntK_bd (a : Own) (g : Int) (k : Nat) : 0 ≤ cntK a g k ∧ cntK a g k ≤ k := by
  induction k with
  | zero => simp [cntK]
  | succ k ih => rw [cntK]; split <;> omega
def movesS (cs : List Cfg) : List Int := (List.range (cs.length - 1)).map fun k => mv (cs.getD k cfg0).o (cs.getD (k + 1) cfg0).o
theorem own_in {c : Cfg} (hc : checkB c = true) (k : Nat) (hk : k < 4) (h0 : 0 < c.gs.length) : inS (c.o.get k) c.gs = true := by
  simp only [checkB, Bool.and_eq_true] at hc
  have : c.o.get k ∈ c.own := by
    have h : k = 0 ∨ k = 1 ∨ k = 2 ∨ k = 3 := by omega
    rcases h with rfl | rfl | rfl | rfl <;> simp [Cfg.own, Own.list, Own.get]
  have := List.all_eq_true.1 hc.2 _ this
  unfold ownB at this
  rwa [if_neg (by omega)] at this
theorem in_pos {gs : List Int} {g : Int} (h : inS g gs = true) : 0 < gs.length := by
  cases gs with
  | nil => simp [inS] at h
  | cons a r => simp
theorem move_one {c : Cfg} {x : Cmd} (h : (nextS c x).2 = 0) (hk : x.kind = 3) : mv c.o (nextS c x).1.o = 1 := by
  obtain ⟨hck, hrf, he⟩ := next_is h
  rw [he]
  obtain ⟨hgb, hnum, hcase⟩ := refused_zero hrf
  rcases hcase with ⟨h1, _⟩ | ⟨h1, _⟩ | ⟨_, hin, s0, s4⟩
  · omega
  · omega
  · have hne : c.o.get x.shard.toNat ≠ x.group := by
      unfold refusedS at hrf
      intro hq
      simp [hq, hk, hin] at hrf
      omega
    have hpos := in_pos hin
    have hz : ∀ k, k < 4 → c.o.get k ≠ 0 := by
      intro k hk4
      have h1 := own_in hck k hk4 hpos
      have h2 := (check_bounds hck).2.2.2.1 (c.o.get k) (by simpa [inS] using h1)
      omega
    have how : nextOwn c x = c.o.put x.shard.toNat x.group := by unfold nextOwn; rw [if_pos hk]
    show mv c.o (nextOwn c x) = 1
    rw [how]
    have z0 := hz 0 (by omega)
    have z1 := hz 1 (by omega)
    have z2 := hz 2 (by omega)
    have z3 := hz 3 (by omega)
    have h4 : x.shard.toNat = 0 ∨ x.shard.toNat = 1 ∨ x.shard.toNat = 2 ∨ x.shard.toNat = 3 := by omega
    rcases h4 with h | h | h | h <;> rw [h] at hne ⊢ <;> simp [mv, mvK, mv1, Own.get, Own.put] at z0 z1 z2 z3 hne ⊢ <;> simp [*]
theorem leave_most {c : Cfg} {x : Cmd} (h : (nextS c x).2 = 0) (hk : x.kind = 2) : cntK c.o x.group 4 ≤ mv c.o (nextS c x).1.o := by
  have hn := next_check h
  obtain ⟨hck, hrf, he⟩ := next_is h
  obtain ⟨hgb, hnum, hcase⟩ := refused_zero hrf
  have hgp : 1 ≤ x.group := by simp [groupB] at hgb; omega
  have hgs : (nextS c x).1.gs = offS x.group c.gs := by rw [he]; show nextGs c.gs x = _; unfold nextGs; rw [if_neg (by omega), if_pos hk]
  have hno : ∀ k, k < 4 → (nextS c x).1.o.get k ≠ x.group := by
    intro k hk4 hq
    by_cases h0 : 0 < (nextS c x).1.gs.length
    · have := own_in hn k hk4 h0
      rw [hq, hgs] at this
      simp [inS, offS] at this
    · have hb := hn
      simp only [checkB, Bool.and_eq_true] at hb
      have hm : (nextS c x).1.o.get k ∈ (nextS c x).1.own := by
        have h : k = 0 ∨ k = 1 ∨ k = 2 ∨ k = 3 := by omega
        rcases h with rfl | rfl | rfl | rfl <;> simp [Cfg.own, Own.list, Own.get]
      have := List.all_eq_true.1 hb.2 _ hm
      unfold ownB at this
      rw [if_pos (by omega), hq] at this
      simp at this
      omega
  have key : ∀ k, k ≤ 4 → cntK c.o x.group k ≤ mvK c.o (nextS c x).1.o k := by
    intro k
    induction k with
    | zero => intro _; simp [cntK, mvK]
    | succ k ih =>
      intro hk4
      have := ih (by omega)
      rw [cntK, mvK]
      by_cases hq : c.o.get k = x.group
      · have hm : mv1 c.o (nextS c x).1.o k = 1 := by
          unfold mv1
          rw [if_pos ⟨by omega, fun e => hno k (by omega) (by rw [← e]; exact hq)⟩]
        rw [if_pos hq, hm]; omega
      · rw [if_neg hq]
        have : 0 ≤ mv1 c.o (nextS c x).1.o k := by unfold mv1; split <;> omega
        omega
  exact key 4 (by omega)

end Go.Proofs.YtijacbnoemjgcaaGreatDoor
