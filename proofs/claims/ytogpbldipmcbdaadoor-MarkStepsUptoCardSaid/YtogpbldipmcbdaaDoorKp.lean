/- MarkSteps, plain: the document's marks hold the same votes. -/
import Derived.Test.YtogpbldipmcbdaaDoorKj
set_option linter.unusedVariables false
set_option linter.unusedSimpArgs false
set_option linter.unnecessarySimpa false
namespace Go.Proofs.YtogpbldipmcbdaaDoor
open Go.RowKit Go.Shelf

structure RVot where
  no : Int
  n : Int
  s : Bs
  t : Bs
def RVot.cells (v : RVot) : List Value := [.int .i64 v.no, .int .i64 v.n, .string ⟨v.s.toArray⟩, .string ⟨v.t.toArray⟩]
/-- The document's marks. -/
structure RMk where
  g : Int
  f : Int
  l : List RVot
  sg : Int
  n : Int
  s : Bs
  c : Crt
def rofS : List RVot → Int → Int
  | [], _ => 0
  | v :: l, no => if v.no = no then v.n else rofS l no
/-- The tags of one replica's votes. -/
def rtagN (n : Int) (s : Bs) (no : Int) (l : List RVot) : List TagV := (l.filter fun v => v.no == no && (v.n == n && v.s == s)).map fun v => (no, v.t)
/-- The tags of the first replicas' votes. -/
def rtags (n : Int) (s : Bs) (l : List RVot) : Nat → List TagV
  | 0 => []
  | k + 1 => rtags n s l k ++ rtagN n s k l
structure RVoteR where
  m : RMk
  ok : Bool
  e : Int
def rvoteS (m : RMk) (v : RVot) : RVoteR :=
  if v.no < 0 ∨ 3 * m.f < v.no then ⟨m, false, 1⟩
  else if ¬ (mrkT m.g v.n v.s).2 = 0 then ⟨m, false, (mrkT m.g v.n v.s).2⟩
  else if ¬ v.t.length = 16 then ⟨m, false, 4⟩
  else if v.n ≤ rofS m.l v.no then ⟨m, false, 0⟩
  else if v.n ≤ m.n ∨ ((rtags v.n v.s (m.l.filter (fun x => x.no != v.no) ++ [v]) (3 * m.f + 1).toNat).length : Int) < 2 * m.f + 1 then ⟨{ m with l := m.l.filter (fun x => x.no != v.no) ++ [v] }, false, 0⟩
  else ⟨{ m with l := m.l.filter (fun x => x.no != v.no) ++ [v], sg := m.g, n := v.n, s := v.s, c := ⟨(mrkT m.g v.n v.s).1, m.g, rtags v.n v.s (m.l.filter (fun x => x.no != v.no) ++ [v]) (3 * m.f + 1).toNat⟩ }, true, 0⟩
def radoptS (m : RMk) (c : Crt) : RVoteR :=
  if (mrkR c.t).e = 0 ∧ (mrkR c.t).g = m.g ∧ c.g = m.g then
    (if (mrkR c.t).n ≤ m.n then ⟨m, false, 0⟩ else ⟨{ m with sg := (mrkR c.t).g, n := (mrkR c.t).n, s := (mrkR c.t).s, c := c }, true, 0⟩)
  else ⟨m, false, 4⟩

/-- Both hold the same votes. -/
structure SameV (vs : List Vot) (l : List RVot) : Prop where
  at_ : ∀ k (hk : k < vs.length), l.filter (fun v => v.no == (k : Int)) = if vs[k].n = 0 then [] else [⟨k, vs[k].n, vs[k].s, vs[k].t⟩]
  rng : ∀ v ∈ l, 0 ≤ v.no ∧ v.no < vs.length
  pos : ∀ v ∈ l, 1 ≤ v.n
structure SameM (m : Mks) (r : RMk) : Prop where
  g : r.g = m.g
  f : r.f = m.f
  v : SameV m.vs r.l
  n : r.n = m.n
  s : r.s = m.s
  c : r.c = m.c
theorem rof_filter (l : List RVot) (no : Int) : rofS l no = match l.filter (fun v => v.no == no) with
    | [] => 0
    | v :: _ => v.n := by
  induction l with
  | nil => rfl
  | cons v l ih =>
    rw [rofS, List.filter_cons]
    by_cases h : v.no = no
    · rw [if_pos h, if_pos (by simpa using h)]
    · rw [if_neg h, if_neg (by simpa using h), ih]
theorem rof_same {vs : List Vot} {l : List RVot} (h : SameV vs l) (no : Int) : rofS l no = ofV vs no := by
  by_cases hno : 0 ≤ no ∧ no < vs.length
  · obtain ⟨k, rfl⟩ : ∃ k : Nat, no = (k : Int) := ⟨no.toNat, by omega⟩
    have hk : k < vs.length := by omega
    rw [rof_filter, ofV_at vs k hk, h.at_ k hk]
    split
    · rename_i h0; split at h0
      · rename_i hz; rw [hz]
      · cases h0
    · rename_i v l' h0; split at h0
      · cases h0
      · injection h0 with h0 _; rw [← h0]
  · rw [rof_filter, ofV_out vs no (by omega)]
    have : l.filter (fun v => v.no == no) = [] := by
      apply List.filter_eq_nil_iff.2
      intro v hv
      have := h.rng v hv
      simp
      omega
    rw [this]
theorem rtags_same {vs : List Vot} {l : List RVot} (h : SameV vs l) (n : Int) (hn : 1 ≤ n) (s : Bs) : ∀ k, k ≤ vs.length → rtags n s l k = pickV n s 0 (vs.take k) := by
  intro k
  induction k with
  | zero => intro _; simp [rtags, pickV]
  | succ k ih =>
    intro hk
    rw [rtags, ih (by omega), pickV_take n s vs k (by omega)]
    congr 1
    unfold rtagN
    have e : (l.filter fun v => v.no == (k : Int) && (v.n == n && v.s == s)) = (l.filter fun v => v.no == (k : Int)).filter fun v => (v.n == n && v.s == s) := by
      rw [List.filter_filter]
      congr 1
      funext v
      rw [Bool.and_comm]
    rw [e, h.at_ k (by omega)]
    unfold saidEq
    by_cases hz : vs[k].n = 0
    · rw [if_pos hz]
      have : (vs[k].n == n) = false := by simp; omega
      simp [this]
    · rw [if_neg hz]
      by_cases hq : (vs[k].n == n && vs[k].s == s) = true
      · simp only [List.filter_cons, List.filter_nil, hq, if_true]
        rfl
      · simp only [List.filter_cons, List.filter_nil, hq, if_false, Bool.false_eq_true]
        rfl
theorem sameV_set {vs : List Vot} {l : List RVot} (h : SameV vs l) (k : Nat) (hk : k < vs.length) (n : Int) (hn : 1 ≤ n) (s t : Bs) : SameV (vs.set k ⟨n, s, t⟩) (l.filter (fun x => x.no != (k : Int)) ++ [⟨k, n, s, t⟩]) := by
  refine ⟨?_, ?_, ?_⟩
  · intro j hj
    simp only [List.length_set] at hj
    rw [List.filter_append, List.filter_filter]
    by_cases e : j = k
    · subst e
      have h1 : (l.filter fun a => (a.no == (j : Int) && a.no != (j : Int))) = [] := by
        apply List.filter_eq_nil_iff.2
        intro v _
        simp
      rw [h1]
      simp
      omega
    · have h1 : (l.filter fun a => (a.no == (j : Int) && a.no != (k : Int))) = l.filter fun a => a.no == (j : Int) := by
        apply List.filter_congr
        intro v _
        by_cases hv : v.no = (j : Int)
        · simp [hv]; omega
        · have : (v.no == (j : Int)) = false := by simpa using hv
          rw [this]; rfl
      have h2 : ((k : Int) == (j : Int)) = false := by simp; omega
      rw [h1, h.at_ j hj]
      simp only [List.filter_cons, List.filter_nil, h2, Bool.false_eq_true, if_false, List.append_nil]
      rw [List.getElem_set_ne (by omega)]
  · intro v hv
    rw [List.length_set]
    rcases List.mem_append.1 hv with hv | hv
    · exact h.rng v (List.mem_filter.1 hv).1
    · rw [List.mem_singleton] at hv
      subst hv
      simp; omega
  · intro v hv
    rcases List.mem_append.1 hv with hv | hv
    · exact h.pos v (List.mem_filter.1 hv).1
    · rw [List.mem_singleton] at hv
      subst hv
      exact hn
/-- A vote: both do the same. -/
theorem vote_same {m : Mks} {r : RMk} (h : SameM m r) (hlen : (m.vs.length : Int) = 3 * m.f + 1) (no n : Int) (s t : Bs) :
    SameM (voteS m no n s t).m (rvoteS r ⟨no, n, s, t⟩).m ∧ (rvoteS r ⟨no, n, s, t⟩).ok = (voteS m no n s t).ok ∧ (rvoteS r ⟨no, n, s, t⟩).e = (voteS m no n s t).e := by
  unfold voteS rvoteS
  simp only [h.g, h.f, h.n, rof_same h.v no]
  by_cases h1 : no < 0 ∨ (m.vs.length : Int) ≤ no
  · have h1r : no < 0 ∨ 3 * m.f < no := by omega
    simp only [if_pos h1, if_pos h1r]
    exact ⟨h, by trivial, by trivial⟩
  · have h1r : ¬ (no < 0 ∨ 3 * m.f < no) := by omega
    simp only [if_neg h1, if_neg h1r]
    by_cases h2 : (mrkT m.g n s).2 = 0
    · have c2 : ¬ ¬ (mrkT m.g n s).2 = 0 := fun x => x h2
      simp only [if_neg c2]
      by_cases h3 : t.length = 16
      · have c3 : ¬ ¬ t.length = 16 := fun x => x h3
        simp only [if_neg c3]
        by_cases h4 : n ≤ ofV m.vs no
        · simp only [if_pos h4]
          exact ⟨h, by trivial, by trivial⟩
        · simp only [if_neg h4]
          obtain ⟨k, rfl⟩ : ∃ k : Nat, no = (k : Int) := ⟨no.toNat, by omega⟩
          have hk : k < m.vs.length := by omega
          have hn : 1 ≤ n := by
            have := ((mrkT_ok m.g n s).1 h2).1
            rw [mrkIn_iff] at this
            omega
          have hs := sameV_set h.v k hk n hn s t
          simp only [Int.toNat_natCast]
          have e : (3 * m.f + 1).toNat = (m.vs.set k ⟨n, s, t⟩).length := by rw [List.length_set]; omega
          have ht := rtags_same hs n hn s (m.vs.set k ⟨n, s, t⟩).length (Nat.le_refl _)
          rw [List.take_length] at ht
          rw [e, ht]
          by_cases h5 : n ≤ m.n
          · have h5r : n ≤ m.n ∨ ((pickV n s 0 (m.vs.set k ⟨n, s, t⟩)).length : Int) < 2 * m.f + 1 := .inl h5
            simp only [if_pos h5, if_pos h5r]
            exact ⟨⟨rfl, rfl, hs, rfl, h.s, h.c⟩, by trivial, by trivial⟩
          · by_cases h6 : ((pickV n s 0 (m.vs.set k ⟨n, s, t⟩)).length : Int) < 2 * m.f + 1
            · have h5r : n ≤ m.n ∨ ((pickV n s 0 (m.vs.set k ⟨n, s, t⟩)).length : Int) < 2 * m.f + 1 := .inr h6
              simp only [if_neg h5, if_pos h6, if_pos h5r]
              exact ⟨⟨rfl, rfl, hs, rfl, h.s, h.c⟩, by trivial, by trivial⟩
            · have h5r : ¬ (n ≤ m.n ∨ ((pickV n s 0 (m.vs.set k ⟨n, s, t⟩)).length : Int) < 2 * m.f + 1) := by omega
              simp only [if_neg h5, if_neg h6, if_neg h5r]
              exact ⟨⟨rfl, rfl, hs, rfl, rfl, rfl⟩, by trivial, by trivial⟩
      · simp only [if_pos h3]
        exact ⟨h, by trivial, by trivial⟩
    · simp only [if_pos h2]
      exact ⟨h, by trivial, by trivial⟩
theorem adopt_same {m : Mks} {r : RMk} (h : SameM m r) (c : Crt) :
    SameM (adoptS m c).m (radoptS r c).m ∧ (radoptS r c).ok = (adoptS m c).ok ∧ (radoptS r c).e = (adoptS m c).e := by
  unfold adoptS radoptS
  simp only [h.g, h.n]
  by_cases h1 : (mrkR c.t).e = 0 ∧ (mrkR c.t).g = m.g ∧ c.g = m.g
  · simp only [if_pos h1]
    by_cases h2 : (mrkR c.t).n ≤ m.n
    · simp only [if_pos h2]
      exact ⟨h, by trivial, by trivial⟩
    · simp only [if_neg h2]
      exact ⟨⟨rfl, h.f, h.v, rfl, rfl, rfl⟩, by trivial, by trivial⟩
  · simp only [if_neg h1]
    exact ⟨h, by trivial, by trivial⟩

end Go.Proofs.YtogpbldipmcbdaaDoor
